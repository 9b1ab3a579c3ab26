/- Parts of the proof, side by side: FsEnts, FsCopy, FsMake, FsSweep, FsFr, FsWithin. -/
import Derived.Test.YtilkhmhgjbhfnaaGreatDoorM01
import Derived.Test.YtilkhmhgjbhfnaaGreatDoorM02
import Derived.Deep.Cut
import Derived.Deep.DeepCutAuto
import Derived.Handy
import Derived.Deep.RegionHeld3
set_option linter.unusedVariables false
set_option linter.unusedSimpArgs false
namespace Go.Proofs.YtilkhmhgjbhfnaaGreatDoor
open Go.RowKit
theorem box_ino (w : World) (num : Int) (dir : Bool) (E : Option Addr) (m d : Nat) (data : ByteArray) : ∃ W, w.alloc (.cells #[.int .i64 num, .bool dir, .slice E m d, .string data] 65) = W ∧ W.cell? ⟨w.heap.size, 0, .none⟩ = some (.int .i64 num) ∧ W.cell? ⟨w.heap.size, 1, .none⟩ = some (.bool dir) ∧ W.cell? ⟨w.heap.size, 2, .none⟩ = some (.slice E m d) ∧ W.cell? ⟨w.heap.size, 3, .none⟩ = some (.string data) ∧ Below w.heap.size w W ∧ w.heap.size < W.heap.size := by
 refine ⟨_, rfl, ?_, ?_, ?_, ?_, (Below.refl _ _).alloc (Nat.le_refl _) _, by simp⟩
 ·exact (World.cell?_alloc_mark w _ _ (0, 0) _).trans rfl
 ·exact (World.cell?_alloc_mark w _ _ (0, 0) _).trans rfl
 ·exact (World.cell?_alloc_mark w _ _ (0, 0) _).trans rfl
 ·exact (World.cell?_alloc_mark w _ _ (0, 0) _).trans rfl
theorem box_en (w : World) (name : ByteArray) (num : Int) : ∃ W, w.alloc (.cells #[.string name, .int .i64 num] 131) = W ∧ W.cell? ⟨w.heap.size, 0, .none⟩ = some (.string name) ∧ W.cell? ⟨w.heap.size, 1, .none⟩ = some (.int .i64 num) ∧ Below w.heap.size w W ∧ w.heap.size < W.heap.size := by
 refine ⟨_, rfl, ?_, ?_, (Below.refl _ _).alloc (Nat.le_refl _) _, by simp⟩
 ·exact (World.cell?_alloc_mark w _ _ (0, 0) _).trans rfl
 ·exact (World.cell?_alloc_mark w _ _ (0, 0) _).trans rfl
def ManyAt (w : World) (M : Nat) (f : Nat → Nat) : Prop := ∃ cur : Array Value, w.heap[M]? = some (.cells cur 3 (0, 0)) ∧ ∀ j, j < 8 → cur[j]? = some (.int .i64 (f j : Nat))
theorem ManyAt.lt {w : World} {M : Nat} {f : Nat → Nat} (h : ManyAt w M f) : M < w.heap.size := by
 obtain ⟨cur, hh, _⟩ := h
 exact (Array.getElem?_eq_some_iff.1 hh).1
theorem ManyAt.below {w w' : World} {M : Nat} {f : Nat → Nat} (h : ManyAt w M f) (hb : Below w.heap.size w w') : ManyAt w' M f := by
 have hl := h.lt
 obtain ⟨cur, hh, hc⟩ := h
 exact ⟨cur, (hb.block M hl).trans hh, hc⟩
theorem ManyAt.get {w : World} {M : Nat} {f : Nat → Nat} (h : ManyAt w M f) (j : Nat) (hj : j < 8) : w.cell? ⟨M, j, .none⟩ = some (.int .i64 (f j : Nat)) ∧ w.frozen? ⟨M, j, .none⟩ = false := by
 obtain ⟨cur, hh, hc⟩ := h
 exact ⟨by rw [cell_of_row w M j cur _ (0, 0) hh]; exact hc j hj, frozen_of_row w M j cur _ hh⟩
theorem ManyAt.set {w : World} {M : Nat} {f : Nat → Nat} (h : ManyAt w M f) (b : Nat) (hb : b < 8) : ManyAt (w.setCell ⟨M, b, .none⟩ (.int .i64 ((f b : Int) + 1))) M (fun j => if j = b then f j + 1 else f j) := by
 obtain ⟨cur, hh, hc⟩ := h
 refine ⟨_, heap_setCell_same w M b cur _ _ hh, fun j hj => ?_⟩
 rw [Array.getElem?_setIfInBounds]
 by_cases e : b = j
 ·subst e
  have : b < cur.size := (Array.getElem?_eq_some_iff.1 (hc b hb)).1
  simp [this]
 ·have e2 : ¬ j = b := fun h => e h.symm
  simp only [e, e2, if_false]
  exact hc j hj
def prevN (es : List En) (k : Nat) : Option ByteArray := if k = 0 then none else (es[k - 1]?).map (·.name)
theorem bktB_lt (s : ByteArray) : bktB s < 8 := Nat.mod_lt _ (by omega)
theorem infoEnt : (Tryz.prog.info? 131).map (fun i => (i.zero, i.size, i.bytes)) = some (some (.agg #[.string ⟨#[]⟩, .int .i64 0]), 2, 24) := by kernel_rfl
theorem infoIno : (Tryz.prog.info? 65).map (fun i => (i.zero, i.size, i.bytes)) = some (some (.agg #[.int .i64 0, .bool false, .slice none 0 0, .string ⟨#[]⟩]), 4, 56) := by kernel_rfl
theorem infoDs : (Tryz.prog.info? 97).map (fun i => (i.zero, i.size, i.bytes)) = some (some (.agg #[.int .i64 0, .int .i64 0, .int .i64 0]), 3, 24) := by kernel_rfl
theorem flat_cells {α : Type} {w : World} {g off : Nat} (f : α → List Value) (k : Nat) (hk : ∀ x, (f x).length = k) (h0 : 0 < k) (l : List α) (h : ∀ j x, l[j]? = some x → ∀ i, i < k → w.cell? ⟨g, off + j * k + i, none⟩ = (f x)[i]?) :
  ∀ j u, (l.flatMap f)[j]? = some u → w.cell? ((⟨g, off, none⟩ : Addr).add j) = some u := by
 intro j u hu
 have hl := flat_len f k hk l
 have hjl : j < l.length * k := by rw [← hl]; exact (List.getElem?_eq_some_iff.1 hu).1
 have hq : j / k < l.length := Nat.div_lt_of_lt_mul (by rw [Nat.mul_comm]; exact hjl)
 have hm : j % k < k := Nat.mod_lt _ h0
 have hx := List.getElem?_eq_getElem hq
 have e1 := flat_get f k hk l (j / k) _ hx (j % k) hm
 have e2 : j / k * k + j % k = j := by rw [Nat.mul_comm]; exact Nat.div_add_mod j k
 rw [e2] at e1
 have e3 := h (j / k) _ hx (j % k) hm
 have e4 : (⟨g, off, none⟩ : Addr).add j = ⟨g, off + j, none⟩ := by unfold Addr.add; split <;> simp_all
 rw [e4, ← hu, e1, ← e3]
 congr 2
 omega
theorem wpList_append_flat {P : Program} {w : World} {ops : Array Oper} {rest : List Oper} {o : Oper} {a : Act} {Q : Exit → Act → World → Prop} (hgd : o.guard = none) (s x : Operand) (t e : TypeId) (z : Value) (size bytes : Nat)
  (ho : o.op = .call { callee := .builtin .append, args := #[s, x], argTypes := #[t, t] }) (ht : P.underlying t = some (.slice e)) (hinfo : (P.info? e).map (fun i => (i.zero, i.size, i.bytes)) = some (some z, size, bytes)) (hzs : z.cells.size = size) (hsz : 0 < size)
  (B : Nat) (v : Value) (n : Nat) (xs : List Value) (hs : a.eval s = v) (hown : w.ownsRow B e size v n xs) (A : Option Addr) (m c : Nat) (vs : List Value) (hx : a.eval x = .slice A m c) (hl : vs.length = m * size)
  (hr : ∀ ad, A = some ad → ∀ j u, vs[j]? = some u → w.cell? (ad.add j) = some u) (hn : A = none → m = 0 ∧ c = 0)
  (hone : ∀ u ∈ vs, u.oneCell' = true) (h63 : n + m ≤ maxLen) (hb : (n + m) * bytes ≤ 140737488355328) (hB : B ≤ w.heap.size)
  (h : ∀ v' w', w'.ownsRow B e size v' (n + m) (xs ++ vs) → w.grownBy w' v.ownBlock → wpList P ops Q rest (a.put o.dst v') w') : wpList P ops Q (o :: rest) a w := by
 obtain ⟨i0, hi, hz0, hz1, hz2⟩ := info_parts hinfo
 rcases A with _ | ad
 ·obtain ⟨rfl, rfl⟩ := hn rfl
  have hts : vs = [] := List.eq_nil_of_length_eq_zero (by simpa using hl)
  subst hts
  refine wpList_append_own_none hgd s x t ho B e i0 size ht hi v n xs hs hown hx ?_
  exact h v w (by simpa using hown) ⟨rfl, rfl, rfl, Nat.le_refl _, fun _ _ _ => rfl⟩
 ·refine wpList_append_own w hgd s x t ho B e i0 z size bytes ht hi hz0 hz1 hz2 hzs hsz v n xs hs hown ad m c vs hx hl (hr ad rfl) hone h63 hb hB ?_
  intro v' w' h2 h3 _
  exact h v' w' h2 h3
theorem EntsAt.flat {lo : Option Nat} {w : World} {A : Option Addr} {n c : Nat} {es : List En} (h : EntsAt lo w A n es) (hok : SlOk A n c) : (es.flatMap enV).length = n * 2 ∧ (∀ ad, A = some ad → ∀ j u, (es.flatMap enV)[j]? = some u → w.cell? (ad.add j) = some u) ∧ (A = none → n = 0 ∧ c = 0) := by
 refine ⟨by rw [flat_len enV 2 (fun _ => rfl), h.1], fun ad had j u hu => ?_, fun e => ⟨?_, hok.2 e⟩⟩
 ·have hn : 0 < n := by
   rcases Nat.eq_zero_or_pos n with h0 | h0
   ·have : es = [] := List.eq_nil_of_length_eq_zero (by rw [h.1, h0])
    subst this
    simp at hu
   ·exact h0
  obtain ⟨g, off, hA, hg, hm, hc⟩ := h.2 hn
  rw [hA] at had
  injection had with had
  subst had
  refine flat_cells enV 2 (fun _ => rfl) (by decide) es (fun j x hx i hi => ?_) j u hu
  obtain ⟨h1, h2⟩ := hc j x hx
  have : i = 0 ∨ i = 1 := by omega
  rcases this with rfl | rfl
  ·exact h1
  ·exact h2
 ·rcases Nat.eq_zero_or_pos n with h0 | h0
  ·exact h0
  ·obtain ⟨g, off, hA, _⟩ := h.2 h0
   rw [hA] at e; cases e
theorem DescsAt.flat {lo : Option Nat} {w : World} {A : Option Addr} {n c : Nat} {ds : List Ds} (h : DescsAt lo w A n ds) (hok : SlOk A n c) : (ds.flatMap dsV).length = n * 3 ∧ (∀ ad, A = some ad → ∀ j u, (ds.flatMap dsV)[j]? = some u → w.cell? (ad.add j) = some u) ∧ (A = none → n = 0 ∧ c = 0) := by
 refine ⟨by rw [flat_len dsV 3 (fun _ => rfl), h.1], fun ad had j u hu => ?_, fun e => ⟨?_, hok.2 e⟩⟩
 ·have hn : 0 < n := by
   rcases Nat.eq_zero_or_pos n with h0 | h0
   ·have : ds = [] := List.eq_nil_of_length_eq_zero (by rw [h.1, h0])
    subst this
    simp at hu
   ·exact h0
  obtain ⟨g, off, hA, hg, hm, hc⟩ := h.2 hn
  rw [hA] at had
  injection had with had
  subst had
  refine flat_cells dsV 3 (fun _ => rfl) (by decide) ds (fun j x hx i hi => ?_) j u hu
  obtain ⟨h1, h2, h3⟩ := hc j x hx
  have : i = 0 ∨ i = 1 ∨ i = 2 := by omega
  rcases this with rfl | rfl | rfl
  ·exact h1
  ·exact h2
  ·exact h3
 ·rcases Nat.eq_zero_or_pos n with h0 | h0
  ·exact h0
  ·obtain ⟨g, off, hA, _⟩ := h.2 h0
   rw [hA] at e; cases e
theorem IntsAt.flat {lo : Option Nat} {w : World} {A : Option Addr} {n c : Nat} {xs : List Int} (h : IntsAt lo w A n xs) (hok : SlOk A n c) : (xs.map (Value.int .i64)).length = n * 1 ∧ (∀ ad, A = some ad → ∀ j u, (xs.map (Value.int .i64))[j]? = some u → w.cell? (ad.add j) = some u) ∧ (A = none → n = 0 ∧ c = 0) := by
 refine ⟨by rw [List.length_map, h.1]; omega, fun ad had j u hu => ?_, fun e => ⟨?_, hok.2 e⟩⟩
 ·rw [List.getElem?_map] at hu
  obtain ⟨x, hx, rfl⟩ := Option.map_eq_some_iff.1 hu
  have hn : 0 < n := by have := (List.getElem?_eq_some_iff.1 hx).1; have := h.1; omega
  obtain ⟨g, off, hA, hg, hm, hc⟩ := h.2 hn
  rw [hA] at had
  injection had with had
  subst had
  have e4 : (⟨g, off, none⟩ : Addr).add j = ⟨g, off + j, none⟩ := by unfold Addr.add; split <;> simp_all
  rw [e4]
  exact hc j x hx
 ·rcases Nat.eq_zero_or_pos n with h0 | h0
  ·exact h0
  ·obtain ⟨g, off, hA, _⟩ := h.2 h0
   rw [hA] at e; cases e
theorem KeepT.grown {w w' : World} {B k n : Nat} {t t' : TypeId} {v : Value} {xs : List Value} (h : w.ownsRow B t' k v n xs) (hg : w.grownBy w' v.ownBlock) (hne : t' ≠ t) : KeepT t w w' :=
 ⟨hg.size, fun b cur hb => hg.block b (Array.getElem?_eq_some_iff.1 hb).1 (fun e => by
  rcases h.2 with ⟨rfl, _⟩ | ⟨g, cap, cur', rfl, _, hh, _⟩
  ·cases e
  ·have : b = g := by simpa [Value.ownBlock] using e
   subst this
   rw [hh] at hb
   injection hb with hb
   injection hb with _ hb _
   exact hne hb)⟩
theorem KeepT.trans {t : TypeId} {a b c : World} (h : KeepT t a b) (k : KeepT t b c) : KeepT t a c :=
 ⟨Nat.le_trans h.size k.size, fun x cur hx => (k.same x cur ((h.same x cur hx).trans hx)).trans (h.same x cur hx)⟩
def OutAt (w : World) (P : Nat) (a b c : Value) : Prop := w.heap[P]? = some (.cells #[a, b, c] 31 (0, 0))
theorem OutAt.get {w : World} {P : Nat} {a b c : Value} (h : OutAt w P a b c) : w.cell? ⟨P, 0, none⟩ = some a ∧ w.cell? ⟨P, 1, none⟩ = some b ∧ w.cell? ⟨P, 2, none⟩ = some c ∧ ∀ j, w.frozen? ⟨P, j, none⟩ = false := by
 refine ⟨?_, ?_, ?_, fun j => frozen_of_row w P j _ _ h⟩ <;> (rw [cell_of_row w P _ _ _ (0, 0) h]; rfl)
theorem OutAt.three {w : World} {R : Nat} {a b c : Value} (h : OutAt w R a b c) (x y z : Value) : ∃ w', ((w.setCell ⟨R, 0, none⟩ x).setCell ⟨R, 1, none⟩ y).setCell ⟨R, 2, none⟩ z = w' ∧ OutAt w' R x y z ∧ (∀ t, 31 ≠ t → KeepT t w w') ∧ ∀ (B : Nat) (u : World), B ≤ R → Below B u w → Below B u w' := by
 have h1 : OutAt (w.setCell ⟨R, 0, none⟩ x) R x b c := heap_setCell_same w R 0 _ _ _ h
 have h2 : OutAt ((w.setCell ⟨R, 0, none⟩ x).setCell ⟨R, 1, none⟩ y) R x y c := heap_setCell_same _ R 1 _ _ _ h1
 exact ⟨_, rfl, heap_setCell_same _ R 2 _ _ _ h2, fun t ht => ((KeepT.set h ht).trans (KeepT.set h1 ht)).trans (KeepT.set h2 ht), fun B u hB hb => ((hb.setCell hB _).setCell hB _).setCell hB _⟩
theorem row_empty (w : World) (B : Nat) (e : TypeId) (k : Nat) (hB : B ≤ w.heap.size) : (w.alloc (.cells #[] e)).ownsRow B e k (.slice (some ⟨w.heap.size, 0, .none⟩) 0 0) 0 [] :=
 ⟨by simp, Or.inr ⟨w.heap.size, 0, #[], rfl, hB, heap_alloc_new w _, Nat.le_refl _, Nat.zero_le _, by simp, by simp⟩⟩
theorem enV_one (es : List En) : ∀ u ∈ es.flatMap enV, u.oneCell' = true := by
 intro u hu
 obtain ⟨e, _, he⟩ := List.mem_flatMap.1 hu
 simp [enV] at he
 rcases he with rfl | rfl <;> rfl
theorem dsV_one (es : List Ds) : ∀ u ∈ es.flatMap dsV, u.oneCell' = true := by
 intro u hu
 obtain ⟨e, _, he⟩ := List.mem_flatMap.1 hu
 simp [dsV] at he
 rcases he with rfl | rfl | rfl <;> rfl
def caV (c : Ca) : Value := .agg #[.int .i64 c.kind, .int .i64 c.core, .int .i64 c.fd, .int .i64 c.off, .int .i64 c.num, .string c.path, .string c.path2, .string c.data]
theorem box_ca (w : World) (c : Ca) : ∃ W, w.alloc (.cells #[.int .i64 c.kind, .int .i64 c.core, .int .i64 c.fd, .int .i64 c.off, .int .i64 c.num, .string c.path, .string c.path2, .string c.data] 73) = W ∧
  W.heap[w.heap.size]? = some (.cells #[.int .i64 c.kind, .int .i64 c.core, .int .i64 c.fd, .int .i64 c.off, .int .i64 c.num, .string c.path, .string c.path2, .string c.data] 73 (0, 0)) ∧ Below w.heap.size w W ∧ W.heap.size = w.heap.size + 1 :=
 ⟨_, rfl, heap_alloc_new w _, (Below.refl _ _).alloc (Nat.le_refl _) _, by simp⟩
def ResAt (w : World) (g : Nat) (a b c d e f : Value) : Prop := w.heap[g]? = some (.cells #[a, b, c, d, e, f] 87 (0, 0))
theorem ResAt.lt {w : World} {g : Nat} {a b c d e f : Value} (h : ResAt w g a b c d e f) : g < w.heap.size := (Array.getElem?_eq_some_iff.1 h).1
theorem ResAt.get {w : World} {g : Nat} {a b c d e f : Value} (h : ResAt w g a b c d e f) : w.cell? ⟨g, 0, none⟩ = some a ∧ w.cell? ⟨g, 1, none⟩ = some b ∧ w.cell? ⟨g, 2, none⟩ = some c ∧ w.cell? ⟨g, 3, none⟩ = some d ∧ w.cell? ⟨g, 4, none⟩ = some e ∧ w.cell? ⟨g, 5, none⟩ = some f ∧ ∀ j, w.frozen? ⟨g, j, none⟩ = false := by
 refine ⟨?_, ?_, ?_, ?_, ?_, ?_, fun j => frozen_of_row w g j _ _ h⟩ <;> (rw [cell_of_row w g _ _ _ (0, 0) h]; rfl)
theorem ResAt.six {w : World} {g : Nat} {a b c d e f : Value} (h : ResAt w g a b c d e f) (a' b' c' d' e' f' : Value) :
  ∃ w', (((((w.setCell ⟨g, 0, none⟩ a').setCell ⟨g, 1, none⟩ b').setCell ⟨g, 2, none⟩ c').setCell ⟨g, 3, none⟩ d').setCell ⟨g, 4, none⟩ e').setCell ⟨g, 5, none⟩ f' = w' ∧ ResAt w' g a' b' c' d' e' f' ∧
   (∀ t, 87 ≠ t → KeepT t w w') ∧ (∀ (B : Nat) (u : World), B ≤ g → Below B u w → Below B u w') ∧ (∀ b, b ≠ g → w'.heap[b]? = w.heap[b]?) ∧ w.heap.size ≤ w'.heap.size := by
 have h0 : ResAt (w.setCell ⟨g, 0, none⟩ a') g a' b c d e f := heap_setCell_same _ g 0 _ _ _ h
 have h1 : ResAt ((w.setCell ⟨g, 0, none⟩ a').setCell ⟨g, 1, none⟩ b') g a' b' c d e f := heap_setCell_same _ g 1 _ _ _ h0
 have h2 : ResAt (((w.setCell ⟨g, 0, none⟩ a').setCell ⟨g, 1, none⟩ b').setCell ⟨g, 2, none⟩ c') g a' b' c' d e f := heap_setCell_same _ g 2 _ _ _ h1
 have h3 : ResAt ((((w.setCell ⟨g, 0, none⟩ a').setCell ⟨g, 1, none⟩ b').setCell ⟨g, 2, none⟩ c').setCell ⟨g, 3, none⟩ d') g a' b' c' d' e f := heap_setCell_same _ g 3 _ _ _ h2
 have h4 : ResAt (((((w.setCell ⟨g, 0, none⟩ a').setCell ⟨g, 1, none⟩ b').setCell ⟨g, 2, none⟩ c').setCell ⟨g, 3, none⟩ d').setCell ⟨g, 4, none⟩ e') g a' b' c' d' e' f := heap_setCell_same _ g 4 _ _ _ h3
 exact ⟨_, rfl, heap_setCell_same _ g 5 _ _ _ h4, fun t ht => (((((KeepT.set h ht).trans (KeepT.set h0 ht)).trans (KeepT.set h1 ht)).trans (KeepT.set h2 ht)).trans (KeepT.set h3 ht)).trans (KeepT.set h4 ht), fun B u hB hb => (((((hb.setCell hB _).setCell hB _).setCell hB _).setCell hB _).setCell hB _).setCell hB _, fun b hb => by
  rw [Below.heap_setCell _ _ _ _ hb, Below.heap_setCell _ _ _ _ hb, Below.heap_setCell _ _ _ _ hb, Below.heap_setCell _ _ _ _ hb, Below.heap_setCell _ _ _ _ hb, Below.heap_setCell _ _ _ _ hb], by simp [World.setCell]⟩
theorem Own.keep {B : Nat} {w w' : World} {p : Nat} {s : St} (h : Own B w p s) (hk : ∀ t, 87 ≠ t → KeepT t w w') : Own B w' p s := by
 obtain ⟨⟨A, n, c, E, m, d, D, k, e, h0, h1, h2, h3, h4, h5, h6, h7⟩, hz⟩ := h
 exact ⟨⟨A, n, c, E, m, d, D, k, e, h0, ((hk _ (by decide)).same p _ h1).trans h1, h2.keep (hk _ (by decide)) (hk _ (by decide)), h3.keep (hk _ (by decide)), h4.keep (hk _ (by decide)), h5, h6, h7⟩, hz⟩
theorem dropI_mem : ∀ (is : List Ino) (num : Int) (x : Ino), x ∈ dropI is num → x ∈ is
 | [], _, _, h => by simp [dropI] at h
 | y :: is, num, x, h => by
  unfold dropI at h
  split at h
  ·exact List.mem_cons_of_mem _ (dropI_mem is num x h)
  ·rcases List.mem_cons.1 h with rfl | h
   ·exact List.mem_cons_self
   ·exact List.mem_cons_of_mem _ (dropI_mem is num x h)
theorem dropI_len : ∀ (is : List Ino) (num : Int), (dropI is num).length ≤ is.length ∧ bulkE (dropI is num) ≤ bulkE is
 | [], _ => ⟨Nat.le_refl _, Nat.le_refl _⟩
 | y :: is, num => by
  have ⟨h1, h2⟩ := dropI_len is num
  have e : bulkE (y :: is) = y.ents.length + bulkE is := rfl
  unfold dropI
  split
  ·exact ⟨by rw [List.length_cons]; omega, by omega⟩
  ·have e' : bulkE (y :: dropI is num) = y.ents.length + bulkE (dropI is num) := rfl
   exact ⟨by rw [List.length_cons, List.length_cons]; omega, by omega⟩
theorem Sized.dropI {s : St} (h : Sized s) (num : Int) : Sized { s with inos := Go.Proofs.YtilkhmhgjbhfnaaGreatDoor.dropI s.inos num } := by
 have ⟨h1, h2⟩ := dropI_len s.inos num
 refine ⟨?_, fun x hx => h.text x (dropI_mem _ _ _ hx), fun x hx => h.nums.1 x (dropI_mem _ _ _ hx), h.nums.2⟩
 have := h.big
 show (Go.Proofs.YtilkhmhgjbhfnaaGreatDoor.dropI s.inos num).length + bulkE (Go.Proofs.YtilkhmhgjbhfnaaGreatDoor.dropI s.inos num) + s.opn.length + s.made.length ≤ _
 omega
def caRow (c : Ca) : Obj := .cells #[.int .i64 c.kind, .int .i64 c.core, .int .i64 c.fd, .int .i64 c.off, .int .i64 c.num, .string c.path, .string c.path2, .string c.data] 73 (0, 0)
structure Fr (B p : Nat) (s : St) (c : Ca) (w0 w : World) : Prop where
 own : Own B w p s
 call : w.heap[w0.heap.size]? = some (caRow c)
 res : ResAt w (w0.heap.size + 1) (.int .i64 0) (.int .i64 0) (.int .i64 0) (.bool false) (.string ⟨#[]⟩) (.slice none 0 0)
 bel : Below B w0 w
 aside : Aside p w0 w
 size : w0.heap.size + 2 ≤ w.heap.size
 hp : p < w0.heap.size
 hB : B ≤ w0.heap.size
theorem Fr.below {B p : Nat} {s : St} {c : Ca} {w0 w w' : World} (h : Fr B p s c w0 w) (hb : Below w.heap.size w w') : Fr B p s c w0 w' :=
 ⟨h.own.below hb, (hb.block _ (by have := h.size; omega)).trans h.call, (hb.block _ h.res.lt).trans h.res, h.bel.trans (hb.mono (by have := h.size; have := h.hB; omega)), h.aside.trans (Aside.below hb), Nat.le_trans h.size hb.size, h.hp, h.hB⟩
theorem Fr.step {B p : Nat} {s s' : St} {c : Ca} {w0 w w' : World} (h : Fr B p s c w0 w) (ho : Own B w' p s') (hb : Below B w w') (ha : Aside p w w') : Fr B p s' c w0 w' := by
 have hp := h.hp
 exact ⟨ho, (ha.same _ _ _ h.call (by decide) (by decide) (by omega)).trans h.call, (ha.same _ _ _ h.res (by decide) (by decide) (by omega)).trans h.res, h.bel.trans hb, h.aside.trans ha, Nat.le_trans h.size ha.size, h.hp, h.hB⟩
theorem Fr.vals {B p : Nat} {s : St} {c : Ca} {w0 w : World} (h : Fr B p s c w0 w) : ∃ A n cp E m d D k e, p < w.heap.size ∧ w0.heap.size < w.heap.size ∧ w.cell? ⟨p, 0, none⟩ = some (.slice A n cp) ∧ w.cell? ⟨p, 1, none⟩ = some (.slice E m d) ∧ w.cell? ⟨p, 2, none⟩ = some (.slice D k e) ∧ (∀ j, w.frozen? ⟨p, j, none⟩ = false) ∧
  StAt none w (.agg #[.slice A n cp, .slice E m d, .slice D k e]) s ∧ InosAt (some B) w A n s.inos ∧ n ≤ 1099511627776 ∧
  w.cell? ⟨w0.heap.size, 0, none⟩ = some (.int .i64 c.kind) ∧ w.cell? ⟨w0.heap.size, 1, none⟩ = some (.int .i64 c.core) ∧ w.cell? ⟨w0.heap.size, 2, none⟩ = some (.int .i64 c.fd) ∧ w.cell? ⟨w0.heap.size, 3, none⟩ = some (.int .i64 c.off) ∧ w.cell? ⟨w0.heap.size, 4, none⟩ = some (.int .i64 c.num) ∧
  w.cell? ⟨w0.heap.size, 5, none⟩ = some (.string c.path) ∧ w.cell? ⟨w0.heap.size, 6, none⟩ = some (.string c.path2) ∧ w.cell? ⟨w0.heap.size, 7, none⟩ = some (.string c.data) := by
 obtain ⟨A, n, cp, E, m, d, D, k, e, _, hp, c0, c1, c2, fz, hst, hI, _, _⟩ := h.own.val
 have hc := h.call
 unfold caRow at hc
 have hbig := h.own.sized.big
 have hl := hI.1
 refine ⟨A, n, cp, E, m, d, D, k, e, hp, by have := h.size; omega, c0, c1, c2, fz, hst.weak, hI, by omega, ?_, ?_, ?_, ?_, ?_, ?_, ?_, ?_⟩ <;> (rw [cell_of_row w w0.heap.size _ _ _ (0, 0) hc]; rfl)
theorem Fr.six {B p : Nat} {s : St} {c : Ca} {w0 w : World} (h : Fr B p s c w0 w) (a b x y z t : Value) :
  ∃ w', (((((w.setCell ⟨w0.heap.size + 1, 0, none⟩ a).setCell ⟨w0.heap.size + 1, 1, none⟩ b).setCell ⟨w0.heap.size + 1, 2, none⟩ x).setCell ⟨w0.heap.size + 1, 3, none⟩ y).setCell ⟨w0.heap.size + 1, 4, none⟩ z).setCell ⟨w0.heap.size + 1, 5, none⟩ t = w' ∧
   ResAt w' (w0.heap.size + 1) a b x y z t ∧ Own B w' p s ∧ Below B w0 w' ∧ Aside p w0 w' := by
 obtain ⟨w', hw, hr, hk, hb, hn, hz⟩ := h.res.six a b x y z t
 exact ⟨w', hw, hr, h.own.keep hk, hb B w0 (by have := h.hB; omega) h.bel, ⟨Nat.le_trans h.aside.size hz, fun g cur t hg h1 h2 h3 => (hn g (by have := (Array.getElem?_eq_some_iff.1 hg).1; omega)).trans (h.aside.same g cur t hg h1 h2 h3)⟩⟩
theorem Fr.fin {B p : Nat} {s : St} {c : Ca} {w0 w1 w : World} (h1 : Fr B p s c w0 w1) (hb : Below w1.heap.size w1 w) (a b x y z t : Value) :
  w.cell? ⟨w0.heap.size + 1, 0, none⟩ = some (.int .i64 0) ∧ w.cell? ⟨w0.heap.size + 1, 1, none⟩ = some (.int .i64 0) ∧ w.cell? ⟨w0.heap.size + 1, 2, none⟩ = some (.int .i64 0) ∧ w.cell? ⟨w0.heap.size + 1, 3, none⟩ = some (.bool false) ∧ w.cell? ⟨w0.heap.size + 1, 4, none⟩ = some (.string ⟨#[]⟩) ∧ w.cell? ⟨w0.heap.size + 1, 5, none⟩ = some (.slice none 0 0) ∧ (∀ j, w.frozen? ⟨w0.heap.size + 1, j, none⟩ = false) ∧
  ∃ w', (((((w.setCell ⟨w0.heap.size + 1, 0, none⟩ a).setCell ⟨w0.heap.size + 1, 1, none⟩ b).setCell ⟨w0.heap.size + 1, 2, none⟩ x).setCell ⟨w0.heap.size + 1, 3, none⟩ y).setCell ⟨w0.heap.size + 1, 4, none⟩ z).setCell ⟨w0.heap.size + 1, 5, none⟩ t = w' ∧
   Hid (ResAt w' (w0.heap.size + 1) a b x y z t) ∧ Hid (Own B w' p s) ∧ Hid (Below B w0 w') ∧ Hid (Aside p w0 w') := by
 have h := h1.below hb
 obtain ⟨g0, g1, g2, g3, g4, g5, gf⟩ := h.res.get
 obtain ⟨w', hw, hr, ho, hB, hA⟩ := h.six a b x y z t
 exact ⟨g0, g1, g2, g3, g4, g5, gf, w', hw, Lib.hid hr, Lib.hid ho, Lib.hid hB, Lib.hid hA⟩
theorem Fr.start {B p : Nat} {s : St} {w : World} (h : Own B w p s) (hB : B ≤ w.heap.size) (c : Ca) :
  ∃ W W2, w.alloc (.cells #[.int .i64 c.kind, .int .i64 c.core, .int .i64 c.fd, .int .i64 c.off, .int .i64 c.num, .string c.path, .string c.path2, .string c.data] 73) = W ∧
   W.alloc (.cells #[.int .i64 0, .int .i64 0, .int .i64 0, .bool false, .string ⟨#[]⟩, .slice none 0 0] 87) = W2 ∧ W.heap.size = w.heap.size + 1 ∧ Fr B p s c w W2 := by
 obtain ⟨W, hW, hbc, hal, hsz⟩ := box_ca w c
 obtain ⟨A, n, cp, E, m, d, D, k, e, _, hp, _⟩ := h.val
 have hal2 : Below W.heap.size W (W.alloc (.cells #[.int .i64 0, .int .i64 0, .int .i64 0, .bool false, .string ⟨#[]⟩, .slice none 0 0] 87)) := (Below.refl _ _).alloc (Nat.le_refl _) _
 have hb2 := Cv.next hal hal2
 refine ⟨W, _, hW, rfl, hsz, h.below hb2, (hal2.block _ (by omega)).trans hbc, ?_, hb2.mono hB, Aside.below hb2, ?_, hp, hB⟩
 ·rw [← hsz]; exact heap_alloc_new W _
 ·simp [hsz]
def Deep (is : List Ino) : Nat → Int → Prop
 | 0, _ => False
 | n + 1, top => ∀ x, inoAt is (atV is top) = some x → ∀ e ∈ x.ents, dirAt is e.num = true → Deep is n e.num
end Go.Proofs.YtilkhmhgjbhfnaaGreatDoor
