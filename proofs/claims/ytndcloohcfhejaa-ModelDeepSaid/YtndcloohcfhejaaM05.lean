/- Parts of the proof, side by side: FsCopy, FsMake, FsSweep, FsFr, FsRename, FsOpen, FsOpened, FsLooks, LaBuild, FsSized, FsSized2, FsByFd, FsByFdW. -/
import Derived.Test.YtndcloohcfhejaaM01
import Derived.Test.YtndcloohcfhejaaM04
import Derived.Handy
import Derived.Deep.Cut
import Derived.Deep.DeepCutAuto
import Derived.Test.YtndcloohcfhejaaM03
import Derived.Deep.RegionHeld3
import Derived.Test.YtndcloohcfhejaaM02
import Derived.Lib.Builder
import Derived.Lib.FrozenHead2
import Derived.Lib.UnsafeStr
import Derived.Shelf.RegionOpenPlain
import Derived.Lib.BufferWrite
import Derived.Deep.WholeRow
import Derived.Deep.RegionWith
import Derived.Lib.MinMax
import Derived.Lib.LazyBuf
set_option linter.unusedVariables false
set_option linter.unusedSimpArgs false
namespace Go.Proofs.Ytndcloohcfhejaa
open Go.RowKit
theorem infoEnt : (Try.prog.info? 75).map (fun i => (i.zero, i.size, i.bytes)) = some (some (.agg #[.string ⟨#[]⟩, .int .i64 0]), 2, 24) := by kernel_rfl
theorem infoIno : (Try.prog.info? 52).map (fun i => (i.zero, i.size, i.bytes)) = some (some (.agg #[.int .i64 0, .bool false, .slice none 0 0, .string ⟨#[]⟩]), 4, 56) := by kernel_rfl
theorem infoDs : (Try.prog.info? 66).map (fun i => (i.zero, i.size, i.bytes)) = some (some (.agg #[.int .i64 0, .int .i64 0, .int .i64 0]), 3, 24) := by kernel_rfl
theorem flat_cells {α : Type} {w : World} {g off : Nat} (f : α → List Value) (k : Nat) (hk : ∀ x, (f x).length = k) (h0 : 0 < k) (l : List α) (h : ∀ j x, l[j]? = some x → ∀ i, i < k → w.cell? ⟨g, off + j * k + i, none⟩ = (f x)[i]?) :
  ∀ j u, (l.flatMap f)[j]? = some u → w.cell? ((⟨g, off, none⟩ : Addr).add j) = some u := by
 intro j u hu
 have hl := flat_len f k hk l
 have hjl : j < l.length * k := by rw [← hl]; exact (List.getElem?_eq_some_iff.1 hu).1
 have hq : j / k < l.length := Nat.div_lt_of_lt_mul (by rw [Nat.mul_comm]; exact hjl)
 have hm : j % k < k := Nat.mod_lt _ h0
 have hx := List.getElem?_eq_getElem hq
 have e1 := flat_get f k hk l (j / k) _ hx (j % k) hm
 have e2 : j / k * k + j % k = j := by rw [Nat.mul_comm]; exact Nat.div_add_mod j k
 rw [e2] at e1
 have e3 := h (j / k) _ hx (j % k) hm
 have e4 : (⟨g, off, none⟩ : Addr).add j = ⟨g, off + j, none⟩ := by unfold Addr.add; split <;> simp_all
 rw [e4, ← hu, e1, ← e3]
 congr 2
 omega
theorem wpList_append_flat {P : Program} {w : World} {ops : Array Oper} {rest : List Oper} {o : Oper} {a : Act} {Q : Exit → Act → World → Prop} (hgd : o.guard = none) (s x : Operand) (t e : TypeId) (z : Value) (size bytes : Nat)
  (ho : o.op = .call { callee := .builtin .append, args := #[s, x], argTypes := #[t, t] }) (ht : P.underlying t = some (.slice e)) (hinfo : (P.info? e).map (fun i => (i.zero, i.size, i.bytes)) = some (some z, size, bytes)) (hzs : z.cells.size = size) (hsz : 0 < size)
  (B : Nat) (v : Value) (n : Nat) (xs : List Value) (hs : a.eval s = v) (hown : w.ownsRow B e size v n xs) (A : Option Addr) (m c : Nat) (vs : List Value) (hx : a.eval x = .slice A m c) (hl : vs.length = m * size)
  (hr : ∀ ad, A = some ad → ∀ j u, vs[j]? = some u → w.cell? (ad.add j) = some u) (hn : A = none → m = 0 ∧ c = 0)
  (hone : ∀ u ∈ vs, u.oneCell' = true) (h63 : n + m ≤ maxLen) (hb : (n + m) * bytes ≤ 140737488355328) (hB : B ≤ w.heap.size)
  (h : ∀ v' w', w'.ownsRow B e size v' (n + m) (xs ++ vs) → w.grownBy w' v.ownBlock → wpList P ops Q rest (a.put o.dst v') w') : wpList P ops Q (o :: rest) a w := by
 obtain ⟨i0, hi, hz0, hz1, hz2⟩ := info_parts hinfo
 rcases A with _ | ad
 ·obtain ⟨rfl, rfl⟩ := hn rfl
  have hts : vs = [] := List.eq_nil_of_length_eq_zero (by simpa using hl)
  subst hts
  refine wpList_append_own_none hgd s x t ho B e i0 size ht hi v n xs hs hown hx ?_
  exact h v w (by simpa using hown) ⟨rfl, rfl, rfl, Nat.le_refl _, fun _ _ _ => rfl⟩
 ·refine wpList_append_own w hgd s x t ho B e i0 z size bytes ht hi hz0 hz1 hz2 hzs hsz v n xs hs hown ad m c vs hx hl (hr ad rfl) hone h63 hb hB ?_
  intro v' w' h2 h3 _
  exact h v' w' h2 h3
theorem EntsAt.flat {lo : Option Nat} {w : World} {A : Option Addr} {n c : Nat} {es : List En} (h : EntsAt lo w A n es) (hok : SlOk A n c) : (es.flatMap enV).length = n * 2 ∧ (∀ ad, A = some ad → ∀ j u, (es.flatMap enV)[j]? = some u → w.cell? (ad.add j) = some u) ∧ (A = none → n = 0 ∧ c = 0) := by
 refine ⟨by rw [flat_len enV 2 (fun _ => rfl), h.1], fun ad had j u hu => ?_, fun e => ⟨?_, hok.2 e⟩⟩
 ·have hn : 0 < n := by
   rcases Nat.eq_zero_or_pos n with h0 | h0
   ·have : es = [] := List.eq_nil_of_length_eq_zero (by rw [h.1, h0])
    subst this
    simp at hu
   ·exact h0
  obtain ⟨g, off, hA, hg, hm, hc⟩ := h.2 hn
  rw [hA] at had
  injection had with had
  subst had
  refine flat_cells enV 2 (fun _ => rfl) (by decide) es (fun j x hx i hi => ?_) j u hu
  obtain ⟨h1, h2⟩ := hc j x hx
  have : i = 0 ∨ i = 1 := by omega
  rcases this with rfl | rfl
  ·exact h1
  ·exact h2
 ·rcases Nat.eq_zero_or_pos n with h0 | h0
  ·exact h0
  ·obtain ⟨g, off, hA, _⟩ := h.2 h0
   rw [hA] at e; cases e
theorem KeepT.trans {t : TypeId} {a b c : World} (h : KeepT t a b) (k : KeepT t b c) : KeepT t a c :=
 ⟨Nat.le_trans h.size k.size, fun x cur hx => (k.same x cur ((h.same x cur hx).trans hx)).trans (h.same x cur hx)⟩
def OutAt (w : World) (P : Nat) (a b c : Value) : Prop := w.heap[P]? = some (.cells #[a, b, c] 27 (0, 0))
theorem OutAt.get {w : World} {P : Nat} {a b c : Value} (h : OutAt w P a b c) : w.cell? ⟨P, 0, none⟩ = some a ∧ w.cell? ⟨P, 1, none⟩ = some b ∧ w.cell? ⟨P, 2, none⟩ = some c ∧ ∀ j, w.frozen? ⟨P, j, none⟩ = false := by
 refine ⟨?_, ?_, ?_, fun j => frozen_of_row w P j _ _ h⟩ <;> (rw [cell_of_row w P _ _ _ (0, 0) h]; rfl)
theorem OutAt.three {w : World} {R : Nat} {a b c : Value} (h : OutAt w R a b c) (x y z : Value) : ∃ w', ((w.setCell ⟨R, 0, none⟩ x).setCell ⟨R, 1, none⟩ y).setCell ⟨R, 2, none⟩ z = w' ∧ OutAt w' R x y z ∧ (∀ t, 27 ≠ t → KeepT t w w') ∧ ∀ (B : Nat) (u : World), B ≤ R → Below B u w → Below B u w' := by
 have h1 : OutAt (w.setCell ⟨R, 0, none⟩ x) R x b c := heap_setCell_same w R 0 _ _ _ h
 have h2 : OutAt ((w.setCell ⟨R, 0, none⟩ x).setCell ⟨R, 1, none⟩ y) R x y c := heap_setCell_same _ R 1 _ _ _ h1
 exact ⟨_, rfl, heap_setCell_same _ R 2 _ _ _ h2, fun t ht => ((KeepT.set h ht).trans (KeepT.set h1 ht)).trans (KeepT.set h2 ht), fun B u hB hb => ((hb.setCell hB _).setCell hB _).setCell hB _⟩
theorem row_empty (w : World) (B : Nat) (e : TypeId) (k : Nat) (hB : B ≤ w.heap.size) : (w.alloc (.cells #[] e)).ownsRow B e k (.slice (some ⟨w.heap.size, 0, .none⟩) 0 0) 0 [] :=
 ⟨by simp, Or.inr ⟨w.heap.size, 0, #[], rfl, hB, heap_alloc_new w _, Nat.le_refl _, Nat.zero_le _, by simp, by simp⟩⟩
theorem enV_one (es : List En) : ∀ u ∈ es.flatMap enV, u.oneCell' = true := by
 intro u hu
 obtain ⟨e, _, he⟩ := List.mem_flatMap.1 hu
 simp [enV] at he
 rcases he with rfl | rfl <;> rfl
theorem dsV_one (es : List Ds) : ∀ u ∈ es.flatMap dsV, u.oneCell' = true := by
 intro u hu
 obtain ⟨e, _, he⟩ := List.mem_flatMap.1 hu
 simp [dsV] at he
 rcases he with rfl | rfl | rfl <;> rfl
def caV (c : Ca) : Value := .agg #[.int .i64 c.kind, .int .i64 c.core, .int .i64 c.fd, .int .i64 c.off, .int .i64 c.num, .string c.path, .string c.path2, .string c.data]
theorem box_ca (w : World) (c : Ca) : ∃ W, w.alloc (.cells #[.int .i64 c.kind, .int .i64 c.core, .int .i64 c.fd, .int .i64 c.off, .int .i64 c.num, .string c.path, .string c.path2, .string c.data] 32) = W ∧
  W.heap[w.heap.size]? = some (.cells #[.int .i64 c.kind, .int .i64 c.core, .int .i64 c.fd, .int .i64 c.off, .int .i64 c.num, .string c.path, .string c.path2, .string c.data] 32 (0, 0)) ∧ Below w.heap.size w W ∧ W.heap.size = w.heap.size + 1 :=
 ⟨_, rfl, heap_alloc_new w _, (Below.refl _ _).alloc (Nat.le_refl _) _, by simp⟩
def ResAt (w : World) (g : Nat) (a b c d e f : Value) : Prop := w.heap[g]? = some (.cells #[a, b, c, d, e, f] 35 (0, 0))
theorem ResAt.lt {w : World} {g : Nat} {a b c d e f : Value} (h : ResAt w g a b c d e f) : g < w.heap.size := (Array.getElem?_eq_some_iff.1 h).1
theorem ResAt.get {w : World} {g : Nat} {a b c d e f : Value} (h : ResAt w g a b c d e f) : w.cell? ⟨g, 0, none⟩ = some a ∧ w.cell? ⟨g, 1, none⟩ = some b ∧ w.cell? ⟨g, 2, none⟩ = some c ∧ w.cell? ⟨g, 3, none⟩ = some d ∧ w.cell? ⟨g, 4, none⟩ = some e ∧ w.cell? ⟨g, 5, none⟩ = some f ∧ ∀ j, w.frozen? ⟨g, j, none⟩ = false := by
 refine ⟨?_, ?_, ?_, ?_, ?_, ?_, fun j => frozen_of_row w g j _ _ h⟩ <;> (rw [cell_of_row w g _ _ _ (0, 0) h]; rfl)
theorem ResAt.six {w : World} {g : Nat} {a b c d e f : Value} (h : ResAt w g a b c d e f) (a' b' c' d' e' f' : Value) :
  ∃ w', (((((w.setCell ⟨g, 0, none⟩ a').setCell ⟨g, 1, none⟩ b').setCell ⟨g, 2, none⟩ c').setCell ⟨g, 3, none⟩ d').setCell ⟨g, 4, none⟩ e').setCell ⟨g, 5, none⟩ f' = w' ∧ ResAt w' g a' b' c' d' e' f' ∧
   (∀ t, 35 ≠ t → KeepT t w w') ∧ (∀ (B : Nat) (u : World), B ≤ g → Below B u w → Below B u w') ∧ (∀ b, b ≠ g → w'.heap[b]? = w.heap[b]?) ∧ w.heap.size ≤ w'.heap.size := by
 have h0 : ResAt (w.setCell ⟨g, 0, none⟩ a') g a' b c d e f := heap_setCell_same _ g 0 _ _ _ h
 have h1 : ResAt ((w.setCell ⟨g, 0, none⟩ a').setCell ⟨g, 1, none⟩ b') g a' b' c d e f := heap_setCell_same _ g 1 _ _ _ h0
 have h2 : ResAt (((w.setCell ⟨g, 0, none⟩ a').setCell ⟨g, 1, none⟩ b').setCell ⟨g, 2, none⟩ c') g a' b' c' d e f := heap_setCell_same _ g 2 _ _ _ h1
 have h3 : ResAt ((((w.setCell ⟨g, 0, none⟩ a').setCell ⟨g, 1, none⟩ b').setCell ⟨g, 2, none⟩ c').setCell ⟨g, 3, none⟩ d') g a' b' c' d' e f := heap_setCell_same _ g 3 _ _ _ h2
 have h4 : ResAt (((((w.setCell ⟨g, 0, none⟩ a').setCell ⟨g, 1, none⟩ b').setCell ⟨g, 2, none⟩ c').setCell ⟨g, 3, none⟩ d').setCell ⟨g, 4, none⟩ e') g a' b' c' d' e' f := heap_setCell_same _ g 4 _ _ _ h3
 exact ⟨_, rfl, heap_setCell_same _ g 5 _ _ _ h4, fun t ht => (((((KeepT.set h ht).trans (KeepT.set h0 ht)).trans (KeepT.set h1 ht)).trans (KeepT.set h2 ht)).trans (KeepT.set h3 ht)).trans (KeepT.set h4 ht), fun B u hB hb => (((((hb.setCell hB _).setCell hB _).setCell hB _).setCell hB _).setCell hB _).setCell hB _, fun b hb => by
  rw [Below.heap_setCell _ _ _ _ hb, Below.heap_setCell _ _ _ _ hb, Below.heap_setCell _ _ _ _ hb, Below.heap_setCell _ _ _ _ hb, Below.heap_setCell _ _ _ _ hb, Below.heap_setCell _ _ _ _ hb], by simp [World.setCell]⟩
theorem dropI_mem : ∀ (is : List Ino) (num : Int) (x : Ino), x ∈ dropI is num → x ∈ is
 | [], _, _, h => by simp [dropI] at h
 | y :: is, num, x, h => by
  unfold dropI at h
  split at h
  ·exact List.mem_cons_of_mem _ (dropI_mem is num x h)
  ·rcases List.mem_cons.1 h with rfl | h
   ·exact List.mem_cons_self
   ·exact List.mem_cons_of_mem _ (dropI_mem is num x h)
theorem dropI_len : ∀ (is : List Ino) (num : Int), (dropI is num).length ≤ is.length ∧ bulkE (dropI is num) ≤ bulkE is
 | [], _ => ⟨Nat.le_refl _, Nat.le_refl _⟩
 | y :: is, num => by
  have ⟨h1, h2⟩ := dropI_len is num
  have e : bulkE (y :: is) = y.ents.length + bulkE is := rfl
  unfold dropI
  split
  ·exact ⟨by rw [List.length_cons]; omega, by omega⟩
  ·have e' : bulkE (y :: dropI is num) = y.ents.length + bulkE (dropI is num) := rfl
   exact ⟨by rw [List.length_cons, List.length_cons]; omega, by omega⟩
def caRow (c : Ca) : Obj := .cells #[.int .i64 c.kind, .int .i64 c.core, .int .i64 c.fd, .int .i64 c.off, .int .i64 c.num, .string c.path, .string c.path2, .string c.data] 32 (0, 0)
theorem modify_mem {α : Type} (f : α → α) : ∀ (l : List α) (i : Nat) (y : α), y ∈ l.modify i f → y ∈ l ∨ ∃ x ∈ l, y = f x
 | [], _, _, h => by simp at h
 | x :: xs, 0, y, h => by
  have h2 : y ∈ f x :: xs := h
  rcases List.mem_cons.1 h2 with rfl | h2
  ·exact .inr ⟨x, List.mem_cons_self, rfl⟩
  ·exact .inl (List.mem_cons_of_mem _ h2)
 | x :: xs, i + 1, y, h => by
  have h2 : y ∈ x :: xs.modify i f := h
  rcases List.mem_cons.1 h2 with rfl | h2
  ·exact .inl List.mem_cons_self
  ·rcases modify_mem f xs i y h2 with h3 | ⟨z, h3, h4⟩
   ·exact .inl (List.mem_cons_of_mem _ h3)
   ·exact .inr ⟨z, List.mem_cons_of_mem _ h3, h4⟩
theorem dropE_mem : ∀ (es : List En) (name : ByteArray) (e : En), e ∈ dropE es name → e ∈ es
 | [], _, _, h => by simp [dropE] at h
 | y :: es, name, e, h => by
  unfold dropE at h
  split at h
  ·exact List.mem_cons_of_mem _ (dropE_mem es name e h)
  ·rcases List.mem_cons.1 h with rfl | h
   ·exact List.mem_cons_self
   ·exact List.mem_cons_of_mem _ (dropE_mem es name e h)
theorem box_ds (w : World) (core fd num : Int) : ∃ W, w.alloc (.cells #[.int .i64 core, .int .i64 fd, .int .i64 num] 66) = W ∧ W.cell? ⟨w.heap.size, 0, .none⟩ = some (.int .i64 core) ∧ W.cell? ⟨w.heap.size, 1, .none⟩ = some (.int .i64 fd) ∧ W.cell? ⟨w.heap.size, 2, .none⟩ = some (.int .i64 num) ∧ Below w.heap.size w W ∧ w.heap.size < W.heap.size := by
 refine ⟨_, rfl, ?_, ?_, ?_, (Below.refl _ _).alloc (Nat.le_refl _) _, by simp⟩
 ·exact (World.cell?_alloc_mark w _ _ (0, 0) _).trans rfl
 ·exact (World.cell?_alloc_mark w _ _ (0, 0) _).trans rfl
 ·exact (World.cell?_alloc_mark w _ _ (0, 0) _).trans rfl
def prevD (ds : List Ds) (k : Nat) : Option Ds := if k = 0 then none else ds[k - 1]?
theorem findV_at {is : List Ino} (hw : Whole is) (path : ByteArray) (h : (findV is path).2 = 0) : 0 ≤ atV is (findV is path).1 := by
 unfold findV at h ⊢
 by_cases h1 : (parseL path.data.toList).2 ≠ 0
 ·rw [if_pos h1] at h
  unfold codeP at h
  rw [if_neg h1] at h
  split at h <;> cases h
 rw [if_neg h1] at h ⊢
 exact walkG_some hw _ _ hw.1 h
def NmsAt (lo : Option Nat) (w : World) (A : Option Addr) (n : Nat) (ns : List ByteArray) : Prop :=
 ns.length = n ∧ (0 < n → ∃ g off, A = some ⟨g, off, none⟩ ∧ g < w.heap.size ∧ Mine lo 9 w g ∧ ∀ j x, ns[j]? = some x → w.cell? ⟨g, off + j, none⟩ = some (.string x))
theorem NmsAt.below {lo : Option Nat} {w w' : World} {A : Option Addr} {n : Nat} {ns : List ByteArray} (h : NmsAt lo w A n ns) (hb : Below w.heap.size w w') : NmsAt lo w' A n ns :=
 ⟨h.1, fun hn => by
  obtain ⟨g, off, hA, hg, hm, hc⟩ := h.2 hn
  exact ⟨g, off, hA, Nat.lt_of_lt_of_le hg hb.size, hm.below hb, fun j x hx => (hb.cell (p := ⟨g, _, none⟩) hg).trans (hc j x hx)⟩⟩
theorem NmsAt.weak {lo : Option Nat} {w : World} {A : Option Addr} {n : Nat} {ns : List ByteArray} (h : NmsAt lo w A n ns) : NmsAt none w A n ns :=
 ⟨h.1, fun hn => by
  obtain ⟨g, off, hA, hg, hm, hc⟩ := h.2 hn
  exact ⟨g, off, hA, hg, Mine.any _ _ _, hc⟩⟩
theorem NmsAt.keep {B : Nat} {w w' : World} {A : Option Addr} {n : Nat} {ns : List ByteArray} (h : NmsAt (some B) w A n ns) (hk : KeepT 9 w w') : NmsAt (some B) w' A n ns :=
 ⟨h.1, fun hn => by
  obtain ⟨g, off, hA, hg, hm, hc⟩ := h.2 hn
  obtain ⟨m1, m2⟩ := hk.mine hm
  exact ⟨g, off, hA, Nat.lt_of_lt_of_le hg hk.size, m1, fun j x hx => (cell_same m2 _).trans (hc j x hx)⟩⟩
theorem NmsAt.lower {B B' : Nat} {w : World} {A : Option Addr} {n : Nat} {ns : List ByteArray} (h : NmsAt (some B) w A n ns) (hb : B' ≤ B) : NmsAt (some B') w A n ns :=
 ⟨h.1, fun hn => by
  obtain ⟨g, off, hA, hg, hm, hc⟩ := h.2 hn
  exact ⟨g, off, hA, hg, hm.mono hb, hc⟩⟩
def ResIs (lo : Option Nat) (w : World) (v : Value) (r : Re) : Prop :=
 ∃ A n c, v = .agg #[.int .i64 r.code, .int .i64 r.fd, .int .i64 r.num, .bool r.dir, .string r.data, .slice A n c] ∧ SlOk A n c ∧ NmsAt lo w A n r.names
theorem infoByte : (Try.prog.info? 5).map (fun i => (i.zero, i.size, i.bytes)) = some (some (.int .u8 0), 1, 1) := by kernel_rfl
theorem sizedL_long (l : List UInt8) (k : Nat) (h : l.length ≤ k) : sizedL l k = l ++ List.replicate (k - l.length) 0 := by
 unfold sizedL
 rw [List.take_append, List.take_of_length_le h]
 congr 1
 rw [List.take_replicate]
 congr 1
 omega
theorem run_copy_row_cut {P : Program} (w : World) (dT sT ty elem : TypeId) (g dLen dCap : Nat) (s : ByteArray) (cur : Array Value) (t : TypeId)
  (hu : P.underlying dT = some (.slice elem)) (hs : (P.info? elem).map (·.size) = some 1) (hg : w.heap[g]? = some (.cells cur t (0, 0))) (hle : dLen ≤ s.size) (hfit : dLen ≤ cur.size) :
  (Builtin.copy_ #[dT, sT] ty #[.slice (some ⟨g, 0, none⟩) dLen dCap, .string s]).run P w =
   .ok (goInt dLen) (w.setRow g (Lib.byteCells (s.data.toList.take dLen) ++ cur.toList.drop dLen).toArray) := by
 have hlen : (Lib.byteCells (s.data.toList.take dLen)).length = dLen := by rw [Lib.byteCells_length, List.length_take, Array.length_toList]; exact Nat.min_eq_left hle
 have hst := run_storeCells_at P g 0 t (Lib.byteCells (s.data.toList.take dLen)) 0 cur w hg (by rw [hlen]; simpa using hfit) (Lib.byteCells_one _)
 have hmin : Nat.min s.size dLen = dLen := Nat.min_eq_right hle
 have htk : List.take dLen (List.map (fun b : UInt8 => Value.int IntKind.u8 (b.toNat : Int)) s.data.toList) = Lib.byteCells (s.data.toList.take dLen) := by
  rw [List.map_take.symm]
  rfl
 rw [hlen] at hst
 simp only [Nat.add_zero, Nat.zero_add, List.take_zero, List.nil_append] at hst
 cases hq : P.info? elem with
 | none => simp [hq] at hs
 | some i =>
  simp [Builtin.copy_, run_underlying hu, Builtin.lenOf, Builtin.firstCells, sizeOf, typeInfo, hq, hmin]
  rw [htk, hst]
  simp [Result.andThen]
theorem sizedL_short (l : List UInt8) (k : Nat) (h : k ≤ l.length) : sizedL l k = l.take k := by
 unfold sizedL
 rw [List.take_append, show k - l.length = 0 by omega]
 simp
theorem sizedL_len (l : List UInt8) (k : Nat) : (sizedL l k).length = k := by
 unfold sizedL
 rw [List.length_take, List.length_append, List.length_replicate]
 omega
theorem dropD_len : ∀ (ds : List Ds) (core fd : Int), (dropD ds core fd).length ≤ ds.length
 | [], _, _ => Nat.le_refl _
 | d :: ds, core, fd => by
  unfold dropD
  have := dropD_len ds core fd
  split <;> simp <;> omega
theorem piece_eq (d : ByteArray) (o k : Nat) (hd : d.size ≤ 140737488355328) (ho : o ≤ 256) (hk : k ≤ 256) : d.extract (min o d.size) (min (min o d.size + k) d.size) = txt ((d.data.toList.drop o).take k) := by
 have hl : d.data.toList.length = d.size := Array.length_toList
 apply ByteArray.ext
 apply Array.toList_inj.1
 rw [ByteArray.data_extract, Array.toList_extract]
 show _ = ((d.data.toList.drop o).take k)
 rw [List.extract_eq_take_drop]
 by_cases h : o ≤ d.size
 ·rw [Nat.min_eq_left h]
  by_cases h2 : o + k ≤ d.size
  ·rw [Nat.min_eq_left h2, show o + k - o = k by omega]
  ·rw [Nat.min_eq_right (by omega), List.take_of_length_le (by rw [List.length_drop]; omega), List.take_of_length_le (by rw [List.length_drop]; omega)]
 ·rw [Nat.min_eq_right (by omega), List.drop_of_length_le (by omega), List.drop_of_length_le (by omega)]
  simp only [List.take_nil]
theorem size_byte (w : World) : (Go.sizeOf 5).run Try.prog w = .ok 1 w := by
 obtain ⟨ib, hib, hz0, hz1, hz2⟩ := info_parts infoByte
 simp [Go.sizeOf, typeInfo, hib, hz1]
theorem size_setC (g : Nat) : ∀ (vs : List Value) (o : Nat) (w : World), (w.setCells g o vs).heap.size = w.heap.size
 | [], _, _ => rfl
 | v :: r, o, w => by rw [World.setCells, size_setC g r]; simp [World.setCell]
theorem lay_get (l d : List UInt8) (o j : Nat) (ho : o + d.length ≤ l.length) : (l.take o ++ d ++ l.drop (o + d.length))[j]? = if o ≤ j ∧ j < o + d.length then d[j - o]? else l[j]? := by
 have htl : (l.take o).length = o := by rw [List.length_take]; omega
 rw [List.append_assoc]
 by_cases h1 : j < o
 ·rw [if_neg (by omega), List.getElem?_append_left (by omega), List.getElem?_take, if_pos h1]
 ·rw [List.getElem?_append_right (by omega), htl]
  by_cases h2 : j < o + d.length
  ·rw [if_pos (by omega), List.getElem?_append_left (by omega)]
  ·rw [if_neg (by omega), List.getElem?_append_right (by omega), List.getElem?_drop]
   congr 1
   omega
theorem byterow_lay {w : World} {g : Nat} {l : List UInt8} (h : Cv.ByteRow w g l) (o : Nat) (d : List UInt8) (ho : o + d.length ≤ l.length) :
  Cv.ByteRow (w.setCells g o (d.map fun x => Value.int .u8 (x.toNat : Int))) g (l.take o ++ d ++ l.drop (o + d.length)) := by
 have hlen : (l.take o ++ d ++ l.drop (o + d.length)).length = l.length := by
  rw [List.length_append, List.length_append, List.length_take, List.length_drop]
  omega
 have hml : (d.map fun x => Value.int .u8 (x.toNat : Int)).length = d.length := List.length_map _
 refine ⟨by rw [size_setC]; exact h.1, fun j hj => ⟨?_, ?_⟩⟩
 ·rw [hlen] at hj
  rw [List.getD_eq_getElem?_getD, lay_get l d o j ho]
  by_cases h1 : o ≤ j ∧ j < o + d.length
  ·have h2 := World.cell?_setCells_in g (d.map fun x => Value.int .u8 (x.toNat : Int)) o w (fun k hk => by
    rw [hml] at hk
    rw [(h.2 (o + k) (by omega)).1]
    rfl) (j - o) (by rw [hml]; omega)
   rw [show o + (j - o) = j by omega] at h2
   rw [h2, if_pos h1, List.getElem_map, List.getElem?_eq_getElem (show j - o < d.length by omega)]
   rfl
  ·rw [World.cell?_setCells_out g _ o w ⟨g, j, none⟩ (fun _ _ => by rw [hml]; show j < o ∨ _ ≤ j; omega), (h.2 j hj).1, if_neg h1, List.getD_eq_getElem?_getD]
 ·rw [World.frozen?_setCells]
  rw [hlen] at hj
  exact (h.2 j hj).2
end Go.Proofs.Ytndcloohcfhejaa
