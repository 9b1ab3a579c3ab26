/- Parts of the proof, side by side: FsCopy, FsMake, FsSweep, FsFr, FsWithin, FsRename, FsOpen, FsOpened, FsLooks. -/
import Derived.Test.YtghlgnklnbcppaaM01
import Derived.Test.YtghlgnklnbcppaaM06
import Derived.Handy
import Derived.Deep.Cut
import Derived.Deep.DeepCutAuto
import Derived.Test.YtghlgnklnbcppaaM03
import Derived.Deep.RegionHeld3
import Derived.Test.YtghlgnklnbcppaaM02
set_option linter.unusedVariables false
set_option linter.unusedSimpArgs false
set_option linter.unusedVariables false
set_option linter.unusedSimpArgs false
namespace Go.Proofs.Ytghlgnklnbcppaa
open Go.RowKit
theorem infoEnt : (Try.prog.info? 103).map (fun i => (i.zero, i.size, i.bytes)) = some (some (.agg #[.string ⟨#[]⟩, .int .i64 0]), 2, 24) := by kernel_rfl
theorem infoIno : (Try.prog.info? 72).map (fun i => (i.zero, i.size, i.bytes)) = some (some (.agg #[.int .i64 0, .bool false, .slice none 0 0, .string ⟨#[]⟩]), 4, 56) := by kernel_rfl
theorem infoDs : (Try.prog.info? 51).map (fun i => (i.zero, i.size, i.bytes)) = some (some (.agg #[.int .i64 0, .int .i64 0, .int .i64 0]), 3, 24) := by kernel_rfl
theorem flat_cells {α : Type} {w : World} {g off : Nat} (f : α → List Value) (k : Nat) (hk : ∀ x, (f x).length = k) (h0 : 0 < k) (l : List α) (h : ∀ j x, l[j]? = some x → ∀ i, i < k → w.cell? ⟨g, off + j * k + i, none⟩ = (f x)[i]?) :
    ∀ j u, (l.flatMap f)[j]? = some u → w.cell? ((⟨g, off, none⟩ : Addr).add j) = some u := by
  intro j u hu
  have hl := flat_len f k hk l
  have hjl : j < l.length * k := by rw [← hl]; exact (List.getElem?_eq_some_iff.1 hu).1
  have hq : j / k < l.length := Nat.div_lt_of_lt_mul (by rw [Nat.mul_comm]; exact hjl)
  have hm : j % k < k := Nat.mod_lt _ h0
  have hx := List.getElem?_eq_getElem hq
  have e1 := flat_get f k hk l (j / k) _ hx (j % k) hm
  have e2 : j / k * k + j % k = j := by rw [Nat.mul_comm]; exact Nat.div_add_mod j k
  rw [e2] at e1
  have e3 := h (j / k) _ hx (j % k) hm
  have e4 : (⟨g, off, none⟩ : Addr).add j = ⟨g, off + j, none⟩ := by unfold Addr.add; split <;> simp_all
  rw [e4, ← hu, e1, ← e3]
  congr 2
  omega
theorem wpList_append_flat {P : Program} {w : World} {ops : Array Oper} {rest : List Oper} {o : Oper} {a : Act} {Q : Exit → Act → World → Prop} (hgd : o.guard = none) (s x : Operand) (t e : TypeId) (z : Value) (size bytes : Nat)
    (ho : o.op = .call { callee := .builtin .append, args := #[s, x], argTypes := #[t, t] }) (ht : P.underlying t = some (.slice e)) (hinfo : (P.info? e).map (fun i => (i.zero, i.size, i.bytes)) = some (some z, size, bytes)) (hzs : z.cells.size = size) (hsz : 0 < size)
    (B : Nat) (v : Value) (n : Nat) (xs : List Value) (hs : a.eval s = v) (hown : w.ownsRow B e size v n xs) (A : Option Addr) (m c : Nat) (vs : List Value) (hx : a.eval x = .slice A m c) (hl : vs.length = m * size)
    (hr : ∀ ad, A = some ad → ∀ j u, vs[j]? = some u → w.cell? (ad.add j) = some u) (hn : A = none → m = 0 ∧ c = 0)
    (hone : ∀ u ∈ vs, u.oneCell' = true) (h63 : n + m ≤ maxLen) (hb : (n + m) * bytes ≤ 140737488355328) (hB : B ≤ w.heap.size)
    (h : ∀ v' w', w'.ownsRow B e size v' (n + m) (xs ++ vs) → w.grownBy w' v.ownBlock → wpList P ops Q rest (a.put o.dst v') w') : wpList P ops Q (o :: rest) a w := by
  obtain ⟨i0, hi, hz0, hz1, hz2⟩ := info_parts hinfo
  rcases A with _ | ad
  · obtain ⟨rfl, rfl⟩ := hn rfl
    have hts : vs = [] := List.eq_nil_of_length_eq_zero (by simpa using hl)
    subst hts
    refine wpList_append_own_none hgd s x t ho B e i0 size ht hi v n xs hs hown hx ?_
    exact h v w (by simpa using hown) ⟨rfl, rfl, rfl, Nat.le_refl _, fun _ _ _ => rfl⟩
  · refine wpList_append_own w hgd s x t ho B e i0 z size bytes ht hi hz0 hz1 hz2 hzs hsz v n xs hs hown ad m c vs hx hl (hr ad rfl) hone h63 hb hB ?_
    intro v' w' h2 h3 _
    exact h v' w' h2 h3
theorem EntsAt.flat {lo : Option Nat} {w : World} {A : Option Addr} {n c : Nat} {es : List En} (h : EntsAt lo w A n es) (hok : SlOk A n c) : (es.flatMap enV).length = n * 2 ∧ (∀ ad, A = some ad → ∀ j u, (es.flatMap enV)[j]? = some u → w.cell? (ad.add j) = some u) ∧ (A = none → n = 0 ∧ c = 0) := by
  refine ⟨by rw [flat_len enV 2 (fun _ => rfl), h.1], fun ad had j u hu => ?_, fun e => ⟨?_, hok.2 e⟩⟩
  · have hn : 0 < n := by
      rcases Nat.eq_zero_or_pos n with h0 | h0
      · have : es = [] := List.eq_nil_of_length_eq_zero (by rw [h.1, h0])
        subst this
        simp at hu
      · exact h0
    obtain ⟨g, off, hA, hg, hm, hc⟩ := h.2 hn
    rw [hA] at had
    injection had with had
    subst had
    refine flat_cells enV 2 (fun _ => rfl) (by decide) es (fun j x hx i hi => ?_) j u hu
    obtain ⟨h1, h2⟩ := hc j x hx
    have : i = 0 ∨ i = 1 := by omega
    rcases this with rfl | rfl
    · exact h1
    · exact h2
  · rcases Nat.eq_zero_or_pos n with h0 | h0
    · exact h0
    · obtain ⟨g, off, hA, _⟩ := h.2 h0
      rw [hA] at e; cases e
theorem DescsAt.flat {lo : Option Nat} {w : World} {A : Option Addr} {n c : Nat} {ds : List Ds} (h : DescsAt lo w A n ds) (hok : SlOk A n c) : (ds.flatMap dsV).length = n * 3 ∧ (∀ ad, A = some ad → ∀ j u, (ds.flatMap dsV)[j]? = some u → w.cell? (ad.add j) = some u) ∧ (A = none → n = 0 ∧ c = 0) := by
  refine ⟨by rw [flat_len dsV 3 (fun _ => rfl), h.1], fun ad had j u hu => ?_, fun e => ⟨?_, hok.2 e⟩⟩
  · have hn : 0 < n := by
      rcases Nat.eq_zero_or_pos n with h0 | h0
      · have : ds = [] := List.eq_nil_of_length_eq_zero (by rw [h.1, h0])
        subst this
        simp at hu
      · exact h0
    obtain ⟨g, off, hA, hg, hm, hc⟩ := h.2 hn
    rw [hA] at had
    injection had with had
    subst had
    refine flat_cells dsV 3 (fun _ => rfl) (by decide) ds (fun j x hx i hi => ?_) j u hu
    obtain ⟨h1, h2, h3⟩ := hc j x hx
    have : i = 0 ∨ i = 1 ∨ i = 2 := by omega
    rcases this with rfl | rfl | rfl
    · exact h1
    · exact h2
    · exact h3
  · rcases Nat.eq_zero_or_pos n with h0 | h0
    · exact h0
    · obtain ⟨g, off, hA, _⟩ := h.2 h0
      rw [hA] at e; cases e
theorem IntsAt.flat {lo : Option Nat} {w : World} {A : Option Addr} {n c : Nat} {xs : List Int} (h : IntsAt lo w A n xs) (hok : SlOk A n c) : (xs.map (Value.int .i64)).length = n * 1 ∧ (∀ ad, A = some ad → ∀ j u, (xs.map (Value.int .i64))[j]? = some u → w.cell? (ad.add j) = some u) ∧ (A = none → n = 0 ∧ c = 0) := by
  refine ⟨by rw [List.length_map, h.1]; omega, fun ad had j u hu => ?_, fun e => ⟨?_, hok.2 e⟩⟩
  · rw [List.getElem?_map] at hu
    obtain ⟨x, hx, rfl⟩ := Option.map_eq_some_iff.1 hu
    have hn : 0 < n := by have := (List.getElem?_eq_some_iff.1 hx).1; have := h.1; omega
    obtain ⟨g, off, hA, hg, hm, hc⟩ := h.2 hn
    rw [hA] at had
    injection had with had
    subst had
    have e4 : (⟨g, off, none⟩ : Addr).add j = ⟨g, off + j, none⟩ := by unfold Addr.add; split <;> simp_all
    rw [e4]
    exact hc j x hx
  · rcases Nat.eq_zero_or_pos n with h0 | h0
    · exact h0
    · obtain ⟨g, off, hA, _⟩ := h.2 h0
      rw [hA] at e; cases e
theorem KeepT.grown {w w' : World} {B k n : Nat} {t t' : TypeId} {v : Value} {xs : List Value} (h : w.ownsRow B t' k v n xs) (hg : w.grownBy w' v.ownBlock) (hne : t' ≠ t) : KeepT t w w' :=
  ⟨hg.size, fun b cur hb => hg.block b (Array.getElem?_eq_some_iff.1 hb).1 (fun e => by
    rcases h.2 with ⟨rfl, _⟩ | ⟨g, cap, cur', rfl, _, hh, _⟩
    · cases e
    · have : b = g := by simpa [Value.ownBlock] using e
      subst this
      rw [hh] at hb
      injection hb with hb
      injection hb with _ hb _
      exact hne hb)⟩
theorem KeepT.trans {t : TypeId} {a b c : World} (h : KeepT t a b) (k : KeepT t b c) : KeepT t a c :=
  ⟨Nat.le_trans h.size k.size, fun x cur hx => (k.same x cur ((h.same x cur hx).trans hx)).trans (h.same x cur hx)⟩
def OutAt (w : World) (P : Nat) (a b c : Value) : Prop := w.heap[P]? = some (.cells #[a, b, c] 26 (0, 0))
theorem OutAt.get {w : World} {P : Nat} {a b c : Value} (h : OutAt w P a b c) : w.cell? ⟨P, 0, none⟩ = some a ∧ w.cell? ⟨P, 1, none⟩ = some b ∧ w.cell? ⟨P, 2, none⟩ = some c ∧ ∀ j, w.frozen? ⟨P, j, none⟩ = false := by
  refine ⟨?_, ?_, ?_, fun j => frozen_of_row w P j _ _ h⟩ <;> (rw [cell_of_row w P _ _ _ (0, 0) h]; rfl)
theorem OutAt.three {w : World} {R : Nat} {a b c : Value} (h : OutAt w R a b c) (x y z : Value) : ∃ w', ((w.setCell ⟨R, 0, none⟩ x).setCell ⟨R, 1, none⟩ y).setCell ⟨R, 2, none⟩ z = w' ∧ OutAt w' R x y z ∧ (∀ t, 26 ≠ t → KeepT t w w') ∧ ∀ (B : Nat) (u : World), B ≤ R → Below B u w → Below B u w' := by
  have h1 : OutAt (w.setCell ⟨R, 0, none⟩ x) R x b c := heap_setCell_same w R 0 _ _ _ h
  have h2 : OutAt ((w.setCell ⟨R, 0, none⟩ x).setCell ⟨R, 1, none⟩ y) R x y c := heap_setCell_same _ R 1 _ _ _ h1
  exact ⟨_, rfl, heap_setCell_same _ R 2 _ _ _ h2, fun t ht => ((KeepT.set h ht).trans (KeepT.set h1 ht)).trans (KeepT.set h2 ht), fun B u hB hb => ((hb.setCell hB _).setCell hB _).setCell hB _⟩
theorem row_empty (w : World) (B : Nat) (e : TypeId) (k : Nat) (hB : B ≤ w.heap.size) : (w.alloc (.cells #[] e)).ownsRow B e k (.slice (some ⟨w.heap.size, 0, .none⟩) 0 0) 0 [] :=
  ⟨by simp, Or.inr ⟨w.heap.size, 0, #[], rfl, hB, heap_alloc_new w _, Nat.le_refl _, Nat.zero_le _, by simp, by simp⟩⟩
theorem enV_one (es : List En) : ∀ u ∈ es.flatMap enV, u.oneCell' = true := by
  intro u hu
  obtain ⟨e, _, he⟩ := List.mem_flatMap.1 hu
  simp [enV] at he
  rcases he with rfl | rfl <;> rfl
theorem dsV_one (es : List Ds) : ∀ u ∈ es.flatMap dsV, u.oneCell' = true := by
  intro u hu
  obtain ⟨e, _, he⟩ := List.mem_flatMap.1 hu
  simp [dsV] at he
  rcases he with rfl | rfl | rfl <;> rfl
end Go.Proofs.Ytghlgnklnbcppaa

set_option linter.unusedVariables false
set_option linter.unusedSimpArgs false
namespace Go.Proofs.Ytghlgnklnbcppaa
open Go.RowKit
def caV (c : Ca) : Value := .agg #[.int .i64 c.kind, .int .i64 c.core, .int .i64 c.fd, .int .i64 c.off, .int .i64 c.num, .string c.path, .string c.path2, .string c.data]
theorem box_ca (w : World) (c : Ca) : ∃ W, w.alloc (.cells #[.int .i64 c.kind, .int .i64 c.core, .int .i64 c.fd, .int .i64 c.off, .int .i64 c.num, .string c.path, .string c.path2, .string c.data] 28) = W ∧
    W.heap[w.heap.size]? = some (.cells #[.int .i64 c.kind, .int .i64 c.core, .int .i64 c.fd, .int .i64 c.off, .int .i64 c.num, .string c.path, .string c.path2, .string c.data] 28 (0, 0)) ∧ Below w.heap.size w W ∧ W.heap.size = w.heap.size + 1 :=
  ⟨_, rfl, heap_alloc_new w _, (Below.refl _ _).alloc (Nat.le_refl _) _, by simp⟩
def ResAt (w : World) (g : Nat) (a b c d e f : Value) : Prop := w.heap[g]? = some (.cells #[a, b, c, d, e, f] 37 (0, 0))
theorem ResAt.lt {w : World} {g : Nat} {a b c d e f : Value} (h : ResAt w g a b c d e f) : g < w.heap.size := (Array.getElem?_eq_some_iff.1 h).1
theorem ResAt.get {w : World} {g : Nat} {a b c d e f : Value} (h : ResAt w g a b c d e f) : w.cell? ⟨g, 0, none⟩ = some a ∧ w.cell? ⟨g, 1, none⟩ = some b ∧ w.cell? ⟨g, 2, none⟩ = some c ∧ w.cell? ⟨g, 3, none⟩ = some d ∧ w.cell? ⟨g, 4, none⟩ = some e ∧ w.cell? ⟨g, 5, none⟩ = some f ∧ ∀ j, w.frozen? ⟨g, j, none⟩ = false := by
  refine ⟨?_, ?_, ?_, ?_, ?_, ?_, fun j => frozen_of_row w g j _ _ h⟩ <;> (rw [cell_of_row w g _ _ _ (0, 0) h]; rfl)
theorem ResAt.six {w : World} {g : Nat} {a b c d e f : Value} (h : ResAt w g a b c d e f) (a' b' c' d' e' f' : Value) :
    ∃ w', (((((w.setCell ⟨g, 0, none⟩ a').setCell ⟨g, 1, none⟩ b').setCell ⟨g, 2, none⟩ c').setCell ⟨g, 3, none⟩ d').setCell ⟨g, 4, none⟩ e').setCell ⟨g, 5, none⟩ f' = w' ∧ ResAt w' g a' b' c' d' e' f' ∧
      (∀ t, 37 ≠ t → KeepT t w w') ∧ (∀ (B : Nat) (u : World), B ≤ g → Below B u w → Below B u w') ∧ (∀ b, b ≠ g → w'.heap[b]? = w.heap[b]?) ∧ w.heap.size ≤ w'.heap.size := by
  have h0 : ResAt (w.setCell ⟨g, 0, none⟩ a') g a' b c d e f := heap_setCell_same _ g 0 _ _ _ h
  have h1 : ResAt ((w.setCell ⟨g, 0, none⟩ a').setCell ⟨g, 1, none⟩ b') g a' b' c d e f := heap_setCell_same _ g 1 _ _ _ h0
  have h2 : ResAt (((w.setCell ⟨g, 0, none⟩ a').setCell ⟨g, 1, none⟩ b').setCell ⟨g, 2, none⟩ c') g a' b' c' d e f := heap_setCell_same _ g 2 _ _ _ h1
  have h3 : ResAt ((((w.setCell ⟨g, 0, none⟩ a').setCell ⟨g, 1, none⟩ b').setCell ⟨g, 2, none⟩ c').setCell ⟨g, 3, none⟩ d') g a' b' c' d' e f := heap_setCell_same _ g 3 _ _ _ h2
  have h4 : ResAt (((((w.setCell ⟨g, 0, none⟩ a').setCell ⟨g, 1, none⟩ b').setCell ⟨g, 2, none⟩ c').setCell ⟨g, 3, none⟩ d').setCell ⟨g, 4, none⟩ e') g a' b' c' d' e' f := heap_setCell_same _ g 4 _ _ _ h3
  exact ⟨_, rfl, heap_setCell_same _ g 5 _ _ _ h4, fun t ht => (((((KeepT.set h ht).trans (KeepT.set h0 ht)).trans (KeepT.set h1 ht)).trans (KeepT.set h2 ht)).trans (KeepT.set h3 ht)).trans (KeepT.set h4 ht), fun B u hB hb => (((((hb.setCell hB _).setCell hB _).setCell hB _).setCell hB _).setCell hB _).setCell hB _, fun b hb => by
    rw [Below.heap_setCell _ _ _ _ hb, Below.heap_setCell _ _ _ _ hb, Below.heap_setCell _ _ _ _ hb, Below.heap_setCell _ _ _ _ hb, Below.heap_setCell _ _ _ _ hb, Below.heap_setCell _ _ _ _ hb], by simp [World.setCell]⟩
theorem Own.keep {B : Nat} {w w' : World} {p : Nat} {s : St} (h : Own B w p s) (hk : ∀ t, 37 ≠ t → KeepT t w w') : Own B w' p s := by
  obtain ⟨⟨A, n, c, E, m, d, D, k, e, h0, h1, h2, h3, h4, h5, h6, h7⟩, hz⟩ := h
  exact ⟨⟨A, n, c, E, m, d, D, k, e, h0, ((hk _ (by decide)).same p _ h1).trans h1, h2.keep (hk _ (by decide)) (hk _ (by decide)), h3.keep (hk _ (by decide)), h4.keep (hk _ (by decide)), h5, h6, h7⟩, hz⟩
end Go.Proofs.Ytghlgnklnbcppaa

set_option linter.unusedVariables false
set_option linter.unusedSimpArgs false
namespace Go.Proofs.Ytghlgnklnbcppaa
open Go.RowKit
theorem dropI_mem : ∀ (is : List Ino) (num : Int) (x : Ino), x ∈ dropI is num → x ∈ is
  | [], _, _, h => by simp [dropI] at h
  | y :: is, num, x, h => by
    unfold dropI at h
    split at h
    · exact List.mem_cons_of_mem _ (dropI_mem is num x h)
    · rcases List.mem_cons.1 h with rfl | h
      · exact List.mem_cons_self
      · exact List.mem_cons_of_mem _ (dropI_mem is num x h)
theorem dropI_len : ∀ (is : List Ino) (num : Int), (dropI is num).length ≤ is.length ∧ bulkE (dropI is num) ≤ bulkE is
  | [], _ => ⟨Nat.le_refl _, Nat.le_refl _⟩
  | y :: is, num => by
    have ⟨h1, h2⟩ := dropI_len is num
    have e : bulkE (y :: is) = y.ents.length + bulkE is := rfl
    unfold dropI
    split
    · exact ⟨by rw [List.length_cons]; omega, by omega⟩
    · have e' : bulkE (y :: dropI is num) = y.ents.length + bulkE (dropI is num) := rfl
      exact ⟨by rw [List.length_cons, List.length_cons]; omega, by omega⟩
theorem Sized.dropI {s : St} (h : Sized s) (num : Int) : Sized { s with inos := Go.Proofs.Ytghlgnklnbcppaa.dropI s.inos num } := by
  have ⟨h1, h2⟩ := dropI_len s.inos num
  refine ⟨?_, fun x hx => h.text x (dropI_mem _ _ _ hx), fun x hx => h.nums.1 x (dropI_mem _ _ _ hx), h.nums.2⟩
  have := h.big
  show (Go.Proofs.Ytghlgnklnbcppaa.dropI s.inos num).length + bulkE (Go.Proofs.Ytghlgnklnbcppaa.dropI s.inos num) + s.opn.length + s.made.length ≤ _
  omega
end Go.Proofs.Ytghlgnklnbcppaa

set_option linter.unusedVariables false
set_option linter.unusedSimpArgs false
namespace Go.Proofs.Ytghlgnklnbcppaa
open Go.RowKit
def caRow (c : Ca) : Obj := .cells #[.int .i64 c.kind, .int .i64 c.core, .int .i64 c.fd, .int .i64 c.off, .int .i64 c.num, .string c.path, .string c.path2, .string c.data] 28 (0, 0)
structure Fr (B p : Nat) (s : St) (c : Ca) (w0 w : World) : Prop where
  own : Own B w p s
  call : w.heap[w0.heap.size]? = some (caRow c)
  res : ResAt w (w0.heap.size + 1) (.int .i64 0) (.int .i64 0) (.int .i64 0) (.bool false) (.string ⟨#[]⟩) (.slice none 0 0)
  bel : Below B w0 w
  aside : Aside p w0 w
  size : w0.heap.size + 2 ≤ w.heap.size
  hp : p < w0.heap.size
  hB : B ≤ w0.heap.size
theorem Fr.below {B p : Nat} {s : St} {c : Ca} {w0 w w' : World} (h : Fr B p s c w0 w) (hb : Below w.heap.size w w') : Fr B p s c w0 w' :=
  ⟨h.own.below hb, (hb.block _ (by have := h.size; omega)).trans h.call, (hb.block _ h.res.lt).trans h.res, h.bel.trans (hb.mono (by have := h.size; have := h.hB; omega)), h.aside.trans (Aside.below hb), Nat.le_trans h.size hb.size, h.hp, h.hB⟩
theorem Fr.step {B p : Nat} {s s' : St} {c : Ca} {w0 w w' : World} (h : Fr B p s c w0 w) (ho : Own B w' p s') (hb : Below B w w') (ha : Aside p w w') : Fr B p s' c w0 w' := by
  have hp := h.hp
  exact ⟨ho, (ha.same _ _ _ h.call (by decide) (by decide) (by omega)).trans h.call, (ha.same _ _ _ h.res (by decide) (by decide) (by omega)).trans h.res, h.bel.trans hb, h.aside.trans ha, Nat.le_trans h.size ha.size, h.hp, h.hB⟩
theorem Fr.six {B p : Nat} {s : St} {c : Ca} {w0 w : World} (h : Fr B p s c w0 w) (a b x y z t : Value) :
    ∃ w', (((((w.setCell ⟨w0.heap.size + 1, 0, none⟩ a).setCell ⟨w0.heap.size + 1, 1, none⟩ b).setCell ⟨w0.heap.size + 1, 2, none⟩ x).setCell ⟨w0.heap.size + 1, 3, none⟩ y).setCell ⟨w0.heap.size + 1, 4, none⟩ z).setCell ⟨w0.heap.size + 1, 5, none⟩ t = w' ∧
      ResAt w' (w0.heap.size + 1) a b x y z t ∧ Own B w' p s ∧ Below B w0 w' ∧ Aside p w0 w' := by
  obtain ⟨w', hw, hr, hk, hb, hn, hz⟩ := h.res.six a b x y z t
  exact ⟨w', hw, hr, h.own.keep hk, hb B w0 (by have := h.hB; omega) h.bel, ⟨Nat.le_trans h.aside.size hz, fun g cur t hg h1 h2 h3 => (hn g (by have := (Array.getElem?_eq_some_iff.1 hg).1; omega)).trans (h.aside.same g cur t hg h1 h2 h3)⟩⟩
theorem Fr.start {B p : Nat} {s : St} {w : World} (h : Own B w p s) (hB : B ≤ w.heap.size) (c : Ca) :
    ∃ W W2, w.alloc (.cells #[.int .i64 c.kind, .int .i64 c.core, .int .i64 c.fd, .int .i64 c.off, .int .i64 c.num, .string c.path, .string c.path2, .string c.data] 28) = W ∧
      W.alloc (.cells #[.int .i64 0, .int .i64 0, .int .i64 0, .bool false, .string ⟨#[]⟩, .slice none 0 0] 37) = W2 ∧ W.heap.size = w.heap.size + 1 ∧ Fr B p s c w W2 := by
  obtain ⟨W, hW, hbc, hal, hsz⟩ := box_ca w c
  obtain ⟨A, n, cp, E, m, d, D, k, e, _, hp, _⟩ := h.val
  have hal2 : Below W.heap.size W (W.alloc (.cells #[.int .i64 0, .int .i64 0, .int .i64 0, .bool false, .string ⟨#[]⟩, .slice none 0 0] 37)) := (Below.refl _ _).alloc (Nat.le_refl _) _
  have hb2 := Cv.next hal hal2
  refine ⟨W, _, hW, rfl, hsz, h.below hb2, (hal2.block _ (by omega)).trans hbc, ?_, hb2.mono hB, Aside.below hb2, ?_, hp, hB⟩
  · rw [← hsz]; exact heap_alloc_new W _
  · simp [hsz]
end Go.Proofs.Ytghlgnklnbcppaa

set_option linter.unusedVariables false
set_option linter.unusedSimpArgs false
namespace Go.Proofs.Ytghlgnklnbcppaa
open Go.RowKit
def Deep (is : List Ino) : Nat → Int → Prop
  | 0, _ => False
  | n + 1, top => ∀ x, inoAt is (atV is top) = some x → ∀ e ∈ x.ents, dirAt is e.num = true → Deep is n e.num
end Go.Proofs.Ytghlgnklnbcppaa

set_option linter.unusedVariables false
set_option linter.unusedSimpArgs false
namespace Go.Proofs.Ytghlgnklnbcppaa
open Go.RowKit
theorem bulkE_modify (f : List En → List En) (hf : ∀ es, (f es).length ≤ es.length) : ∀ (is : List Ino) (i : Nat), bulkE (is.modify i fun x => { x with ents := f x.ents }) ≤ bulkE is
  | [], _ => by simp
  | x :: xs, 0 => by
    have := hf x.ents
    show (f x.ents).length + bulkE xs ≤ x.ents.length + bulkE xs
    omega
  | x :: xs, i + 1 => by
    have := bulkE_modify f hf xs i
    show x.ents.length + bulkE (xs.modify i _) ≤ x.ents.length + bulkE xs
    omega
theorem modify_mem {α : Type} (f : α → α) : ∀ (l : List α) (i : Nat) (y : α), y ∈ l.modify i f → y ∈ l ∨ ∃ x ∈ l, y = f x
  | [], _, _, h => by simp at h
  | x :: xs, 0, y, h => by
    have h2 : y ∈ f x :: xs := h
    rcases List.mem_cons.1 h2 with rfl | h2
    · exact .inr ⟨x, List.mem_cons_self, rfl⟩
    · exact .inl (List.mem_cons_of_mem _ h2)
  | x :: xs, i + 1, y, h => by
    have h2 : y ∈ x :: xs.modify i f := h
    rcases List.mem_cons.1 h2 with rfl | h2
    · exact .inl List.mem_cons_self
    · rcases modify_mem f xs i y h2 with h3 | ⟨z, h3, h4⟩
      · exact .inl (List.mem_cons_of_mem _ h3)
      · exact .inr ⟨z, List.mem_cons_of_mem _ h3, h4⟩
theorem dropE_mem : ∀ (es : List En) (name : ByteArray) (e : En), e ∈ dropE es name → e ∈ es
  | [], _, _, h => by simp [dropE] at h
  | y :: es, name, e, h => by
    unfold dropE at h
    split at h
    · exact List.mem_cons_of_mem _ (dropE_mem es name e h)
    · rcases List.mem_cons.1 h with rfl | h
      · exact List.mem_cons_self
      · exact List.mem_cons_of_mem _ (dropE_mem es name e h)
theorem Sized.dropE {s : St} (h : Sized s) (dir : Int) (name : ByteArray) : Sized { s with inos := setEnts s.inos dir fun es => Go.Proofs.Ytghlgnklnbcppaa.dropE es name } := by
  refine ⟨?_, fun x hx => ?_, ⟨fun x hx => ?_, h.nums.2⟩⟩
  · have h1 := bulkE_modify (fun es => Go.Proofs.Ytghlgnklnbcppaa.dropE es name) (fun es => dropE_len es name) s.inos (atV s.inos dir).toNat
    have := h.big
    have h2 : (setEnts s.inos dir fun es => Go.Proofs.Ytghlgnklnbcppaa.dropE es name).length = s.inos.length := by unfold setEnts; rw [List.length_modify]
    have h3 : bulkE (setEnts s.inos dir fun es => Go.Proofs.Ytghlgnklnbcppaa.dropE es name) ≤ bulkE s.inos := h1
    show (setEnts s.inos dir fun es => Go.Proofs.Ytghlgnklnbcppaa.dropE es name).length + bulkE (setEnts s.inos dir fun es => Go.Proofs.Ytghlgnklnbcppaa.dropE es name) + s.opn.length + s.made.length ≤ _
    omega
  · rcases modify_mem _ _ _ _ hx with hx | ⟨z, hz, rfl⟩
    · exact h.text x hx
    · exact ⟨(h.text z hz).1, fun e he => (h.text z hz).2 e (dropE_mem _ _ _ he)⟩
  · rcases modify_mem _ _ _ _ hx with hx | ⟨z, hz, rfl⟩
    · exact h.nums.1 x hx
    · exact ⟨(h.nums.1 z hz).1, (h.nums.1 z hz).2.1, fun e he => (h.nums.1 z hz).2.2 e (dropE_mem _ _ _ he)⟩
end Go.Proofs.Ytghlgnklnbcppaa

set_option linter.unusedVariables false
set_option linter.unusedSimpArgs false
namespace Go.Proofs.Ytghlgnklnbcppaa
open Go.RowKit
theorem box_ds (w : World) (core fd num : Int) : ∃ W, w.alloc (.cells #[.int .i64 core, .int .i64 fd, .int .i64 num] 51) = W ∧ W.cell? ⟨w.heap.size, 0, .none⟩ = some (.int .i64 core) ∧ W.cell? ⟨w.heap.size, 1, .none⟩ = some (.int .i64 fd) ∧ W.cell? ⟨w.heap.size, 2, .none⟩ = some (.int .i64 num) ∧ Below w.heap.size w W ∧ w.heap.size < W.heap.size := by
  refine ⟨_, rfl, ?_, ?_, ?_, (Below.refl _ _).alloc (Nat.le_refl _) _, by simp⟩
  · exact (World.cell?_alloc_mark w _ _ (0, 0) _).trans rfl
  · exact (World.cell?_alloc_mark w _ _ (0, 0) _).trans rfl
  · exact (World.cell?_alloc_mark w _ _ (0, 0) _).trans rfl
def prevD (ds : List Ds) (k : Nat) : Option Ds := if k = 0 then none else ds[k - 1]?
end Go.Proofs.Ytghlgnklnbcppaa

set_option linter.unusedVariables false
set_option linter.unusedSimpArgs false
namespace Go.Proofs.Ytghlgnklnbcppaa
open Go.RowKit
theorem findV_at {is : List Ino} (hw : Whole is) (path : ByteArray) (h : (findV is path).2 = 0) : 0 ≤ atV is (findV is path).1 := by
  unfold findV at h ⊢
  by_cases h1 : (parseL path.data.toList).2 ≠ 0
  · rw [if_pos h1] at h
    unfold codeP at h
    rw [if_neg h1] at h
    split at h <;> cases h
  rw [if_neg h1] at h ⊢
  exact walkG_some hw _ _ hw.1 h
end Go.Proofs.Ytghlgnklnbcppaa

set_option linter.unusedVariables false
set_option linter.unusedSimpArgs false
namespace Go.Proofs.Ytghlgnklnbcppaa
open Go.RowKit
def NmsAt (lo : Option Nat) (w : World) (A : Option Addr) (n : Nat) (ns : List ByteArray) : Prop :=
  ns.length = n ∧ (0 < n → ∃ g off, A = some ⟨g, off, none⟩ ∧ g < w.heap.size ∧ Mine lo 9 w g ∧ ∀ j x, ns[j]? = some x → w.cell? ⟨g, off + j, none⟩ = some (.string x))
theorem NmsAt.below {lo : Option Nat} {w w' : World} {A : Option Addr} {n : Nat} {ns : List ByteArray} (h : NmsAt lo w A n ns) (hb : Below w.heap.size w w') : NmsAt lo w' A n ns :=
  ⟨h.1, fun hn => by
    obtain ⟨g, off, hA, hg, hm, hc⟩ := h.2 hn
    exact ⟨g, off, hA, Nat.lt_of_lt_of_le hg hb.size, hm.below hb, fun j x hx => (hb.cell (p := ⟨g, _, none⟩) hg).trans (hc j x hx)⟩⟩
theorem NmsAt.weak {lo : Option Nat} {w : World} {A : Option Addr} {n : Nat} {ns : List ByteArray} (h : NmsAt lo w A n ns) : NmsAt none w A n ns :=
  ⟨h.1, fun hn => by
    obtain ⟨g, off, hA, hg, hm, hc⟩ := h.2 hn
    exact ⟨g, off, hA, hg, Mine.any _ _ _, hc⟩⟩
theorem NmsAt.keep {B : Nat} {w w' : World} {A : Option Addr} {n : Nat} {ns : List ByteArray} (h : NmsAt (some B) w A n ns) (hk : KeepT 9 w w') : NmsAt (some B) w' A n ns :=
  ⟨h.1, fun hn => by
    obtain ⟨g, off, hA, hg, hm, hc⟩ := h.2 hn
    obtain ⟨m1, m2⟩ := hk.mine hm
    exact ⟨g, off, hA, Nat.lt_of_lt_of_le hg hk.size, m1, fun j x hx => (cell_same m2 _).trans (hc j x hx)⟩⟩
theorem NmsAt.lower {B B' : Nat} {w : World} {A : Option Addr} {n : Nat} {ns : List ByteArray} (h : NmsAt (some B) w A n ns) (hb : B' ≤ B) : NmsAt (some B') w A n ns :=
  ⟨h.1, fun hn => by
    obtain ⟨g, off, hA, hg, hm, hc⟩ := h.2 hn
    exact ⟨g, off, hA, hg, hm.mono hb, hc⟩⟩
def ResIs (lo : Option Nat) (w : World) (v : Value) (r : Re) : Prop :=
  ∃ A n c, v = .agg #[.int .i64 r.code, .int .i64 r.fd, .int .i64 r.num, .bool r.dir, .string r.data, .slice A n c] ∧ SlOk A n c ∧ NmsAt lo w A n r.names
theorem ResIs.below {lo : Option Nat} {w w' : World} {v : Value} {r : Re} (h : ResIs lo w v r) (hb : Below w.heap.size w w') : ResIs lo w' v r := by
  obtain ⟨A, n, c, h1, h2, h3⟩ := h
  exact ⟨A, n, c, h1, h2, h3.below hb⟩
theorem ResIs.weak {lo : Option Nat} {w : World} {v : Value} {r : Re} (h : ResIs lo w v r) : ResIs none w v r := by
  obtain ⟨A, n, c, h1, h2, h3⟩ := h
  exact ⟨A, n, c, h1, h2, h3.weak⟩
structure Lk (a b d : Value) (s : St) (c : Ca) (w0 w : World) : Prop where
  box : OutAt w w0.heap.size a b d
  call : w.heap[w0.heap.size + 1]? = some (caRow c)
  res : ResAt w (w0.heap.size + 2) (.int .i64 0) (.int .i64 0) (.int .i64 0) (.bool false) (.string ⟨#[]⟩) (.slice none 0 0)
  st : StAt none w (.agg #[a, b, d]) s
  bel : Below w0.heap.size w0 w
  size : w0.heap.size + 3 ≤ w.heap.size
theorem Lk.below {a b d : Value} {s : St} {c : Ca} {w0 w w' : World} (h : Lk a b d s c w0 w) (hb : Below w.heap.size w w') : Lk a b d s c w0 w' :=
  ⟨(hb.block _ (by have := h.size; omega)).trans h.box, (hb.block _ (by have := h.size; omega)).trans h.call, (hb.block _ h.res.lt).trans h.res, h.st.below hb, h.bel.trans (hb.mono (by have := h.size; omega)), Nat.le_trans h.size hb.size⟩
theorem Lk.six {a b d : Value} {s : St} {c : Ca} {w0 w : World} (h : Lk a b d s c w0 w) (q r x y z t : Value) :
    ∃ w', (((((w.setCell ⟨w0.heap.size + 2, 0, none⟩ q).setCell ⟨w0.heap.size + 2, 1, none⟩ r).setCell ⟨w0.heap.size + 2, 2, none⟩ x).setCell ⟨w0.heap.size + 2, 3, none⟩ y).setCell ⟨w0.heap.size + 2, 4, none⟩ z).setCell ⟨w0.heap.size + 2, 5, none⟩ t = w' ∧
      ResAt w' (w0.heap.size + 2) q r x y z t ∧ Below w0.heap.size w0 w' ∧ ∀ ty, 37 ≠ ty → KeepT ty w w' := by
  obtain ⟨w', hw, hr, hk, hb, _, _⟩ := h.res.six q r x y z t
  exact ⟨w', hw, hr, hb w0.heap.size w0 (by omega) h.bel, hk⟩
theorem Lk.start {w : World} {s : St} {A : Option Addr} {n cp : Nat} {E : Option Addr} {m d : Nat} {D : Option Addr} {k e : Nat} (h : StAt none w (.agg #[.slice A n cp, .slice E m d, .slice D k e]) s) (c : Ca) :
    ∃ W W2 W3, w.alloc (.cells #[.slice A n cp, .slice E m d, .slice D k e] 26) = W ∧ W.alloc (.cells #[.int .i64 c.kind, .int .i64 c.core, .int .i64 c.fd, .int .i64 c.off, .int .i64 c.num, .string c.path, .string c.path2, .string c.data] 28) = W2 ∧
      W2.alloc (.cells #[.int .i64 0, .int .i64 0, .int .i64 0, .bool false, .string ⟨#[]⟩, .slice none 0 0] 37) = W3 ∧ W.heap.size = w.heap.size + 1 ∧ W2.heap.size = w.heap.size + 2 ∧ Lk (.slice A n cp) (.slice E m d) (.slice D k e) s c w W3 := by
  have h1 : Below w.heap.size w (w.alloc (.cells #[.slice A n cp, .slice E m d, .slice D k e] 26)) := (Below.refl _ _).alloc (Nat.le_refl _) _
  obtain ⟨W2, hW2, hbc, hal, hsz⟩ := box_ca (w.alloc (.cells #[.slice A n cp, .slice E m d, .slice D k e] 26)) c
  have hs1 : (w.alloc (.cells #[.slice A n cp, .slice E m d, .slice D k e] 26)).heap.size = w.heap.size + 1 := by simp
  have hal2 : Below W2.heap.size W2 (W2.alloc (.cells #[.int .i64 0, .int .i64 0, .int .i64 0, .bool false, .string ⟨#[]⟩, .slice none 0 0] 37)) := (Below.refl _ _).alloc (Nat.le_refl _) _
  have hb2 := Cv.next hal hal2
  rw [hs1] at hbc hsz
  refine ⟨_, W2, _, rfl, hW2, rfl, hs1, by omega, ?_, ?_, ?_, h.below (Cv.next h1 hb2), Cv.next h1 hb2, by simp; omega⟩
  · exact (hb2.block _ (by omega)).trans (heap_alloc_new w _)
  · exact (hal2.block _ (by omega)).trans hbc
  · rw [show w.heap.size + 2 = W2.heap.size by omega]; exact heap_alloc_new W2 _
end Go.Proofs.Ytghlgnklnbcppaa
