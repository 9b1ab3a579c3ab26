/- concourseref1.Mem: what it is in memory; works, by its contract. -/
import Derived.Test.YtbflennacniacaaPmLive
import Derived.Laws.CopyOwn
namespace Go.Proofs.Ytbflennacniacaa
open Go.RowKit
set_option linter.unusedVariables false
/-- A row of one-cell elements in a block. -/
def RowT (w : World) (t : TypeId) (b N : Nat) (f : Nat → Value) : Prop :=
  ∃ cur : Array Value, w.heap[b]? = some (.cells cur t (0, 0)) ∧ ∀ j, j < N → cur[j]? = some (f j)
theorem RowT.cell {w : World} {t : TypeId} {b N : Nat} {f : Nat → Value} (h : RowT w t b N f) (j : Nat) (hj : j < N) : w.cell? ⟨b, j, .none⟩ = some (f j) := by
  obtain ⟨cur, hh, hc⟩ := h
  rw [cell_of_row w b j cur _ (0, 0) hh]
  exact hc j hj
theorem RowT.frozen {w : World} {t : TypeId} {b N : Nat} {f : Nat → Value} (h : RowT w t b N f) (j : Nat) : w.frozen? ⟨b, j, .none⟩ = false := by
  obtain ⟨cur, hh, hc⟩ := h
  exact frozen_of_row w b j cur _ hh
theorem RowT.lt {w : World} {t : TypeId} {b N : Nat} {f : Nat → Value} (h : RowT w t b N f) : b < w.heap.size := by
  obtain ⟨cur, hh, hc⟩ := h
  exact (Array.getElem?_eq_some_iff.1 hh).1
theorem RowT.same {w w' : World} {t : TypeId} {b N : Nat} {f : Nat → Value} (h : RowT w t b N f) (hb : w'.heap[b]? = w.heap[b]?) : RowT w' t b N f := by
  obtain ⟨cur, hh, hc⟩ := h
  exact ⟨cur, hb.trans hh, hc⟩
def wordV (f : Nat → Int) (j : Nat) : Value := .int .u64 (f j)
def flagV (f : Nat → Bool) (j : Nat) : Value := .bool (f j)
/-- The document's own memory. -/
structure RM where
  n : Nat
  seen : Nat → Int
  last : Nat → Int
  way : Nat → Int
  going : Nat → Bool
  fuse : Bool
  left : Int
  fin : Option (Nat → Int)
  steps : Nat
  many : Nat
structure RF where
  a : Nat
  s : Nat
  l : Nat
  y : Nat
  g : Nat
  e : Nat
def RF.has (F : RF) (k : Nat) : Prop := k = F.a ∨ k = F.s ∨ k = F.l ∨ k = F.y ∨ k = F.g ∨ k = F.e
structure RMem (w : World) (F : RF) (M : RM) : Prop where
  blk : ∃ cs cl cy cg ce : Nat, M.n * 8 ≤ cs ∧ M.n * 8 ≤ cl ∧ M.n * 8 ≤ cy ∧ (M.n ≤ cg ∧ M.n * 8 ≤ ce) ∧ w.heap[F.a]? = some (.cells #[.slice (some ⟨F.s, 0, .none⟩) (M.n * 8) cs, .slice (some ⟨F.l, 0, .none⟩) (M.n * 8) cl,
    .slice (some ⟨F.y, 0, .none⟩) (M.n * 8) cy, .slice (some ⟨F.g, 0, .none⟩) M.n cg, .bool M.fuse, .int .i64 M.left, (endV M.fin F.e (M.n * 8) ce), .int .i64 (M.steps : Nat), .int .i64 (M.many : Nat)] 52 (0, 0))
  seen : RowT w 29 F.s (M.n * 8) (wordV M.seen)
  last : RowT w 29 F.l (M.n * 8) (wordV M.last)
  way : RowT w 29 F.y (M.n * 8) (wordV M.way)
  going : RowT w 4 F.g M.n (flagV M.going)
  fin : ∀ g, M.fin = some g → RowT w 29 F.e (M.n * 8) (wordV g) ∧ F.e ≠ F.s ∧ F.e ≠ F.l ∧ F.e ≠ F.y
  apart : F.s ≠ F.l ∧ F.s ≠ F.y ∧ F.l ≠ F.y
  size : 1 ≤ M.n ∧ M.n ≤ 8192
  idle : M.fin = none → F.e = F.a
theorem RMem.same {w w' : World} {F : RF} {M : RM} (h : RMem w F M) (hb : ∀ k, F.has k → w'.heap[k]? = w.heap[k]?) : RMem w' F M where
  blk := by
    obtain ⟨cs, cl, cy, cg, ce, h1, h2, h3, h4, h5⟩ := h.blk
    exact ⟨cs, cl, cy, cg, ce, h1, h2, h3, h4, (hb _ (.inl rfl)).trans h5⟩
  seen := h.seen.same (hb _ (.inr (.inl rfl)))
  last := h.last.same (hb _ (.inr (.inr (.inl rfl))))
  way := h.way.same (hb _ (.inr (.inr (.inr (.inl rfl)))))
  going := h.going.same (hb _ (.inr (.inr (.inr (.inr (.inl rfl))))))
  fin := fun g hg => ⟨(h.fin g hg).1.same (hb _ (.inr (.inr (.inr (.inr (.inr rfl)))))), (h.fin g hg).2⟩
  apart := h.apart
  size := h.size
  idle := h.idle
theorem RMem.in_heap {w : World} {F : RF} {M : RM} (h : RMem w F M) : ∀ k, F.has k → k < w.heap.size := by
  obtain ⟨cs, cl, cy, cg, ce, _, _, _, _, h5⟩ := h.blk
  have ha : F.a < w.heap.size := (Array.getElem?_eq_some_iff.1 h5).1
  intro k hk
  rcases hk with rfl | rfl | rfl | rfl | rfl | rfl
  · exact ha
  · exact h.seen.lt
  · exact h.last.lt
  · exact h.way.lt
  · exact h.going.lt
  · cases hf : M.fin with
    | none => rw [h.idle hf]; exact ha
    | some g => exact (h.fin g hf).1.lt
theorem RMem.below {w w' : World} {F : RF} {M : RM} (h : RMem w F M) (hb : Below w.heap.size w w') : RMem w' F M := h.same fun k hk => hb.block k (h.in_heap k hk)
theorem RMem.kinds {w : World} {F : RF} {M : RM} (h : RMem w F M) : F.a ≠ F.s ∧ F.a ≠ F.l ∧ F.a ≠ F.y ∧ F.a ≠ F.g ∧ F.g ≠ F.s ∧ F.g ≠ F.l ∧ F.g ≠ F.y ∧ (∀ g, M.fin = some g → F.a ≠ F.e ∧ F.g ≠ F.e) := by
  obtain ⟨cs, cl, cy, cg, ce, _, _, _, _, h3⟩ := h.blk
  obtain ⟨c1, hs, _⟩ := h.seen
  obtain ⟨c2, hl, _⟩ := h.last
  obtain ⟨c4, hy, _⟩ := h.way
  obtain ⟨c5, hg, _⟩ := h.going
  have key : ∀ {i j : Nat} {u v : Array Value} {s t : TypeId}, w.heap[i]? = some (.cells u s (0, 0)) → w.heap[j]? = some (.cells v t (0, 0)) → s ≠ t → i ≠ j := by
    intro i j u v s t h1 h2 hn e
    rw [e, h2] at h1
    injection h1 with h1
    injection h1 with _ h1 _
    exact hn h1.symm
  refine ⟨key h3 hs (by decide), key h3 hl (by decide), key h3 hy (by decide), key h3 hg (by decide), key hg hs (by decide), key hg hl (by decide), key hg hy (by decide), fun g hf => ?_⟩
  obtain ⟨c6, he, _⟩ := (h.fin g hf).1
  exact ⟨key h3 he (by decide), key hg he (by decide)⟩
/-- The cells of the struct. -/
theorem RMem.cells {w : World} {F : RF} {M : RM} (h : RMem w F M) : ∃ cs cl cy cg ce : Nat, M.n * 8 ≤ cs ∧ M.n * 8 ≤ cl ∧ M.n * 8 ≤ cy ∧ (M.n ≤ cg ∧ M.n * 8 ≤ ce) ∧
    w.cell? ⟨F.a, 0, .none⟩ = some (.slice (some ⟨F.s, 0, .none⟩) (M.n * 8) cs) ∧ w.cell? ⟨F.a, 1, .none⟩ = some (.slice (some ⟨F.l, 0, .none⟩) (M.n * 8) cl) ∧ w.cell? ⟨F.a, 2, .none⟩ = some (.slice (some ⟨F.y, 0, .none⟩) (M.n * 8) cy) ∧
    w.cell? ⟨F.a, 3, .none⟩ = some (.slice (some ⟨F.g, 0, .none⟩) M.n cg) ∧ w.cell? ⟨F.a, 4, .none⟩ = some (.bool M.fuse) ∧ w.cell? ⟨F.a, 5, .none⟩ = some (.int .i64 M.left) ∧ w.cell? ⟨F.a, 6, .none⟩ = some (endV M.fin F.e (M.n * 8) ce) ∧
    w.cell? ⟨F.a, 7, .none⟩ = some (.int .i64 (M.steps : Nat)) ∧ w.cell? ⟨F.a, 8, .none⟩ = some (.int .i64 (M.many : Nat)) ∧ ∀ j, w.frozen? ⟨F.a, j, .none⟩ = false := by
  obtain ⟨cs, cl, cy, cg, ce, h1, h2, h3, h4, hb⟩ := h.blk
  refine ⟨cs, cl, cy, cg, ce, h1, h2, h3, h4, ?_, ?_, ?_, ?_, ?_, ?_, ?_, ?_, ?_, fun j => frozen_of_row w F.a j _ _ hb⟩ <;> (rw [cell_of_row w F.a _ _ _ (0, 0) hb]; rfl)
/-- A store into the struct, of a plain field. -/
theorem RMem.setA {w : World} {F : RF} {M M' : RM} (h : RMem w F M) (k : Nat) (u : Value) (hn : M'.n = M.n) (hseen : M'.seen = M.seen) (hlast : M'.last = M.last) (hway : M'.way = M.way) (hgo : M'.going = M.going) (hfin : M'.fin = M.fin)
    (hb : ∀ (cs cl cy cg ce : Nat), (#[.slice (some ⟨F.s, 0, .none⟩) (M.n * 8) cs, .slice (some ⟨F.l, 0, .none⟩) (M.n * 8) cl, .slice (some ⟨F.y, 0, .none⟩) (M.n * 8) cy, .slice (some ⟨F.g, 0, .none⟩) M.n cg, .bool M.fuse, .int .i64 M.left,
      (endV M.fin F.e (M.n * 8) ce), .int .i64 (M.steps : Nat), .int .i64 (M.many : Nat)] : Array Value).setIfInBounds k u =
      #[.slice (some ⟨F.s, 0, .none⟩) (M'.n * 8) cs, .slice (some ⟨F.l, 0, .none⟩) (M'.n * 8) cl, .slice (some ⟨F.y, 0, .none⟩) (M'.n * 8) cy, .slice (some ⟨F.g, 0, .none⟩) M'.n cg, .bool M'.fuse, .int .i64 M'.left,
      (endV M'.fin F.e (M'.n * 8) ce), .int .i64 (M'.steps : Nat), .int .i64 (M'.many : Nat)]) :
    RMem (w.setCell ⟨F.a, k, .none⟩ u) F M' := by
  obtain ⟨k1, k2, k3, k4, _, _, _, k6⟩ := h.kinds
  have other : ∀ j, j ≠ F.a → (w.setCell ⟨F.a, k, .none⟩ u).heap[j]? = w.heap[j]? := fun j hj => Below.heap_setCell w ⟨F.a, k, .none⟩ u j hj
  obtain ⟨cs, cl, cy, cg, ce, h1, h2, h3, h4, h5⟩ := h.blk
  refine ⟨⟨cs, cl, cy, cg, ce, by omega, by omega, by omega, by omega, ?_⟩, ?_, ?_, ?_, ?_, fun g hg => ?_, h.apart, by rw [hn]; exact h.size, by rw [hfin]; exact h.idle⟩
  · rw [heap_setCell_same w F.a k _ _ u h5, hb cs cl cy cg ce]
  · rw [hn, hseen]; exact h.seen.same (other _ (Ne.symm k1))
  · rw [hn, hlast]; exact h.last.same (other _ (Ne.symm k2))
  · rw [hn, hway]; exact h.way.same (other _ (Ne.symm k3))
  · rw [hn, hgo]; exact h.going.same (other _ (Ne.symm k4))
  · rw [hfin] at hg
    rw [hn]; exact ⟨(h.fin g hg).1.same (other _ (Ne.symm (k6 g hg).1)), (h.fin g hg).2⟩
theorem RMem.setSteps {w : World} {F : RF} {M : RM} (h : RMem w F M) : RMem (w.setCell ⟨F.a, 7, .none⟩ (.int .i64 ((M.steps : Int) + 1))) F { M with steps := M.steps + 1 } :=
  h.setA 7 _ rfl rfl rfl rfl rfl rfl fun _ _ _ _ _ => by simp
theorem RMem.setMany {w : World} {F : RF} {M : RM} (h : RMem w F M) : RMem (w.setCell ⟨F.a, 8, .none⟩ (.int .i64 ((M.many : Int) + 1))) F { M with many := M.many + 1 } :=
  h.setA 8 _ rfl rfl rfl rfl rfl rfl fun _ _ _ _ _ => by simp
theorem RMem.setLeft {w : World} {F : RF} {M : RM} (h : RMem w F M) (x : Int) : RMem (w.setCell ⟨F.a, 5, .none⟩ (.int .i64 x)) F { M with left := x } :=
  h.setA 5 _ rfl rfl rfl rfl rfl rfl fun _ _ _ _ _ => by simp
theorem RMem.setFuse {w : World} {F : RF} {M : RM} (h : RMem w F M) (x : Bool) : RMem (w.setCell ⟨F.a, 4, .none⟩ (.bool x)) F { M with fuse := x } :=
  h.setA 4 _ rfl rfl rfl rfl rfl rfl fun _ _ _ _ _ => by simp
/-- Does a step work? -/
def RM.power (M : RM) : Bool := !M.fuse || decide (0 < M.left)
def RM.worked (M : RM) : RM := if M.fuse = true ∧ 0 < M.left then { M with steps := M.steps + 1, left := M.left - 1 } else { M with steps := M.steps + 1 }
end Go.Proofs.Ytbflennacniacaa
