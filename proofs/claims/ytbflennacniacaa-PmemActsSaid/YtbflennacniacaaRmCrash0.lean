/- concourseref1.Mem: Crash: what it sees, what it sets; plain. -/
import Derived.Test.YtbflennacniacaaRmNewG
namespace Go.Proofs.Ytbflennacniacaa
open Go.RowKit
set_option linter.unusedVariables false
def RF.wasB (F : RF) (M : RM) : Nat := if M.fin.isNone then F.s else F.e
theorem RMem.wasRow {w : World} {F : RF} {M : RM} (h : RMem w F M) : RowT w 29 (F.wasB M) (M.n * 8) (wordV M.was) ∧ F.wasB M ≠ F.l := by
  obtain ⟨a1, a2, a3⟩ := h.apart
  unfold RF.wasB RM.was
  cases hf : M.fin with
  | none => exact ⟨h.seen, a1⟩
  | some g => exact ⟨(h.fin g hf).1, (h.fin g hf).2.2.1⟩
theorem RMem.setSeenRow {w : World} {F : RF} {M : RM} (h : RMem w F M) (g cap : Nat) (f : Nat → Int) (hcap : M.n * 8 ≤ cap) (hg : ∀ k, F.has k → k ≠ g) (hr : RowT w 29 g (M.n * 8) (wordV f)) :
    RMem (w.setCell ⟨F.a, 0, .none⟩ (.slice (some ⟨g, 0, .none⟩) (M.n * 8 : Nat) cap)) { F with s := g } { M with seen := f } := by
  obtain ⟨k1, k2, k3, k4, _, _, _, k6⟩ := h.kinds
  have other : ∀ i, i ≠ F.a → (w.setCell ⟨F.a, 0, .none⟩ (.slice (some ⟨g, 0, .none⟩) (M.n * 8 : Nat) cap)).heap[i]? = w.heap[i]? := fun i hi => Below.heap_setCell w ⟨F.a, 0, .none⟩ _ i hi
  have ga := hg _ (.inl rfl)
  have gl := hg _ (.inr (.inr (.inl rfl)))
  have gy := hg _ (.inr (.inr (.inr (.inl rfl))))
  have ge := hg _ (.inr (.inr (.inr (.inr (.inr rfl)))))
  obtain ⟨cs, cl, cy, cg, ce, h1, h2, h3, h4, h5⟩ := h.blk
  refine ⟨⟨cap, cl, cy, cg, ce, hcap, h2, h3, h4, heap_setCell_same w F.a 0 _ _ _ h5⟩, hr.same (other _ (Ne.symm ga)), h.last.same (other _ (Ne.symm k2)), h.way.same (other _ (Ne.symm k3)), h.going.same (other _ (Ne.symm k4)), fun f' hf => ?_, ⟨Ne.symm gl, Ne.symm gy, h.apart.2.2⟩, h.size, h.idle⟩
  exact ⟨(h.fin f' hf).1.same (other _ (Ne.symm (k6 f' hf).1)), ge, (h.fin f' hf).2.2⟩
theorem RMem.setGoRow {w : World} {F : RF} {M : RM} (h : RMem w F M) (g cap : Nat) (f : Nat → Bool) (hcap : M.n ≤ cap) (hg : ∀ k, F.has k → k ≠ g) (hr : RowT w 4 g M.n (flagV f)) :
    RMem (w.setCell ⟨F.a, 3, .none⟩ (.slice (some ⟨g, 0, .none⟩) M.n cap)) { F with g := g } { M with going := f } := by
  obtain ⟨k1, k2, k3, k4, _, _, _, k6⟩ := h.kinds
  have other : ∀ i, i ≠ F.a → (w.setCell ⟨F.a, 3, .none⟩ (.slice (some ⟨g, 0, .none⟩) M.n cap)).heap[i]? = w.heap[i]? := fun i hi => Below.heap_setCell w ⟨F.a, 3, .none⟩ _ i hi
  have ga := hg _ (.inl rfl)
  obtain ⟨cs, cl, cy, cg, ce, h1, h2, h3, h4, h5⟩ := h.blk
  exact ⟨⟨cs, cl, cy, cap, ce, h1, h2, h3, ⟨hcap, h4.2⟩, heap_setCell_same w F.a 3 _ _ _ h5⟩, h.seen.same (other _ (Ne.symm k1)), h.last.same (other _ (Ne.symm k2)), h.way.same (other _ (Ne.symm k3)), hr.same (other _ (Ne.symm ga)), fun f' hf => ⟨(h.fin f' hf).1.same (other _ (Ne.symm (k6 f' hf).1)), (h.fin f' hf).2⟩, h.apart, h.size, h.idle⟩
theorem RMem.setNoEnd {w : World} {F : RF} {M : RM} (h : RMem w F M) : RMem (w.setCell ⟨F.a, 6, .none⟩ (.slice .none 0 0)) { F with e := F.a } { M with fin := none } := by
  obtain ⟨k1, k2, k3, k4, _, _, _, k6⟩ := h.kinds
  have other : ∀ i, i ≠ F.a → (w.setCell ⟨F.a, 6, .none⟩ (.slice .none 0 0)).heap[i]? = w.heap[i]? := fun i hi => Below.heap_setCell w ⟨F.a, 6, .none⟩ _ i hi
  obtain ⟨cs, cl, cy, cg, ce, h1, h2, h3, h4, h5⟩ := h.blk
  exact ⟨⟨cs, cl, cy, cg, M.n * 8, h1, h2, h3, ⟨h4.1, Nat.le_refl _⟩, heap_setCell_same w F.a 6 _ _ _ h5⟩, h.seen.same (other _ (Ne.symm k1)), h.last.same (other _ (Ne.symm k2)), h.way.same (other _ (Ne.symm k3)), h.going.same (other _ (Ne.symm k4)), fun f' hf => (by cases hf), h.apart, h.size, fun _ => rfl⟩
theorem RMem.drewN {w : World} {F : RF} {M : RM} (h : RMem w F M) (n : Nat) : RMem (w.drewN n) F M := h.same fun _ _ => rfl
/-- The words of a line that are alike, one by one. -/
def alikeN (f g : Nat → Int) (a : Nat) : Nat → Bool
  | 0 => true
  | j + 1 => alikeN f g a j && (f (a * 8 + j) == g (a * 8 + j))
theorem alikeN_iff (f g : Nat → Int) (a : Nat) : ∀ j, alikeN f g a j = true ↔ ∀ r, r < j → f (a * 8 + r) = g (a * 8 + r)
  | 0 => ⟨fun _ r hr => by omega, fun _ => rfl⟩
  | j + 1 => by
    unfold alikeN
    rw [Bool.and_eq_true, alikeN_iff f g a j, beq_iff_eq]
    constructor
    · rintro ⟨h1, h2⟩ r hr
      rcases Nat.lt_or_eq_of_le (Nat.le_of_lt_succ hr) with h3 | h3
      · exact h1 r h3
      · rw [h3]; exact h2
    · intro h
      exact ⟨fun r hr => h r (by omega), h j (by omega)⟩
theorem alikeN_same (f g : Nat → Int) (a : Nat) : alikeN f g a 8 = sameW (lineOf f a) (lineOf g a) := by
  rw [Bool.eq_iff_iff, alikeN_iff, sameW_iff]
  rfl
theorem laid_put (f g : Nat → Int) (k : Nat) : laid f g k = putLine f k (lineOf g k) := by
  funext j
  unfold laid putLine lineOf
  by_cases h : k * 8 ≤ j ∧ j < k * 8 + 8
  · have h1 : j / 8 = k := by omega
    have h2 : k * 8 + j % 8 = j := by omega
    simp [h, h1, h2]
  · have h1 : ¬ j / 8 = k := by omega
    simp [h, h1]
def RM.withLast (M : RM) (L : Nat → Int) : RM := { M with last := L }
end Go.Proofs.Ytbflennacniacaa
