/- The document's memory: its counters' bounds; one act on both memories, in plain words. -/
import Derived.Test.YtbflennacniacaaRmCopy
import Derived.Test.YtbflennacniacaaPmCopy
namespace Go.Proofs.Ytbflennacniacaa
open Go.RowKit
set_option linter.unusedVariables false
theorem RM.ok.mono {M : RM} {K L : Nat} (h : M.ok K) (hl : K ≤ L) : M.ok L := ⟨Nat.le_trans h.steps hl, Nat.le_trans h.many hl, h.left⟩
theorem RM.marked_same (M : RM) : M.marked.n = M.n ∧ M.marked.left = M.left ∧ M.marked.steps = M.steps ∧ M.marked.many = M.many := by
  unfold RM.marked; split <;> exact ⟨rfl, rfl, rfl, rfl⟩
theorem RM.ok.marked {M : RM} {K : Nat} (h : M.ok K) : M.marked.ok K := by
  obtain ⟨_, h2, h3, h4⟩ := M.marked_same
  exact ⟨by rw [h3]; exact h.steps, by rw [h4]; exact h.many, by rw [h2]; exact h.left⟩
theorem RM.ok.worked {M : RM} {K : Nat} (h : M.ok K) : M.worked.ok (K + 1) := by
  have hl := h.left
  unfold wf64 at hl
  unfold RM.worked
  split
  · rename_i hc
    refine ⟨Nat.succ_le_succ h.steps, Nat.le_succ_of_le h.many, ?_⟩
    unfold wf64
    show -9223372036854775808 ≤ M.left - 1 ∧ M.left - 1 ≤ 9223372036854775807
    omega
  · exact ⟨Nat.succ_le_succ h.steps, Nat.le_succ_of_le h.many, h.left⟩
theorem RM.ok.fresh (n : Nat) : (RM.fresh n).ok 0 := ⟨Nat.le_refl _, Nat.le_refl _, by unfold wf64 RM.fresh; simp⟩
theorem RM.worked_many (M : RM) : M.worked.many = M.many := by unfold RM.worked; split <;> rfl
theorem RM.ok.store {M : RM} {K : Nat} (h : M.ok K) (p v : Int) : (M.store p v).ok (K + 1) := by
  unfold RM.store
  split
  · have hw := h.worked
    refine RM.ok.marked ⟨hw.steps, ?_, hw.left⟩
    show M.worked.many + 1 ≤ K + 1
    rw [RM.worked_many]
    exact Nat.succ_le_succ h.many
  · exact h.mono (Nat.le_succ _)
theorem RM.ok.flush {M : RM} {K : Nat} (h : M.ok K) (p : Int) : (M.flush p).ok (K + 1) := by
  unfold RM.flush
  split
  · refine RM.ok.marked ?_
    have hw := h.worked
    split
    · exact ⟨hw.steps, hw.many, hw.left⟩
    · exact hw
  · exact h.mono (Nat.le_succ _)
theorem RM.ok.fence {M : RM} {K : Nat} (h : M.ok K) : M.fence.ok (K + 1) := by
  unfold RM.fence
  refine RM.ok.marked ?_
  have hw := h.worked
  split
  · exact ⟨hw.steps, hw.many, hw.left⟩
  · exact hw
theorem RM.ok.crash {M : RM} {K : Nat} (h : M.ok K) (k : Int) : (M.crash k).ok K := ⟨h.steps, h.many, h.left⟩
theorem RM.ok.fused {M : RM} {K : Nat} (h : M.ok K) (s : Int) (hs : wf64 s) : (M.fused s).ok K := by
  unfold RM.fused
  split
  · exact h
  · split
    · exact h
    · exact RM.ok.marked ⟨h.steps, h.many, hs⟩
/-- One act. -/
def PM.act (M : PM) (k p v : Int) : PM := if k < 4 then M.store p (IntKind.u64.wrap v) else if k < 6 then M.flush p else if k = 6 then M.fence else if k = 7 then M.fused v else if k = 8 then M.crash v else M
def RM.act (M : RM) (k p v : Int) : RM := if k < 4 then M.store p (IntKind.u64.wrap v) else if k < 6 then M.flush p else if k = 6 then M.fence else if k = 7 then M.fused v else if k = 8 then M.crash v else M
theorem Rel.act {M : PM} {R : RM} (h : Rel M R) (k p v : Int) : Rel (M.act k p v) (R.act k p v) := by
  unfold PM.act RM.act
  split
  · exact h.store _ _
  · split
    · exact h.flush _
    · split
      · exact h.fence
      · split
        · exact h.fused _
        · split
          · exact h.crash _
          · exact h
theorem PM.ok.act {M : PM} {K : Nat} (h : M.ok K) (k p v : Int) (hv : wf64 v) : (M.act k p v).ok (K + 1) := by
  unfold PM.act
  split
  · exact h.store _ _
  · split
    · exact h.flush _
    · split
      · exact h.fence
      · split
        · exact (h.fused _ hv).mono (Nat.le_succ _)
        · split
          · exact (h.crash _).mono (Nat.le_succ _)
          · exact h.mono (Nat.le_succ _)
theorem RM.ok.act {M : RM} {K : Nat} (h : M.ok K) (k p v : Int) (hv : wf64 v) : (M.act k p v).ok (K + 1) := by
  unfold RM.act
  split
  · exact h.store _ _
  · split
    · exact h.flush _
    · split
      · exact h.fence
      · split
        · exact (h.fused _ hv).mono (Nat.le_succ _)
        · split
          · exact (h.crash _).mono (Nat.le_succ _)
          · exact h.mono (Nat.le_succ _)
theorem PM.act_n (M : PM) (k p v : Int) : (M.act k p v).n = M.n := by
  unfold PM.act
  split
  · exact M.store_n _ _
  · split
    · exact M.flush_n _
    · split
      · exact M.fence_n
      · split
        · exact M.fused_n _
        · split
          · exact M.crash_n _
          · rfl
/-- What an operation on both does. -/
structure Two (F : PF) (G : RF) (F' : PF) (G' : RF) (w w' : World) : Prop where
  fa : F'.a = F.a
  ga : G'.a = G.a
  newF : ∀ i, F'.has i → F.has i ∨ w.heap.size ≤ i
  newG : ∀ i, G'.has i → G.has i ∨ w.heap.size ≤ i
  apart : ∀ i, F'.has i → ¬ G'.has i
  only : Only (fun i => F.has i ∨ G.has i) w w'
theorem two_of {F F' : PF} {G G' : RF} {w w1 w2 w3 w4 : World} (hin : ∀ i, F.has i → i < w.heap.size) (hig : ∀ i, G.has i → i < w.heap.size) (hap : ∀ i, F.has i → ¬ G.has i) (hb : Below w.heap.size w w1) (h1 : Op F F' w1 w2) (h2 : Below w2.heap.size w2 w3) (h3 : OpR G G' w3 w4)
    (hin2 : ∀ i, F'.has i → i < w2.heap.size) : Two F G F' G' w w4 where
  fa := h1.1
  ga := h3.1
  newF := fun i hi => (h1.2.1 i hi).imp id fun h => Nat.le_trans hb.size h
  newG := fun i hi => (h3.2.1 i hi).imp id fun h => Nat.le_trans hb.size (Nat.le_trans h1.2.2.size (Nat.le_trans h2.size h))
  apart := fun i hi hg => by
    have hi2 := hin2 i hi
    rcases h3.2.1 i hg with h | h
    · rcases h1.2.1 i hi with h4 | h4
      · exact hap i h4 h
      · have := hig i h; have := hb.size; omega
    · have := h2.size; omega
  only := by
    have a1 := Below.only hb (fun i => F.has i ∨ G.has i)
    have a2 : Only (fun i => F.has i ∨ G.has i) w1 w2 := h1.2.2.mono fun k _ h => .inl h
    have a3 := Below.only h2 (fun i => F.has i ∨ G.has i)
    have a4 : Only (fun i => F.has i ∨ G.has i) w3 w4 := h3.2.2.mono fun k _ h => .inr h
    exact ((a1.trans a2).trans a3).trans a4
theorem Op.in_heap {F' : PF} {M : PM} {w : World} (h : Mem w F' M) : ∀ i, F'.has i → i < w.heap.size := h.in_heap
/-- The document's memory stays under an operation on the other. -/
theorem RMem.aside {F F' : PF} {G : RF} {R : RM} {w w' : World} (h : RMem w G R) (ho : Op F F' w w') (hap : ∀ i, F.has i → ¬ G.has i) : RMem w' G R :=
  h.same fun k hk => ho.2.2.block k (h.in_heap k hk) fun hf => hap k hf hk
theorem Mem.aside {F : PF} {G G' : RF} {M : PM} {w w' : World} (h : Mem w F M) (ho : OpR G G' w w') (hap : ∀ i, F.has i → ¬ G.has i) : Mem w' F M :=
  h.same fun k hk => ho.2.2.block k (h.in_heap k hk) fun hf => hap k hk hf
end Go.Proofs.Ytbflennacniacaa
