/- pmem.Mem.Fence, by its contract. -/
import Derived.Test.YtbflennacniacaaPmLast
namespace Go.Proofs.Ytbflennacniacaa
open Go.RowKit
set_option linter.unusedVariables false
def PM.fence (M : PM) : PM := (if M.fin.isNone then M.stepped.lasted else M.stepped).ticked
set_option maxHeartbeats 1000000 in
theorem fence1_any (F : PF) (M : PM) (b1 : Nat) (w : World) (h : Mem w F M) (hct : M.cnt ≤ 1099511627776)
    (c1 : w.cell? ⟨b1, 0, .none⟩ = some (.pointer (some ⟨F.a, 0, .none⟩))) :
    Calls Try.prog 44 #[.bool true, .pointer (some ⟨b1, 0, .none⟩)] w fun e w' => e = .returned (.tuple #[]) ∧ Mem w' F M.lasted ∧ Only F.has w w' := by
  have HM := Lib.hid h
  clear h
  go_enter Try.func44, Try.ntmps44
  go_wp2_with fail
  refine (last_any F M _ HM.out hct).mono ?_
  rintro e w1 ⟨rfl, hm, ho⟩
  have HM1 := Lib.hid hm
  have HO1 := Lib.hid ho
  clear hm ho
  go_wp2_with fail
  go_end0
  exact ⟨rfl, HM1.out, HO1.out⟩
theorem fence1_none (b1 : Nat) (w : World) :
    Calls Try.prog 44 #[.bool false, .pointer (some ⟨b1, 0, .none⟩)] w fun e w' => e = .returned (.tuple #[]) ∧ w = w' := by
  go_enter Try.func44, Try.ntmps44
  go_wp2_with fail
  go_end0
  exact ⟨rfl, rfl⟩
set_option maxHeartbeats 1000000 in
theorem fence_any (F : PF) (M : PM) (w : World) (h : Mem w F M) (hst : M.steps ≤ 1099511627776) (hct : M.cnt ≤ 1099511627776) (hfu : wf64 M.fuse) :
    Calls Try.prog 19 #[.pointer (some ⟨F.a, 0, .none⟩)] w fun e w' => e = .returned (.int .i64 0) ∧ ∃ F', Mem w' F' M.fence ∧ Op F F' w w' := by
  have hin := h.in_heap
  obtain ⟨w0, hw0⟩ : ∃ w0, w.alloc (.cells #[.pointer (some ⟨F.a, 0, .none⟩)] 24) = w0 := ⟨_, rfl⟩
  have hal : Below w.heap.size w w0 := by
    rw [← hw0]
    exact (Below.refl _ _).alloc (Nat.le_refl _) _
  have c1 : w0.cell? ⟨w.heap.size, 0, .none⟩ = some (.pointer (some ⟨F.a, 0, .none⟩)) := by
    rw [← hw0]
    exact box_new w _ _ _ rfl
  have hm0 : Mem w0 F M := h.below hal
  have HM := Lib.hid hm0
  have HAL := Lib.hid hal
  have nin : ∀ k, w.heap.size ≤ k → ¬ F.has k := fun k hk hf => by have := hin k hf; omega
  have NIN := Lib.hid nin
  have HFU := Lib.hid hfu
  clear h hal hm0 hin nin hfu
  go_enter Try.func19, Try.ntmps19
  go_wp2_with fail
  refine (step_any F M (if M.fin.isNone then M.stepped.lasted else M.stepped) 44 #[.pointer (some ⟨w.heap.size, 0, .none⟩)] _ HM.out hst HFU.out (by split <;> exact ⟨rfl, rfl⟩) (fun b u => rfl) ?_).mono ?_
  · intro w1 hm1 ho1
    by_cases hf : M.fin.isNone = true
    · rw [if_pos hf, hf]
      exact (fence1_any F M.stepped w.heap.size w1 hm1 hct (ho1.cell c1 (NIN.out _ (Nat.le_refl _)))).mono fun e w2 h => h
    · have hf2 : M.fin.isNone = false := by rw [Bool.eq_false_iff]; exact hf
      rw [if_neg hf, hf2]
      exact (fence1_none w.heap.size w1).mono fun e w2 ⟨he, hw⟩ => ⟨he, by rw [← hw]; exact hm1, by rw [← hw]; exact Only.refl _ _⟩
  · rintro e w2 ⟨rfl, F', hm2, hop⟩
    have HM2 := Lib.hid hm2
    have HOP := Lib.hid hop
    clear hm2 hop
    go_wp2_with fail
    go_ret
    refine ⟨rfl, F', HM2.out, HOP.out.1, fun k hk => (HOP.out.2.1 k hk).imp id fun h => Nat.le_trans HAL.out.size h, ?_⟩
    exact (Below.only HAL.out F.has).trans HOP.out.2.2
end Go.Proofs.Ytbflennacniacaa
