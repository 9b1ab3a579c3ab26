/- pmem.Mem.Fuse, Steps, Stores, kept, each by its contract. -/
import Derived.Test.YtbflennacniacaaPmFence
namespace Go.Proofs.Ytbflennacniacaa
open Go.RowKit
set_option linter.unusedVariables false
def PM.fused (M : PM) (s : Int) : PM := if s < 0 then M else if M.fin.isNone then ({ M with fuse := s } : PM).marked else M
def fuseE (s : Int) : Int := if s < 0 then 102 else 0
set_option maxHeartbeats 1000000 in
theorem fuse_any (F : PF) (M : PM) (s : Int) (w : World) (h : Mem w F M) :
    Calls Try.prog 25 #[.pointer (some ⟨F.a, 0, .none⟩), .int .i64 s] w fun e w' => e = .returned (.int .i64 (fuseE s)) ∧ ∃ F', Mem w' F' (M.fused s) ∧ Op F F' w w' := by
  obtain ⟨cs, cl, ce, hcs, hcl, _, _, _, c3, c4, _, _, hfz⟩ := h.cells
  have f3 := hfz 3
  have HM := Lib.hid h
  have hneq := neq_slice_nil (P := Try.prog) 72 78 Try.underlying72
  obtain ⟨fi, hfi⟩ : ∃ x, M.fin = x := ⟨_, rfl⟩
  rw [hfi] at c4
  have HFI := Lib.hid hfi
  have hm1 := h.setFuse s
  have ho1 : Only F.has w (w.setCell ⟨F.a, 3, .none⟩ (.int .i64 s)) := (Only.refl _ _).setCell (.inl (.inl rfl)) _
  obtain ⟨w1, hw1⟩ : ∃ w1, w.setCell ⟨F.a, 3, .none⟩ (.int .i64 s) = w1 := ⟨_, rfl⟩
  rw [hw1] at hm1 ho1
  have HM1 := Lib.hid hm1
  have HO1 := Lib.hid ho1
  clear h hfz hfi hm1 ho1
  obtain ⟨E, hE⟩ : ∃ x, fuseE s = x := ⟨_, rfl⟩
  rw [hE]
  unfold fuseE at hE
  by_cases hs : s < 0
  · rw [if_pos hs] at hE
    subst hE
    have hM' : M.fused s = M := by unfold PM.fused; rw [if_pos hs]
    rw [hM']
    have q1 : decide (s < 0) = true := by simpa using hs
    go_enter Try.func25, Try.ntmps25
    go_wp2_with fail
    go_ret
    exact ⟨rfl, F, HM.out, Op.of_only (Only.refl _ _)⟩
  · rw [if_neg hs] at hE
    subst hE
    have q1 : decide (s < 0) = false := by simpa using hs
    cases fi with
    | none =>
      have hM' : M.fused s = ({ M with fuse := s } : PM).marked := by unfold PM.fused; rw [if_neg hs, HFI.out]; rfl
      have HM' := Lib.hid hM'
      clear hM'
      unfold endV at c4
      go_enter Try.func25, Try.ntmps25
      go_wp2_with fail
      refine (mark_any F _ w1 HM1.out).mono ?_
      rintro e w4 ⟨rfl, F', hm4, hop4⟩
      have HM4 := Lib.hid hm4
      have HOP4 := Lib.hid hop4
      clear hm4 hop4
      go_wp2_with fail
      go_ret
      exact ⟨rfl, F', by rw [HM'.out]; exact HM4.out, (Op.of_only HO1.out).trans HOP4.out⟩
    | some g =>
      have hM' : M.fused s = M := by unfold PM.fused; rw [if_neg hs, HFI.out]; rfl
      rw [hM']
      unfold endV at c4
      go_enter Try.func25, Try.ntmps25
      go_wp2_with fail
      go_ret
      exact ⟨rfl, F, HM.out, Op.of_only (Only.refl _ _)⟩
theorem steps_any (F : PF) (M : PM) (w : World) (h : Mem w F M) :
    Calls Try.prog 26 #[.pointer (some ⟨F.a, 0, .none⟩)] w fun e w' => e = .returned (.int .i64 (M.steps : Nat)) ∧ w = w' := by
  obtain ⟨cs, cl, ce, hcs, hcl, _, _, _, _, _, c5, _, _⟩ := h.cells
  clear h
  go_enter Try.func26, Try.ntmps26
  go_wp2_with fail
  go_ret
  exact ⟨rfl, rfl⟩
theorem stores_any (F : PF) (M : PM) (w : World) (h : Mem w F M) :
    Calls Try.prog 24 #[.pointer (some ⟨F.a, 0, .none⟩)] w fun e w' => e = .returned (.int .i64 (M.stores : Nat)) ∧ w = w' := by
  obtain ⟨cs, cl, ce, hcs, hcl, _, _, _, _, _, _, c6, _⟩ := h.cells
  clear h
  go_enter Try.func24, Try.ntmps24
  go_wp2_with fail
  go_ret
  exact ⟨rfl, rfl⟩
/-- The code's 'kept': whether the i-th line is kept. -/
def keptB (keep : Int) (i : Nat) : Bool := if keep < 0 then false else bits .and .i64 (keep / 2 ^ (i % 60)) 1 == 1
set_option maxHeartbeats 1000000 in
theorem kept_any (keep : Int) (i : Nat) (w : World) (hi : i ≤ 1099511627776) :
    Calls Try.prog 46 #[.int .i64 keep, .int .i64 i] w fun e w' => e = .returned (.bool (keptB keep i)) ∧ w = w' := by
  have e2 : (i : Int).tmod 60 = ((i % 60 : Nat) : Int) := rfl
  go_enter Try.func46, Try.ntmps46
  go_wp2_with fail
  · have h0 : ¬ keep < 0 := by omega
    go_ret
    exact ⟨by unfold keptB; rw [if_neg h0]; rfl, rfl⟩
  · have h0 : keep < 0 := by assumption
    go_ret
    exact ⟨by unfold keptB; rw [if_pos h0]; rfl, rfl⟩
end Go.Proofs.Ytbflennacniacaa
