/- pmem.Mem.Flush, by its contract. -/
import Derived.Test.YtbflennacniacaaPmFlush1
import Derived.Deep.QuietTactic
import Derived.BigQuiet
namespace Go.Proofs.Ytbflennacniacaa
open Go.RowKit
set_option linter.unusedVariables false
def lineE (n : Nat) (q : Int) : Int := if q < 0 ∨ (n : Int) ≤ q then 101 else 0
def PM.flush (M : PM) (q : Int) : PM := if lineE M.n q = 0 then (if M.fin.isNone then M.stepped.flushed q.toNat else M.stepped).ticked else M
set_option maxRecDepth 100000 in
set_option maxHeartbeats 1000000 in
theorem flush_any (F : PF) (M : PM) (p : Int) (w : World) (h : Mem w F M) (hst : M.steps ≤ 1099511627776) (hct : M.cnt ≤ 1099511627776) (hfu : wf64 M.fuse) :
    Calls Try.prog 18 #[.pointer (some ⟨F.a, 0, .none⟩), .int .i64 p] w fun e w' => e = .returned (.int .i64 (lineE M.n p)) ∧ ∃ F', Mem w' F' (M.flush p) ∧ Op F F' w w' := by
  have hin := h.in_heap
  obtain ⟨w0, hw0⟩ : ∃ w0, (w.alloc (.cells #[.pointer (some ⟨F.a, 0, .none⟩)] 24)).alloc (.cells #[.int .i64 p] 3) = w0 := ⟨_, rfl⟩
  have hal : Below w.heap.size w w0 := by
    rw [← hw0]
    exact ((Below.refl _ _).alloc (Nat.le_refl _) _).alloc (by simp) _
  have c1 : w0.cell? ⟨w.heap.size, 0, .none⟩ = some (.pointer (some ⟨F.a, 0, .none⟩)) := by
    rw [← hw0]
    exact box_old (box_new w _ _ _ rfl) _
  have c2 : w0.cell? ⟨w.heap.size + 1, 0, .none⟩ = some (.int .i64 p) := by
    rw [← hw0]
    exact box_new _ _ _ _ (by simp)
  have hm0 : Mem w0 F M := h.below hal
  obtain ⟨cs, cl, ce, hcs, hcl, e0, _⟩ := hm0.cells
  have hsz := h.size
  have HM := Lib.hid hm0
  have HAL := Lib.hid hal
  obtain ⟨S, hS⟩ : ∃ S, lineE M.n p = S := ⟨_, rfl⟩
  rw [hS]
  have HS := Lib.hid hS
  have nin : ∀ k, w.heap.size ≤ k → ¬ F.has k := fun k hk hf => by have := hin k hf; omega
  have NIN := Lib.hid nin
  have HFU := Lib.hid hfu
  unfold lineE at hS
  clear h hal hm0 hin nin hfu
  by_cases hp : p < 0
  · rw [if_pos (Or.inl hp)] at hS
    subst hS
    have q1 : decide (p < 0) = true := by simpa using hp
    have hM' : M.flush p = M := by
      unfold PM.flush
      rw [if_neg (by rw [HS.out]; omega)]
    rw [hM']
    go_enter Try.func18, Try.ntmps18
    go_wp2_with fail
    go_quiet (fail)
    go_wp2_with fail
    go_ret
    exact ⟨rfl, F, HM.out.drewN _, Op.of_only ((Below.only HAL.out F.has).drewN _)⟩
  · have q1 : decide (p < 0) = false := by simpa using hp
    by_cases hp2 : (M.n : Int) ≤ p
    · rw [if_pos (Or.inr hp2)] at hS
      subst hS
      have q2 : decide ((M.n : Int) ≤ p) = true := by simpa using hp2
      have hM' : M.flush p = M := by
        unfold PM.flush
        rw [if_neg (by rw [HS.out]; omega)]
      rw [hM']
      go_enter Try.func18, Try.ntmps18
      go_wp2_with fail
      go_quiet (fail)
      go_wp2_with fail
      go_ret
      exact ⟨rfl, F, HM.out.drewN _, Op.of_only ((Below.only HAL.out F.has).drewN _)⟩
    · rw [if_neg (by omega)] at hS
      subst hS
      obtain ⟨q, rfl⟩ : ∃ q : Nat, p = (q : Int) := ⟨p.toNat, by omega⟩
      have hqn : q < M.n := by omega
      have q2 : decide ((M.n : Int) ≤ (q : Int)) = false := by simpa using hp2
      have hM' : M.flush (q : Int) = (if M.fin.isNone then M.stepped.flushed q else M.stepped).ticked := by
        unfold PM.flush
        rw [if_pos HS.out, Int.toNat_natCast]
      have HM' := Lib.hid hM'
      clear hM'
      go_enter Try.func18, Try.ntmps18
      go_wp2_with fail
      go_quiet (fail)
      go_wp2_with fail
      refine (step_any F M (if M.fin.isNone then M.stepped.flushed q else M.stepped) 43 #[.pointer (some ⟨w.heap.size, 0, .none⟩), .pointer (some ⟨w.heap.size + 1, 0, .none⟩)] _ (HM.out.drewN _) hst HFU.out (by split <;> exact ⟨rfl, rfl⟩) (fun b u => rfl) ?_).mono ?_
      · intro w1 hm1 ho1
        by_cases hf : M.fin.isNone = true
        · rw [if_pos hf, hf]
          exact (flush1_any F M.stepped q w.heap.size (w.heap.size + 1) w1 hm1 hqn hct (ho1.cell c1 (NIN.out _ (Nat.le_refl _))) (ho1.cell c2 (NIN.out _ (by show w.heap.size ≤ w.heap.size + 1; omega)))).mono fun e w2 h => h
        · have hf2 : M.fin.isNone = false := by rw [Bool.eq_false_iff]; exact hf
          rw [if_neg hf, hf2]
          exact (flush1_none w.heap.size (w.heap.size + 1) w1).mono fun e w2 ⟨he, hw⟩ => ⟨he, by rw [← hw]; exact hm1, by rw [← hw]; exact Only.refl _ _⟩
      · rintro e w2 ⟨rfl, F', hm2, hop⟩
        have HM2 := Lib.hid hm2
        have HOP := Lib.hid hop
        clear hm2 hop
        go_wp2_with fail
        go_ret
        refine ⟨rfl, F', by rw [HM'.out]; exact HM2.out, HOP.out.1, fun k hk => (HOP.out.2.1 k hk).imp id fun h => Nat.le_trans HAL.out.size h, ?_⟩
        exact ((Below.only HAL.out F.has).drewN _).trans HOP.out.2.2
end Go.Proofs.Ytbflennacniacaa
