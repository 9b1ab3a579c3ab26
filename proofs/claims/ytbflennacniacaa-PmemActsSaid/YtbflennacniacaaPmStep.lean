/- pmem.Mem.step, by its contract: over whatever it does. -/
import Derived.Test.YtbflennacniacaaPmClone
namespace Go.Proofs.Ytbflennacniacaa
open Go.RowKit
set_option linter.unusedVariables false
def PM.stepped (M : PM) : PM := { M with steps := M.steps + 1 }
def PM.ticked (M : PM) : PM := if M.fin.isNone = true ∧ 0 < M.fuse then ({ M with fuse := M.fuse - 1 } : PM).marked else M
def wf64 (x : Int) : Prop := -9223372036854775808 ≤ x ∧ x ≤ 9223372036854775807
set_option maxRecDepth 100000 in
set_option maxHeartbeats 1000000 in
theorem step_any (F : PF) (M T : PM) (k : Nat) (caps : Array Value) (w : World) (h : Mem w F M) (hst : M.steps ≤ 1099511627776) (hfu : wf64 M.fuse) (hT : T.fin = M.fin ∧ T.fuse = M.fuse)
    (hent : ∀ (b : Bool) (u : World), (callFunc k (#[.bool b] ++ caps)).run Try.prog u = .ok (.enter k (#[.bool b] ++ caps)) u)
    (hdo : ∀ w1, Mem w1 F M.stepped → Only F.has w w1 → Calls Try.prog k (#[.bool M.fin.isNone] ++ caps) w1 fun e w2 => e = .returned (.tuple #[]) ∧ Mem w2 F T ∧ Only F.has w1 w2) :
    Calls Try.prog 41 #[.pointer (some ⟨F.a, 0, .none⟩), .func (Fn.func k) #[] caps] w fun e w' => e = .returned (.tuple #[]) ∧ ∃ F', Mem w' F' T.ticked ∧ Op F F' w w' := by
  obtain ⟨cs, cl, ce, hcs, hcl, c0, _, _, c3, c4, c5, _, hfz⟩ := h.cells
  have f5 := hfz 5
  have hm1 := h.setSteps
  have ho1 : Only F.has w (w.setCell ⟨F.a, 5, .none⟩ (.int .i64 ((M.steps : Int) + 1))) := (Only.refl _ _).setCell (.inl (.inl rfl)) _
  obtain ⟨w1, hw1⟩ : ∃ w1, w.setCell ⟨F.a, 5, .none⟩ (.int .i64 ((M.steps : Int) + 1)) = w1 := ⟨_, rfl⟩
  rw [hw1] at hm1 ho1
  obtain ⟨cs1, cl1, ce1, _, _, _, _, _, _, d4, _, _, _⟩ := hm1.cells
  have d42 : w1.cell? ⟨F.a, 4, .none⟩ = some (endV M.fin F.e M.n ce1) := d4
  have hcall := hdo w1 hm1 ho1
  have HM1 := Lib.hid hm1
  have HO1 := Lib.hid ho1
  have HC := Lib.hid hcall
  have HT := Lib.hid hT
  have heq := eql_slice_nil (P := Try.prog) 72 78 Try.underlying72
  clear h hfz c0 c3 c4 hdo hm1 ho1 hcall d4 hT
  obtain ⟨fi, hfi⟩ : ∃ x, M.fin = x := ⟨_, rfl⟩
  obtain ⟨fu, hfuse⟩ : ∃ x, M.fuse = x := ⟨_, rfl⟩
  rw [hfi] at d42
  rw [hfuse] at hfu
  have HFI := Lib.hid hfi
  have HFU := Lib.hid hfuse
  clear hfi hfuse
  go_enter Try.func41, Try.ntmps41
  have HC2 := HC.out
  rw [HFI.out] at HC2
  have HC3 := Lib.hid HC2
  clear HC HC2
  cases fi with
  | none =>
    unfold endV at d42
    go_wp2_with fail
    refine HC3.out.mono ?_
    rintro e w2 ⟨rfl, hm2, ho2⟩
    obtain ⟨cs2, cl2, ce2, _, _, _, _, _, e3, _, _, _, hfz2⟩ := hm2.cells
    have g3 := hfz2 3
    rw [HT.out.2, HFU.out] at e3
    have HM2 := Lib.hid hm2
    have HO2 := Lib.hid ho2
    clear hm2 ho2 hfz2
    by_cases hf0 : 0 < fu
    · have q1 : decide (0 < fu) = true := by simpa using hf0
      have hlo : -9223372036854775808 ≤ fu - 1 ∧ fu - 1 ≤ 9223372036854775807 := by unfold wf64 at hfu; omega
      have hm3 := HM2.out.setFuse (fu - 1)
      have ho3 : Only F.has w2 (w2.setCell ⟨F.a, 3, .none⟩ (.int .i64 (fu - 1))) := (Only.refl _ _).setCell (.inl (.inl rfl)) _
      obtain ⟨w3, hw3⟩ : ∃ w3, w2.setCell ⟨F.a, 3, .none⟩ (.int .i64 (fu - 1)) = w3 := ⟨_, rfl⟩
      rw [hw3] at hm3 ho3
      have HM3 := Lib.hid hm3
      have HO3 := Lib.hid ho3
      clear hm3 ho3 hfu
      go_wp2_with fail
      refine (mark_any F _ w3 HM3.out).mono ?_
      rintro e w4 ⟨rfl, F', hm4, hop4⟩
      have hT4 : T.ticked = ({ T with fuse := fu - 1 } : PM).marked := by
        unfold PM.ticked
        rw [HT.out.1, HT.out.2, HFI.out, HFU.out, if_pos ⟨rfl, hf0⟩]
      have HM4 := Lib.hid hm4
      have HOP4 := Lib.hid hop4
      clear hm4 hop4
      go_wp2_with fail
      go_end0
      exact ⟨rfl, F', by rw [hT4]; exact HM4.out, (Op.of_only ((HO1.out.trans HO2.out).trans HO3.out)).trans HOP4.out⟩
    · have q1 : decide (0 < fu) = false := by simpa using hf0
      have hT4 : T.ticked = T := by
        unfold PM.ticked
        rw [HT.out.1, HT.out.2, HFI.out, HFU.out, if_neg (fun h => hf0 h.2)]
      clear hfu
      go_wp2_with fail
      go_end0
      exact ⟨rfl, F, by rw [hT4]; exact HM2.out, Op.of_only (HO1.out.trans HO2.out)⟩
  | some g =>
    unfold endV at d42
    go_wp2_with fail
    refine HC3.out.mono ?_
    rintro e w2 ⟨rfl, hm2, ho2⟩
    have HM2 := Lib.hid hm2
    have HO2 := Lib.hid ho2
    clear hm2 ho2 hfu
    have hT4 : T.ticked = T := by
      unfold PM.ticked
      rw [HT.out.1, HFI.out, if_neg (fun h => by have := h.1; simp at this)]
    go_wp2_with fail
    go_end0
    exact ⟨rfl, F, by rw [hT4]; exact HM2.out, Op.of_only (HO1.out.trans HO2.out)⟩
end Go.Proofs.Ytbflennacniacaa
