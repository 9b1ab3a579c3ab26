/- concourseref1.Mem: Fuse, by its contract. -/
import Derived.Test.YtbflennacniacaaRmStore
namespace Go.Proofs.Ytbflennacniacaa
open Go.RowKit
set_option linter.unusedVariables false
def RM.fused (M : RM) (s : Int) : RM := if s < 0 then M else match M.fin with | some _ => M | none => RM.marked { M with fuse := true, left := s }
set_option maxHeartbeats 1000000 in
set_option maxRecDepth 100000 in
theorem rfuse_any (F : RF) (M : RM) (s r : Int) (w : World) (h : RMem w F M) (hr : fuseE s = r) :
    Calls Try.prog 53 #[.pointer (some ⟨F.a, 0, .none⟩), .int .i64 s] w fun e w' => e = .returned (.int .i64 r) ∧ ∃ F', RMem w' F' (M.fused s) ∧ OpR F F' w w' := by
  obtain ⟨cs, cl, cy, cg, ce, _, _, _, _, _, _, _, _, c4, c5, c6, _, _, hfz⟩ := h.cells
  have f4 := hfz 4
  have h1 := h.setFuse true
  obtain ⟨_, _, _, _, _, _, _, _, _, _, _, _, _, _, d5, _, _, _, hfz1⟩ := h1.cells
  have g5 := hfz1 5
  have h2 := h1.setLeft s
  have ho := ((Only.refl F.has w).setCell (p := ⟨F.a, 4, .none⟩) (.inl (.inl rfl)) (.bool true)).setCell (p := ⟨F.a, 5, .none⟩) (.inl (.inl rfl)) (.int .i64 s)
  have HM := Lib.hid h
  have H2 := Lib.hid h2
  have HO := Lib.hid ho
  have hsame : OpR F F w w := OpR.of_only (Only.refl _ _)
  have HS := Lib.hid hsame
  have heq := eql_slice_nil (P := Try.prog) 49 29 Try.underlying49
  unfold fuseE at hr
  clear hfz hfz1 h h1 h2 ho hsame
  change World.cell? _ _ = some (.int .i64 M.left) at d5
  by_cases h0 : s < 0
  · rw [if_pos h0] at hr
    subst hr
    have e1 : M.fused s = M := by unfold RM.fused; rw [if_pos h0]
    rw [e1]
    have q1 : decide (s < 0) = true := by simpa using h0
    clear e1 h0
    go_enter Try.func53, Try.ntmps53
    go_wp2_with fail
    go_ret
    exact ⟨rfl, F, HM.out, HS.out⟩
  · rw [if_neg h0] at hr
    subst hr
    have q1 : decide (s < 0) = false := by simpa using h0
    cases hfin : M.fin with
    | some g =>
      have e1 : M.fused s = M := by unfold RM.fused; rw [if_neg h0, hfin]
      rw [e1]
      rw [hfin] at c6
      unfold endV at c6
      clear e1 h0 hfin
      go_enter Try.func53, Try.ntmps53
      go_wp2_with fail
      go_ret
      exact ⟨rfl, F, HM.out, HS.out⟩
    | none =>
      have e1 : M.fused s = RM.marked { M with fuse := true, left := s } := by unfold RM.fused; rw [if_neg h0, hfin]
      rw [e1]
      rw [hfin] at c6
      unfold endV at c6
      clear e1 h0 hfin
      go_enter Try.func53, Try.ntmps53
      go_wp2_with fail
      refine (rmark_any F _ _ H2.out).mono ?_
      rintro e w2 ⟨rfl, F', hm4, hop⟩
      have HM4 := Lib.hid hm4
      have HOP := Lib.hid ((OpR.of_only HO.out).trans hop)
      clear hm4 hop
      go_wp2_with fail
      go_ret
      exact ⟨rfl, F', HM4.out, HOP.out⟩
end Go.Proofs.Ytbflennacniacaa
