/- concourseref1.Mem: mark, Store, each by its contract. -/
import Derived.Test.YtbflennacniacaaRmWorks
namespace Go.Proofs.Ytbflennacniacaa
open Go.RowKit
set_option linter.unusedVariables false
set_option maxHeartbeats 1000000 in
set_option maxRecDepth 100000 in
theorem rmark_any (F : RF) (M : RM) (w : World) (h : RMem w F M) :
    Calls Try.prog 61 #[.pointer (some ⟨F.a, 0, .none⟩)] w fun e w' => e = .returned (.tuple #[]) ∧ ∃ F', RMem w' F' M.marked ∧ OpR F F' w w' := by
  obtain ⟨cs, cl, cy, cg, ce, _, _, _, _, c0, _, _, _, c4, c5, c6, _, _, hfz⟩ := h.cells
  have f6 := hfz 6
  have hsz := h.size
  have hrow := h.seen
  have hin := h.in_heap
  have HR := Lib.hid hrow
  have HM := Lib.hid h
  have heq := eql_slice_nil (P := Try.prog) 49 29 Try.underlying49
  obtain ⟨i0, hi, hz0, hz1, hz2⟩ := info_parts infoWord
  obtain ⟨N, hN⟩ : ∃ N : Nat, M.n * 8 = N := ⟨_, rfl⟩
  have hsame : OpR F F w w := OpR.of_only (Only.refl _ _)
  have HS := Lib.hid hsame
  by_cases hf : M.fuse = true
  · by_cases h0 : M.left = 0
    · cases hfin : M.fin with
      | some g =>
        have hmk : M.marked = M := by unfold RM.marked; rw [if_neg (fun h => by rw [hfin] at h; exact absurd h.2.2 (by simp))]
        rw [hmk]
        rw [hf] at c4
        rw [h0] at c5
        rw [hfin] at c6
        unfold endV at c6
        clear hfz h hrow hsame hmk
        go_enter Try.func61, Try.ntmps61
        go_wp2_with fail
        go_end0
        exact ⟨rfl, F, HM.out, HS.out⟩
      | none =>
        have hmk : M.marked = { M with fin := some M.seen } := by unfold RM.marked; rw [if_pos ⟨hf, h0, hfin⟩]
        rw [hmk]
        rw [hf] at c4
        rw [h0] at c5
        rw [hfin] at c6
        unfold endV at c6
        rw [hN] at c0
        have hN1 : 1 ≤ N ∧ N ≤ 65536 := by omega
        have hal : Below w.heap.size w (w.alloc (.cells #[] 29)) := (Below.refl _ _).alloc (Nat.le_refl _) _
        have c0a := (Below.only hal (fun _ => False)).cell c0 (fun h => h)
        have HN := Lib.hid hN
        have HIN := Lib.hid hin
        clear hfz h hrow hsame hmk hin hN hal
        go_enter Try.func61, Try.ntmps61
        go_wp2_with (at_builtin; refine wpList_copied w rfl _ _ 49 rfl 29 i0 (.int .u64 0) 8 Try.underlying49 hi hz0 hz1 hz2 rfl (by decide) F.s N cs (wordV M.seen) (by rw [← HN.out]; exact HR.out) hN1.1 hN1.2 (fun _ => rfl) rfl rfl ?_)
        intro g cap w1 hg hcap HG HB
        have hin := HIN.out
        have hm1 : RMem w1 F M := HM.out.below HB.out
        have ge : ∀ k, F.has k → k ≠ g := fun k hk e => by have := hin k hk; omega
        have hm2 := hm1.setEnd g cap M.seen (by rw [HN.out]; exact hcap) ⟨ge _ (.inl rfl), (ge _ (.inr (.inl rfl))).symm, (ge _ (.inr (.inr (.inl rfl)))).symm, (ge _ (.inr (.inr (.inr (.inl rfl))))).symm⟩ (by rw [HN.out]; exact HG.out)
        rw [HN.out] at hm2
        have hop : OpR F { F with e := g } w (w1.setCell ⟨F.a, 6, .none⟩ (.slice (some ⟨g, 0, .none⟩) N cap)) := by
          refine ⟨rfl, fun k hk => ?_, (Below.only HB.out F.has).setCell (.inl (.inl rfl)) _⟩
          rcases hk with h | h | h | h | h | h
          · exact .inl (.inl h)
          · exact .inl (.inr (.inl h))
          · exact .inl (.inr (.inr (.inl h)))
          · exact .inl (.inr (.inr (.inr (.inl h))))
          · exact .inl (.inr (.inr (.inr (.inr (.inl h)))))
          · exact .inr (by rw [h]; exact hg)
        obtain ⟨_, _, _, _, ce1, _, _, _, _, _, _, _, _, _, _, d6, _, _, hfz1⟩ := hm1.cells
        have g6 := hfz1 6
        have HM2 := Lib.hid hm2
        have HOP := Lib.hid hop
        clear hm1 ge hm2 hop hfz1 hin
        go_wp2_with fail
        go_end0
        exact ⟨rfl, _, HM2.out, HOP.out⟩
    · have hmk : M.marked = M := by unfold RM.marked; rw [if_neg (fun h => h0 h.2.1)]
      rw [hmk]
      rw [hf] at c4
      obtain ⟨lf, hlf⟩ : ∃ x, M.left = x := ⟨_, rfl⟩
      rw [hlf] at c5 h0
      have q0 : (lf == 0) = false := by rw [beq_eq_false_iff_ne]; exact h0
      clear hfz h hrow hsame hmk hlf
      go_enter Try.func61, Try.ntmps61
      go_wp2_with fail
      go_end0
      exact ⟨rfl, F, HM.out, HS.out⟩
  · have hmk : M.marked = M := by unfold RM.marked; rw [if_neg (fun h => hf h.1)]
    rw [hmk]
    have hf2 : M.fuse = false := by simpa using hf
    rw [hf2] at c4
    clear hfz h hrow hsame hmk
    go_enter Try.func61, Try.ntmps61
    go_wp2_with fail
    go_end0
    exact ⟨rfl, F, HM.out, HS.out⟩
end Go.Proofs.Ytbflennacniacaa
