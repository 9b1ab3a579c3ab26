/- concourseref1.Mem: Flush, by its contract. -/
import Derived.Test.YtbflennacniacaaRmFlush
namespace Go.Proofs.Ytbflennacniacaa
open Go.RowKit
set_option linter.unusedVariables false
def RM.sent (M : RM) (k : Nat) : RM := { M with way := laid M.way M.seen k, going := updB M.going k true }
def RM.flush (M : RM) (p : Int) : RM := if lineE M.n p = 0 then (if M.power = true then M.worked.sent p.toNat else M.worked).marked else M
set_option maxHeartbeats 1000000 in
set_option maxRecDepth 100000 in
theorem rflush_any (F : RF) (M : RM) (p r : Int) (w : World) (h : RMem w F M) (hs : M.steps ≤ 1099511627776) (hl : wf64 M.left) (hr : lineE M.n p = r) :
    Calls Try.prog 51 #[.pointer (some ⟨F.a, 0, .none⟩), .int .i64 p] w fun e w' => e = .returned (.int .i64 r) ∧ ∃ F', RMem w' F' (M.flush p) ∧ OpR F F' w w' := by
  obtain ⟨cs, cl, cy, cg, ce, _, _, _, _, _, _, _, c3, _, _, _, _, _, hfz⟩ := h.cells
  obtain ⟨n, hn⟩ : ∃ n : Nat, M.n = n := ⟨_, rfl⟩
  have hsz := h.size
  have hsame : OpR F F w w := OpR.of_only (Only.refl _ _)
  have HS := Lib.hid hsame
  have HM := Lib.hid h
  have HR := Lib.hid hr
  rw [hn] at c3 hsz
  have hr1 := hr
  unfold lineE at hr1
  rw [hn] at hr1
  have HN := Lib.hid hn
  have HST := Lib.hid hs
  have HLF := Lib.hid hl
  clear hfz h hsame hn hr hs hl
  by_cases h1 : p < 0
  · rw [if_pos (Or.inl h1)] at hr1
    subst hr1
    have bad : M.flush p = M := by unfold RM.flush; rw [if_neg (by rw [HR.out]; decide)]
    rw [bad]
    clear bad
    have q1 : decide (p < 0) = true := by simpa using h1
    go_enter Try.func51, Try.ntmps51
    go_wp2_with fail
    go_ret
    exact ⟨rfl, F, HM.out, HS.out⟩
  · have q1 : decide (p < 0) = false := by simpa using h1
    by_cases h2 : (n : Int) ≤ p
    · rw [if_pos (Or.inr h2)] at hr1
      subst hr1
      have bad : M.flush p = M := by unfold RM.flush; rw [if_neg (by rw [HR.out]; decide)]
      rw [bad]
      clear bad
      have q2 : decide ((n : Int) ≤ p) = true := by simpa using h2
      go_enter Try.func51, Try.ntmps51
      go_wp2_with fail
      go_ret
      exact ⟨rfl, F, HM.out, HS.out⟩
    · have q2 : decide ((n : Int) ≤ p) = false := by simpa using h2
      rw [if_neg (by omega)] at hr1
      subst hr1
      obtain ⟨k, rfl⟩ : ∃ k : Nat, p = (k : Int) := ⟨p.toNat, by omega⟩
      have hk : k < n := by omega
      have good : M.flush (k : Int) = (if M.power = true then M.worked.sent k else M.worked).marked := by unfold RM.flush; rw [if_pos HR.out, Int.toNat_natCast]
      rw [good]
      clear good
      have i1 : IntKind.i64.wrap ((k : Int) * 8) = ((k * 8 : Nat) : Int) := by rw [IntKind.wrap_i64]; omega
      have i2 : IntKind.i64.wrap ((k : Int) + 1) = ((k + 1 : Nat) : Int) := by rw [IntKind.wrap_i64]; omega
      have i3 : IntKind.i64.wrap (((k + 1 : Nat) : Int) * 8) = ((k * 8 + 8 : Nat) : Int) := by rw [IntKind.wrap_i64]; omega
      by_cases hp : M.power = true
      · rw [if_pos hp]
        go_enter Try.func51, Try.ntmps51
        go_wp2_with fail
        refine (works_any F M w HM.out HST.out HLF.out).mono ?_
        rintro e w1 ⟨rfl, hm1, ho1⟩
        rw [hp]
        obtain ⟨e1, e2, e3, e4, e5, e6, e7, e8, e9⟩ := M.worked_same
        obtain ⟨cs1, cl1, cy1, cg1, ce1, z0, z1, z2, z3, d0, d1, d2, d3, _, _, _, _, _, hfz1⟩ := hm1.cells
        have hN1 : M.worked.n = n := by rw [e1]; exact HN.out
        rw [hN1] at z0 z2 z3 d0 d2 d3
        obtain ⟨N, hN⟩ : ∃ N : Nat, n * 8 = N := ⟨_, rfl⟩
        rw [hN] at z0 z2 d0 d2
        have hkN : k * 8 + 8 ≤ N := by omega
        obtain ⟨B, hB⟩ : ∃ B : Nat, k * 8 = B := ⟨_, rfl⟩
        obtain ⟨K, hK⟩ : ∃ K : Nat, k + 1 = K := ⟨_, rfl⟩
        rw [hB] at i1 i3 hkN
        rw [hK] at i2 i3
        obtain ⟨E, hE⟩ : ∃ E : Nat, B + 8 = E := ⟨_, rfl⟩
        rw [hE] at i3 hkN
        have b1 : B ≤ E := by omega
        have b2 : E ≤ cy1 := by omega
        have b3 : B ≤ N := by omega
        have b4 : N ≤ cs1 := by omega
        have n1 : ¬ cy1 = B := by omega
        have n2 : ¬ cs1 = B := by omega
        have HE := Lib.hid hE
        have hmd : RMem w1.drew F M.worked := hm1.same fun _ _ => rfl
        have HMD := Lib.hid hmd
        have HM1 := Lib.hid hm1
        have HO1 := Lib.hid ho1
        have HNN := Lib.hid hN
        have HBB := Lib.hid hB
        have HN1 := Lib.hid hN1
        clear hm1 ho1 e1 e2 e3 e4 e5 e6 e7 e8 e9 hfz1 hN hB hN1 z1 hE hK hmd
        go_wp2_with fail
        go_region_law (refine step_laid rfl _ _ _ _ rfl Try.underlying49 F.y F.s k N M.worked.way M.worked.seen (by rw [← HNN.out, ← HN1.out]; exact HMD.out.way) (by rw [← HNN.out, ← HN1.out]; exact HMD.out.seen) (by rw [HBB.out, HE.out]; exact hkN) B B (E - B) (cy1 - B) (N - B) (cs1 - B) rfl rfl HBB.out.symm HBB.out.symm (by have := HE.out; omega) (by have := HE.out; omega) ?_; intro row HRW)
        all_goals (
          have hw2 := HMD.out.setWay row (laid M.worked.way M.worked.seen k) (by rw [HN1.out, HNN.out]; exact HRW.out)
          have ho1d : Only F.has w w1.drew := HO1.out.drewN 1
          have ho2 := ho1d.setRow (b := F.y) (.inr (.inr (.inr (.inl rfl)))) row
          obtain ⟨_, _, _, cg2, _, _, _, _, y3, _, _, _, x3, _, _, _, _, _, _⟩ := hw2.cells
          change World.cell? _ _ = some (.slice (some ⟨F.g, 0, .none⟩) M.worked.n cg2) at x3
          rw [HN1.out] at x3
          have x4 := hw2.going.cell k (by show k < M.worked.n; rw [HN1.out]; exact hk)
          have x5 := hw2.going.frozen k
          have hw3 := hw2.setGoing k true
          have ho3 := ho2.setCell (p := ⟨F.g, k, .none⟩) (.inl (.inr (.inr (.inr (.inr (.inl rfl)))))) (.bool true)
          have HW3 := Lib.hid hw3
          have HO3 := Lib.hid ho3
          clear hw2 ho2 hw3 ho3 y3 ho1d
          change World.cell? _ _ = some (.bool (M.worked.going k)) at x4
          obtain ⟨w2, hw2⟩ : ∃ w2, w1.drew.setRow F.y row = w2 := ⟨_, rfl⟩
          rw [hw2] at x3 x4 x5 HW3 HO3 ⊢
          clear hw2 HRW
          go_wp2_with fail
          refine (rmark_any F _ _ HW3.out).mono ?_
          rintro e w3 ⟨rfl, F', hm4, hop⟩
          have HM4 := Lib.hid hm4
          have HOP := Lib.hid ((OpR.of_only HO3.out).trans hop)
          clear hm4 hop
          go_wp2_with fail
          go_ret
          exact ⟨rfl, F', HM4.out, HOP.out⟩)
      · rw [if_neg hp]
        have hp2 : M.power = false := by simpa using hp
        go_enter Try.func51, Try.ntmps51
        go_wp2_with fail
        refine (works_any F M w HM.out HST.out HLF.out).mono ?_
        rintro e w1 ⟨rfl, hm1, ho1⟩
        rw [hp2]
        have HM1 := Lib.hid hm1
        have HO1 := Lib.hid ho1
        clear hm1 ho1 hp hp2
        go_wp2_with fail
        refine (rmark_any F _ _ HM1.out).mono ?_
        rintro e w2 ⟨rfl, F', hm4, hop⟩
        have HM4 := Lib.hid hm4
        have HOP := Lib.hid ((OpR.of_only HO1.out).trans hop)
        clear hm4 hop
        go_wp2_with fail
        go_ret
        exact ⟨rfl, F', HM4.out, HOP.out⟩
end Go.Proofs.Ytbflennacniacaa
