/- concourseref1.Mem: Fence, by its contract. -/
import Derived.Test.YtbflennacniacaaRmFlushM
namespace Go.Proofs.Ytbflennacniacaa
open Go.RowKit
set_option linter.unusedVariables false
/-- The lines ahead of one that are on their way last. -/
def RM.pass (M : RM) (i : Nat) : RM := { M with last := fun j => if j / 8 < i ∧ M.going (j / 8) = true then M.way j else M.last j, going := fun j => if j < i then false else M.going j }
theorem RM.pass_zero (M : RM) : M.pass 0 = M := by
  unfold RM.pass
  simp
theorem RM.pass_going (M : RM) (i : Nat) : (M.pass i).going i = M.going i := by
  unfold RM.pass
  simp
theorem RM.pass_idle (M : RM) (i : Nat) (h : M.going i = false) : M.pass (i + 1) = M.pass i := by
  have e1 : ∀ j, (j / 8 < i + 1 ∧ M.going (j / 8) = true) ↔ (j / 8 < i ∧ M.going (j / 8) = true) := fun j => by
    constructor
    · rintro ⟨h1, h2⟩
      refine ⟨?_, h2⟩
      rcases Nat.lt_or_eq_of_le (Nat.le_of_lt_succ h1) with h3 | h3
      · exact h3
      · rw [h3, h] at h2; cases h2
    · rintro ⟨h1, h2⟩
      exact ⟨by omega, h2⟩
  have e2 : ∀ j, (if j < i + 1 then false else M.going j) = if j < i then false else M.going j := fun j => by
    by_cases hj : j < i
    · rw [if_pos hj, if_pos (by omega)]
    · rw [if_neg hj]
      by_cases hi : j = i
      · rw [if_pos (by omega), hi, h]
      · rw [if_neg (by omega)]
  unfold RM.pass
  simp only [e1, e2]
theorem RM.pass_step (M : RM) (i : Nat) (h : M.going i = true) : M.pass (i + 1) = { M.pass i with last := laid (M.pass i).last M.way i, going := updB (M.pass i).going i false } := by
  have e1 : (M.pass (i + 1)).last = laid (M.pass i).last M.way i := by
    funext j
    unfold RM.pass laid
    simp only
    by_cases h1 : i * 8 ≤ j ∧ j < i * 8 + 8
    · have : j / 8 = i := by omega
      rw [if_pos h1, if_pos ⟨by omega, by rw [this]; exact h⟩]
    · rw [if_neg h1]
      by_cases h2 : j / 8 < i ∧ M.going (j / 8) = true
      · rw [if_pos h2, if_pos ⟨by omega, h2.2⟩]
      · rw [if_neg h2, if_neg (fun h3 => h2 ⟨by omega, h3.2⟩)]
  have e2 : (M.pass (i + 1)).going = updB (M.pass i).going i false := by
    funext j
    unfold RM.pass updB
    simp only
    by_cases h1 : j = i
    · rw [if_pos h1, if_pos (by omega)]
    · rw [if_neg h1]
      by_cases h2 : j < i
      · rw [if_pos h2, if_pos (by omega)]
      · rw [if_neg h2, if_neg (by omega)]
  rw [← e1, ← e2]
  rfl
def RM.fence (M : RM) : RM := (if M.power = true then M.worked.pass M.n else M.worked).marked
set_option maxHeartbeats 1000000 in
set_option maxRecDepth 100000 in
theorem rfence_any (F : RF) (M : RM) (w : World) (h : RMem w F M) (hs : M.steps ≤ 1099511627776) (hl : wf64 M.left) :
    Calls Try.prog 52 #[.pointer (some ⟨F.a, 0, .none⟩)] w fun e w' => e = .returned (.int .i64 0) ∧ ∃ F', RMem w' F' M.fence ∧ OpR F F' w w' := by
  obtain ⟨n, hn⟩ : ∃ n : Nat, M.n = n := ⟨_, rfl⟩
  have hsz := h.size
  have HM := Lib.hid h
  rw [hn] at hsz
  have HN := Lib.hid hn
  have HST := Lib.hid hs
  have HLF := Lib.hid hl
  have good : M.fence = (if M.power = true then M.worked.pass n else M.worked).marked := by unfold RM.fence; rw [hn]
  rw [good]
  clear h hn hs hl good
  by_cases hp : M.power = true
  · rw [if_pos hp]
    obtain ⟨W, hW⟩ : ∃ W, M.worked = W := ⟨_, rfl⟩
    have hN1 : W.n = n := by rw [← hW, M.worked_same.1]; exact HN.out
    rw [hW]
    have HW := Lib.hid hW
    have HN1 := Lib.hid hN1
    clear hW hN1
    go_enter Try.func52, Try.ntmps52
    go_wp2_with fail
    refine (works_any F M w HM.out HST.out HLF.out).mono ?_
    rintro e w1 ⟨rfl, hm1, ho1⟩
    rw [hp]
    rw [HW.out] at hm1
    have HM1 := Lib.hid hm1
    have HO1 := Lib.hid ho1
    clear hm1 ho1
    go_wp2_with fail
    go_loopw [3] (fun i wr => ∃ k : Nat, k ≤ n ∧ i = .int .i64 k ∧ RMem wr F (W.pass k) ∧ Only F.has w wr) (fun i _ => n - (intOf i).toNat)
    case atStart => exact ⟨0, by omega, rfl, by rw [RM.pass_zero]; exact HM1.out, HO1.out⟩
    case round =>
      obtain ⟨k, hk, rfl, hm2, ho2⟩ := hrel
      obtain ⟨cs2, cl2, cy2, cg2, ce2, z0, z1, z2, z3, d0, d1, d2, d3, _, _, _, _, _, hfz2⟩ := hm2.cells
      have hpn : (W.pass k).n = n := HN1.out
      rw [hpn] at z0 z1 z2 z3 d0 d1 d2 d3
      obtain ⟨N, hN⟩ : ∃ N : Nat, n * 8 = N := ⟨_, rfl⟩
      rw [hN] at z0 z1 z2 d0 d1 d2
      have hgo := hm2.going
      rw [hpn] at hgo
      by_cases hlt : k < n
      · have q1 : decide ((k : Int) < (n : Int)) = true := by simpa using hlt
        have g1 := hgo.cell k hlt
        change World.cell? _ _ = some (.bool ((W.pass k).going k)) at g1
        rw [RM.pass_going] at g1
        have g2 := hgo.frozen k
        have i0 : IntKind.i64.wrap ((k : Int) + 1) = ((k + 1 : Nat) : Int) := by rw [IntKind.wrap_i64]; omega
        have HM2 := Lib.hid hm2
        have HO2 := Lib.hid ho2
        have HNN := Lib.hid hN
        obtain ⟨K, hK⟩ : ∃ K : Nat, k + 1 = K := ⟨_, rfl⟩
        rw [hK] at i0
        have HK := Lib.hid hK
        by_cases hg : W.going k = true
        · rw [hg] at g1
          have hkN : k * 8 + 8 ≤ N := by omega
          have i1 : IntKind.i64.wrap ((k : Int) * 8) = ((k * 8 : Nat) : Int) := by rw [IntKind.wrap_i64]; omega
          have i3 : IntKind.i64.wrap ((K : Int) * 8) = ((k * 8 + 8 : Nat) : Int) := by rw [IntKind.wrap_i64]; omega
          obtain ⟨B, hB⟩ : ∃ B : Nat, k * 8 = B := ⟨_, rfl⟩
          obtain ⟨E, hE⟩ : ∃ E : Nat, B + 8 = E := ⟨_, rfl⟩
          rw [hB] at i1 i3 hkN
          rw [hE] at i3 hkN
          have b1 : B ≤ E := by omega
          have b2 : E ≤ cl2 := by omega
          have b3 : B ≤ N := by omega
          have b4 : N ≤ cy2 := by omega
          have n1 : ¬ cl2 = B := by omega
          have n2 : ¬ cy2 = B := by omega
          have HE := Lib.hid hE
          have HBB := Lib.hid hB
          have HG := Lib.hid hg
          have hmd : RMem wr.drew F (W.pass k) := hm2.same fun _ _ => rfl
          have HMD := Lib.hid hmd
          clear hm2 ho2 hN hK hgo hfz2 hB hE hg hmd z0 z1 z2 z3 d0 hpn
          go_wp2_with fail
          go_region_law (refine step_laid rfl _ _ _ _ rfl Try.underlying49 F.l F.y k N (W.pass k).last W.way (by rw [← HNN.out, ← HN1.out]; exact HMD.out.last) (by rw [← HNN.out, ← HN1.out]; exact HMD.out.way) (by rw [HBB.out, HE.out]; exact hkN) B B (E - B) (cl2 - B) (N - B) (cy2 - B) rfl rfl HBB.out.symm HBB.out.symm (by have := HE.out; omega) (by have := HE.out; omega) ?_; intro row HRW)
          all_goals (
            have hw2 := HMD.out.setLast row (laid (W.pass k).last W.way k) (by show RowT _ _ _ (W.n * 8) _; rw [HN1.out, HNN.out]; exact HRW.out)
            have ho1d : Only F.has w wr.drew := HO2.out.drewN 1
            have ho3 := ho1d.setRow (b := F.l) (.inr (.inr (.inl rfl))) row
            obtain ⟨_, _, _, cg4, _, _, _, _, y3, _, _, _, x3, _, _, _, _, _, _⟩ := hw2.cells
            change World.cell? _ _ = some (.slice (some ⟨F.g, 0, .none⟩) W.n cg4) at x3
            rw [HN1.out] at x3
            have x4 := hw2.going.cell k (by show k < W.n; rw [HN1.out]; exact hlt)
            have x5 := hw2.going.frozen k
            have hw3 := hw2.setGoing k false
            have hw4 : RMem ((wr.drew.setRow F.l row).setCell ⟨F.g, k, .none⟩ (.bool false)) F (W.pass (k + 1)) := by
              rw [RM.pass_step W k HG.out]
              exact hw3
            have ho4 := ho3.setCell (p := ⟨F.g, k, .none⟩) (.inl (.inr (.inr (.inr (.inr (.inl rfl)))))) (.bool false)
            have HW3 := Lib.hid hw4
            have HO3 := Lib.hid ho4
            clear hw2 hw3 hw4 ho3 ho4 y3 ho1d
            change World.cell? _ _ = some (.bool ((W.pass k).going k)) at x4
            obtain ⟨w2, hw2⟩ : ∃ w2, wr.drew.setRow F.l row = w2 := ⟨_, rfl⟩
            rw [hw2] at x3 x4 x5 HW3 HO3 ⊢
            clear hw2 HRW
            go_wp2_with fail
            exact ⟨⟨K, by have := HK.out; omega, rfl, by rw [← HK.out]; exact HW3.out, HO3.out⟩, by have := HK.out; simp [intOf]; omega⟩)
        · have hg2 : W.going k = false := by simpa using hg
          rw [hg2] at g1
          have hst : RMem wr F (W.pass (k + 1)) := by rw [RM.pass_idle W k hg2]; exact hm2
          have HST2 := Lib.hid hst
          clear hm2 ho2 hN hK hgo hfz2 hg hg2 hst
          go_wp2_with fail
          exact ⟨⟨K, by have := HK.out; omega, rfl, by rw [← HK.out]; exact HST2.out, HO2.out⟩, by have := HK.out; simp [intOf]; omega⟩
      · obtain rfl : k = n := by omega
        have q1 : decide ((k : Int) < (k : Int)) = false := by simp
        have HM2 := Lib.hid hm2
        have HO2 := Lib.hid ho2
        clear hm2 ho2 hN hgo hfz2
        go_wp2_with fail
        refine (rmark_any F _ _ HM2.out).mono ?_
        rintro e w3 ⟨rfl, F', hm4, hop⟩
        have HM4 := Lib.hid hm4
        have HOP := Lib.hid ((OpR.of_only HO2.out).trans hop)
        clear hm4 hop
        go_wp2_with fail
        go_ret
        exact ⟨rfl, F', HM4.out, HOP.out⟩
  · rw [if_neg hp]
    have hp2 : M.power = false := by simpa using hp
    go_enter Try.func52, Try.ntmps52
    go_wp2_with fail
    refine (works_any F M w HM.out HST.out HLF.out).mono ?_
    rintro e w1 ⟨rfl, hm1, ho1⟩
    rw [hp2]
    have HM1 := Lib.hid hm1
    have HO1 := Lib.hid ho1
    clear hm1 ho1 hp hp2
    go_wp2_with fail
    refine (rmark_any F _ _ HM1.out).mono ?_
    rintro e w2 ⟨rfl, F', hm4, hop⟩
    have HM4 := Lib.hid hm4
    have HOP := Lib.hid ((OpR.of_only HO1.out).trans hop)
    clear hm4 hop
    go_wp2_with fail
    go_ret
    exact ⟨rfl, F', HM4.out, HOP.out⟩
end Go.Proofs.Ytbflennacniacaa
