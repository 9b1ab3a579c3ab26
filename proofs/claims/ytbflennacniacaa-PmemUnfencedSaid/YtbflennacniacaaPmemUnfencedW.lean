/- The walk of the law PmemUnfenced. -/
import Derived.Test.YtbflennacniacaaAwake1
import Derived.Test.YtbflennacniacaaPmUnf
namespace Go.Proofs.Ytbflennacniacaa
open Go.RowKit
set_option linter.unusedVariables false
set_option maxRecDepth 100000 in
set_option maxHeartbeats 4000000 in
theorem pmemUnfenced_walk (lines : Int) (h0 : (Lit.int .i64 lines).wf = true) (keep : Int) (h1 : (Lit.int .i64 keep).wf = true) (flush : Bool) (w : World) :
    Calls Try.prog 4 #[.int .i64 lines, .int .i64 keep, .bool flush] w fun e w' => e = .returned (.bool true) ∧ Below w.heap.size w w' := by
  obtain ⟨bt, hbt⟩ : ∃ bt, bitB lines = bt := ⟨_, rfl⟩
  have HB := Lib.hid hbt
  clear h0 h1 hbt
  go_enter Try.func4, Try.ntmps4
  go_wp2_with fail
  refine (awake1 _).mono ?_
  rintro e w1 ⟨rfl, hb1⟩
  go_wp2_with fail
  refine (new_live 8 w w1 hb1 (by omega) (by omega) 64 rfl).mono ?_
  rintro e w2 ⟨p, rfl, _, g1, _⟩
  have G1 : Hid (Live w w2 p (unf bt flush 0)) := Lib.hid g1
  clear g1 hb1
  go_wp2_with fail
  go_loopw [10] (fun i wr => ∃ n : Nat, n ≤ 8 ∧ i = .int .i64 n ∧ Live w wr p (unf bt flush n)) (fun i _ => 8 - (intOf i).toNat)
  case atStart => exact ⟨0, by omega, rfl, G1.out⟩
  case round =>
    obtain ⟨n, hn, rfl, hl⟩ := hrel
    have HL := Lib.hid hl
    clear hl
    have hup := unf_p bt flush n hn
    have HU := Lib.hid hup
    clear hup
    by_cases hlt : n < 8
    · have q1 : decide ((n : Int) < 8) = true := by simp; omega
      cases hb : bt n with
      | false =>
        have hbit : bits .and .i64 (lines / 2 ^ n) 1 = 0 := bitB_zero (by rw [HB.out]; exact hb)
        have hnext : unf bt flush (n + 1) = unf bt flush n := by
          show (if bt n then _ else _) = _
          rw [hb]
          rfl
        have HNX := Lib.hid hnext
        clear hnext hb
        go_wp2_with fail
        exact ⟨⟨n + 1, by omega, by go_num, by rw [HNX.out]; exact HL.out⟩, by simp [intOf]; omega⟩
      | true =>
        have hbit : bits .and .i64 (lines / 2 ^ n) 1 = 1 := bitB_one (by rw [HB.out]; exact hb)
        have hus := unf_store HU.out hlt hb
        have hpl : placeV (unf bt flush n).n (8 * (n : Int) + n) = 0 := by
          rw [HU.out.n]
          unfold placeV
          rw [if_neg (by omega)]
        cases flush with
        | false =>
          have hnext : unf bt false (n + 1) = (unf bt false n).store (8 * (n : Int) + n) (100 + n) := by
            show (if bt n then _ else _) = _
            rw [hb]
            rfl
          have HNX := Lib.hid hnext
          have HPL := Lib.hid hpl
          clear hnext hb hus hpl
          go_wp2_with fail
          refine (store_live HL.out (8 * (n : Int) + n) _ 0 _ HPL.out HU.out.ok (by omega)).mono ?_
          rintro e w3 ⟨rfl, g3⟩
          have G3 := Lib.hid g3
          clear g3
          go_wp2_with fail
          exact ⟨⟨n + 1, by omega, by go_num, by rw [HNX.out]; exact G3.out⟩, by simp [intOf]; omega⟩
        | true =>
          have hnext : unf bt true (n + 1) = ((unf bt true n).store (8 * (n : Int) + n) (100 + n)).flush n := by
            show (if bt n then _ else _) = _
            rw [hb]
            rfl
          have hli : lineE ((unf bt true n).store (8 * (n : Int) + n) (100 + n)).n (n : Int) = 0 := by
            rw [hus.2.1]
            unfold lineE
            rw [if_neg (by omega)]
          have HNX := Lib.hid hnext
          have HPL := Lib.hid hpl
          have HLI := Lib.hid hli
          have HUS := Lib.hid hus
          clear hnext hb hus hpl hli
          go_wp2_with fail
          refine (store_live HL.out (8 * (n : Int) + n) _ 0 _ HPL.out HU.out.ok (by omega)).mono ?_
          rintro e w3 ⟨rfl, g3⟩
          have G3 := Lib.hid g3
          clear g3
          go_wp2_with fail
          refine (flush_live G3.out (n : Int) 0 _ HLI.out HUS.out.2.2.2.2 (by omega)).mono ?_
          rintro e w4 ⟨rfl, g4⟩
          have G4 := Lib.hid g4
          clear g4
          go_wp2_with fail
          exact ⟨⟨n + 1, by omega, by go_num, by rw [HNX.out]; exact G4.out⟩, by simp [intOf]; omega⟩
    · obtain rfl : n = 8 := by omega
      clear hlt
      go_wp2_with fail
      refine (crash_live HL.out keep).mono ?_
      rintro e w3 ⟨rfl, g3⟩
      have G3 := Lib.hid g3
      clear g3
      obtain ⟨M3, hM3⟩ : ∃ M, (unf bt flush 8).crash keep = M := ⟨_, rfl⟩
      have HR : Hid (∀ i : Nat, i < 8 → loadV M3 (8 * (i : Int) + i) = (if bt i && keptB keep (cntB bt i) then 100 + (i : Int) else 0) ∧ placeV M3.n (8 * (i : Int) + i) = 0) := Lib.hid (by rw [← hM3]; exact unf_read bt flush keep)
      have G4 : Hid (Live w w3 p M3) := Lib.hid (by rw [← hM3]; exact G3.out)
      clear G3 hM3 HU HL
      go_wp2_with fail
      go_loop [9, 11] (fun k i => ∃ n : Nat, n ≤ 8 ∧ i = .int .i64 n ∧ k = .int .i64 (cntB bt n : Nat)) (fun _ i => 8 - (intOf i).toNat)
      case atStart => exact ⟨0, by omega, rfl, rfl⟩
      case round =>
        obtain ⟨n, hn, rfl, rfl⟩ := hrel
        have hc := cntB_le bt n
        by_cases hlt : n < 8
        · have q1 : decide ((n : Int) < 8) = true := by simp; omega
          obtain ⟨hv, hp⟩ := HR.out n hlt
          have hkb := keptB_bit (keep := keep) (i := cntB bt n) (by omega)
          obtain ⟨c, hcn⟩ : ∃ c, cntB bt n = c := ⟨_, rfl⟩
          have hsucc := cntB_succ bt n
          rw [hcn] at hv hkb hsucc hc ⊢
          have HP := Lib.hid hp
          clear hcn hp
          cases hb : bt n with
          | false =>
            have hbit : bits .and .i64 (lines / 2 ^ n) 1 = 0 := bitB_zero (by rw [HB.out]; exact hb)
            rw [hb] at hv hsucc
            have HV : Hid (loadV M3 (8 * (n : Int) + n) = 0) := Lib.hid (by rw [hv]; simp)
            have HS : Hid (cntB bt (n + 1) = c) := Lib.hid (by rw [hsucc]; simp)
            clear hv hsucc hb hkb
            go_wp2_with fail
            refine (load_live G4.out _ 0 0 HV.out HP.out).mono ?_
            rintro e w4 ⟨rfl, rfl⟩
            go_wp2_with (go_at_call 22; refine (num1_any _ _).mono ?_; rintro e w' ⟨rfl, rfl⟩)
            exact ⟨⟨n + 1, by omega, by go_num, by rw [HS.out]⟩, by simp [intOf]; omega⟩
          | true =>
            have hbit : bits .and .i64 (lines / 2 ^ n) 1 = 1 := bitB_one (by rw [HB.out]; exact hb)
            rw [hb] at hv hsucc
            have HS : Hid (cntB bt (n + 1) = c + 1) := Lib.hid (by rw [hsucc]; simp)
            by_cases hk0 : keep < 0
            · have q2 : decide (0 ≤ keep) = false := by simp; omega
              rw [if_pos hk0] at hkb
              rw [hkb] at hv
              have HV : Hid (loadV M3 (8 * (n : Int) + n) = 0) := Lib.hid (by rw [hv]; simp)
              clear hv hsucc hb hkb
              go_wp2_with fail
              refine (load_live G4.out _ 0 0 HV.out HP.out).mono ?_
              rintro e w4 ⟨rfl, rfl⟩
              go_wp2_with (go_at_call 22; refine (num1_any _ _).mono ?_; rintro e w' ⟨rfl, rfl⟩)
              exact ⟨⟨n + 1, by omega, by go_num, by rw [HS.out]; go_num⟩, by simp [intOf]; omega⟩
            · have q2 : decide (0 ≤ keep) = true := by simp; omega
              rw [if_neg hk0] at hkb
              cases hkk : bitB keep c with
              | false =>
                have hkbit := bitB_zero hkk
                rw [hkk] at hkb
                rw [hkb] at hv
                have HV : Hid (loadV M3 (8 * (n : Int) + n) = 0) := Lib.hid (by rw [hv]; simp)
                clear hv hsucc hb hkb hkk
                go_wp2_with fail
                refine (load_live G4.out _ 0 0 HV.out HP.out).mono ?_
                rintro e w4 ⟨rfl, rfl⟩
                go_wp2_with (go_at_call 22; refine (num1_any _ _).mono ?_; rintro e w' ⟨rfl, rfl⟩)
                exact ⟨⟨n + 1, by omega, by go_num, by rw [HS.out]; go_num⟩, by simp [intOf]; omega⟩
              | true =>
                have hkbit := bitB_one hkk
                rw [hkk] at hkb
                rw [hkb] at hv
                have HV : Hid (loadV M3 (8 * (n : Int) + n) = 100 + (n : Int)) := Lib.hid (by rw [hv]; simp)
                clear hv hsucc hb hkb hkk
                go_wp2_with fail
                refine (load_live G4.out _ _ 0 HV.out HP.out).mono ?_
                rintro e w4 ⟨rfl, rfl⟩
                go_wp2_with (go_at_call 22; refine (num1_any _ _).mono ?_; rintro e w' ⟨rfl, rfl⟩)
                exact ⟨⟨n + 1, by omega, by go_num, by rw [HS.out]; go_num⟩, by simp [intOf]; omega⟩
        · obtain rfl : n = 8 := by omega
          clear hlt
          go_wp2_with (go_at_call 22; refine (num1_any _ _).mono ?_; rintro e w' ⟨rfl, rfl⟩)
          go_ret
          exact ⟨rfl, G4.out.bel⟩
end Go.Proofs.Ytbflennacniacaa
