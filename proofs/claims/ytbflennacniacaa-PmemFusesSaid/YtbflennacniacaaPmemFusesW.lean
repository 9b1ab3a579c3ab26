/- The walk of the law PmemFuses. -/
import Derived.Test.YtbflennacniacaaAwake1
import Derived.Test.YtbflennacniacaaPmFus
namespace Go.Proofs.Ytbflennacniacaa
open Go.RowKit
set_option linter.unusedVariables false
set_option maxRecDepth 100000 in
set_option maxHeartbeats 4000000 in
theorem pmemFuses_walk (steps : Int) (h0 : (Lit.int .i64 steps).wf = true) (many : Int) (h1 : (Lit.int .i64 many).wf = true) (w : World) :
    Calls Try.prog 7 #[.int .i64 steps, .int .i64 many] w fun e w' => e = .returned (.bool true) ∧ Below w.heap.size w w' := by
  obtain ⟨k, hk, hkm⟩ := Cv.and_i64 many 15 (by omega)
  rw [show ((15 : Nat) : Int) = 15 from rfl] at hkm
  obtain ⟨c, hc, hcs⟩ := Cv.tmod_u64 steps 64 (by omega)
  rw [show ((64 : Nat) : Int) = 64 from rfl] at hcs
  clear h0 h1
  have hfe : fuseE (c : Int) = 0 := by unfold fuseE; rw [if_neg (by omega)]
  have HFE := Lib.hid hfe
  clear hfe
  go_enter Try.func7, Try.ntmps7
  go_wp2_with fail
  refine (awake1 _).mono ?_
  rintro e w1 ⟨rfl, hb1⟩
  go_wp2_with fail
  refine (new_live 16 w w1 hb1 (by omega) (by omega) 128 rfl).mono ?_
  rintro e w2 ⟨p, rfl, _, g1, _⟩
  have G1 := Lib.hid g1
  clear g1 hb1
  go_wp2_with fail
  refine (fuse_live G1.out (c : Int) 0 HFE.out).mono ?_
  rintro e w3 ⟨rfl, g2⟩
  have G2 : Hid (Live w w3 p (fuI c 0)) := Lib.hid g2
  clear g2 G1
  go_wp2_with fail
  go_loopw [10] (fun i wr => ∃ n : Nat, n ≤ k ∧ i = .int .i64 n ∧ Live w wr p (fuI c n)) (fun i _ => k - (intOf i).toNat)
  case atStart => exact ⟨0, by omega, rfl, G2.out⟩
  case round =>
    obtain ⟨n, hn, rfl, hl⟩ := hrel
    have HL := Lib.hid hl
    have HP := Lib.hid (fuI_p c hc n (by omega))
    clear hl
    by_cases hlt : n < k
    · have hr := (HP.out.round (by omega)).1
      have HR := Lib.hid hr
      clear hr
      go_wp2_with fail
      refine (store_live HL.out (8 * (n : Int)) ((n : Int) + 1) 0 _ HR.out.1 HP.out.ok (by omega)).mono ?_
      rintro e w4 ⟨rfl, g4⟩
      have G4 := Lib.hid g4
      clear g4
      go_wp2_with fail
      refine (flush_live G4.out (n : Int) 0 _ HR.out.2.1 HR.out.2.2.1 (by omega)).mono ?_
      rintro e w5 ⟨rfl, g5⟩
      have G5 := Lib.hid g5
      clear g5
      go_wp2_with fail
      refine (fence_live G5.out _ HR.out.2.2.2 (by omega)).mono ?_
      rintro e w6 ⟨rfl, g6⟩
      have G6 : Hid (Live w w6 p (fuI c (n + 1))) := Lib.hid g6
      clear g6
      go_wp2_with fail
      exact ⟨⟨n + 1, by omega, by go_num, G6.out⟩, by simp [intOf]; omega⟩
    · obtain rfl : n = k := by omega
      clear hlt
      have HRD := Lib.hid (fun i hi => fus_read (c := c) (k := n) hc hk i hi)
      have HST := Lib.hid (fus_steps (c := c) (k := n) hc hk)
      go_wp2_with fail
      refine (crash_live HL.out 0).mono ?_
      rintro e w4 ⟨rfl, g4⟩
      obtain ⟨M5, hM5⟩ : ∃ M5, (fuI c n).crash 0 = M5 := ⟨_, rfl⟩
      rw [hM5] at g4 HRD HST
      have G4 := Lib.hid g4
      clear g4 hM5 HL HP G2
      go_wp2_with fail
      go_loop [11] (fun i => ∃ a : Nat, a ≤ 16 ∧ i = .int .i64 a) (fun i => 16 - (intOf i).toNat)
      case atStart => exact ⟨0, by omega, rfl⟩
      case round =>
        obtain ⟨a, ha, rfl⟩ := hrel
        by_cases hlt : a < 16
        · have q5 : decide ((a : Int) < 16) = true := by simp; omega
          obtain ⟨hv, hp⟩ := HRD.out a hlt
          have HPA := Lib.hid hp
          clear hp
          by_cases hin : a < n
          · have q6 : decide (a < n) = true := by simpa using hin
            by_cases hic : 3 * a + 2 < c
            · have q7 : decide (3 * (a : Int) + 2 < (c : Int)) = true := by simp; omega
              rw [if_pos ⟨hin, hic⟩] at hv
              have HV := Lib.hid hv
              clear hv
              go_wp2_with fail
              refine (load_live G4.out (8 * (a : Int)) _ 0 HV.out HPA.out).mono ?_
              rintro e w6 ⟨rfl, rfl⟩
              go_wp2_with fail
              exact ⟨⟨a + 1, by omega, by go_num⟩, by simp [intOf]; omega⟩
            · have q7 : decide (3 * (a : Int) + 2 < (c : Int)) = false := by simp; omega
              rw [if_neg (fun h => hic h.2)] at hv
              have HV := Lib.hid hv
              clear hv
              go_wp2_with fail
              refine (load_live G4.out (8 * (a : Int)) _ 0 HV.out HPA.out).mono ?_
              rintro e w6 ⟨rfl, rfl⟩
              go_wp2_with fail
              exact ⟨⟨a + 1, by omega, by go_num⟩, by simp [intOf]; omega⟩
          · have q6 : decide (a < n) = false := by simpa using hin
            rw [if_neg (fun h => hin h.1)] at hv
            have HV := Lib.hid hv
            clear hv
            go_wp2_with fail
            refine (load_live G4.out (8 * (a : Int)) _ 0 HV.out HPA.out).mono ?_
            rintro e w6 ⟨rfl, rfl⟩
            go_wp2_with fail
            exact ⟨⟨a + 1, by omega, by go_num⟩, by simp [intOf]; omega⟩
        · obtain rfl : a = 16 := by omega
          clear hlt
          go_wp2_with fail
          refine (fuse_live G4.out (-1) 102 (by decide)).mono ?_
          rintro e w7 ⟨rfl, g7⟩
          have G7 := Lib.hid g7
          clear g7
          go_wp2_with (go_at_call 22; refine (num1_any _ _).mono ?_; rintro e w' ⟨rfl, rfl⟩)
          refine (steps_live G7.out (3 * (n : Int)) HST.out).mono ?_
          rintro e w7 ⟨rfl, rfl⟩
          go_wp2_with fail
          go_ret
          exact ⟨rfl, G7.out.bel⟩
end Go.Proofs.Ytbflennacniacaa
