/- The walk of the law PmemFenced. -/
import Derived.Test.YtbflennacniacaaAwake1
import Derived.Test.YtbflennacniacaaReads
import Derived.Test.YtbflennacniacaaPmFen
namespace Go.Proofs.Ytbflennacniacaa
open Go.RowKit
set_option linter.unusedVariables false
def wordsOf (zs : List Int) (j : Nat) : Int := IntKind.u64.wrap (zs.getD j 0)
theorem keptB_zero (keep : Int) : keptB keep 0 = (if keep < 0 then false else bits .and .i64 keep 1 == 1) := by
  unfold keptB
  rw [show (keep / 2 ^ (0 % 60)) = keep from by simp]
theorem Reads.int {w : World} {A : Option Addr} {n : Nat} {zs : List Int} (h : Reads w A n (zs.map (Value.int .i64))) (j : Nat) (hj : j < n) : ∃ g off, A = some ⟨g, off, none⟩ ∧ w.cell? ⟨g, off + j, none⟩ = some (.int .i64 (zs.getD j 0)) := by
  obtain ⟨g, off, hA, _, hc⟩ := h.2 (by omega)
  refine ⟨g, off, hA, ?_⟩
  have hl : j < zs.length := by have := h.1; simp at this; omega
  rw [hc j hj]
  simp [hl]
theorem ite_kb_true (P : Prop) [Decidable P] (x y : Int) : (if P ∧ true = true then x else y) = if P then x else y := by by_cases h : P <;> simp [h]
theorem ite_kb_false (P : Prop) [Decidable P] (x y : Int) : (if P ∧ false = true then x else y) = y := by simp
set_option maxRecDepth 100000 in
set_option maxHeartbeats 20000000 in
theorem pmemFenced_walk (w : World) (A : Option Addr) (n c : Nat) (zs : List Int) (hr : Reads w A n (zs.map (Value.int .i64))) (hz : ∀ x ∈ zs, (Lit.int .i64 x).wf = true) (hm : n ≤ maxLen) (keep : Int) (h1 : (Lit.int .i64 keep).wf = true) (last : Int) (h2 : (Lit.int .i64 last).wf = true) :
    Calls Try.prog 3 #[.slice A n c, .int .i64 keep, .int .i64 last] w fun e w' => e = .returned (.bool true) ∧ Below w.heap.size w w' := by
  obtain ⟨k, hk, hkl⟩ := Cv.tmod_u64 last 8 (by omega)
  rw [show ((8 : Nat) : Int) = 8 from rfl] at hkl
  unfold maxLen at hm
  have HR := Lib.hid hr
  obtain ⟨val, hval⟩ : ∃ v, wordsOf zs = v := ⟨_, rfl⟩
  have HVAL := Lib.hid hval
  clear h1 h2 hz hr hval
  go_enter Try.func3, Try.ntmps3
  go_wp2_with fail
  refine (awake1 _).mono ?_
  rintro e w1 ⟨rfl, hb1⟩
  go_wp2_with fail
  refine (new_live 8 w w1 hb1 (by omega) (by omega) 64 rfl).mono ?_
  rintro e w2 ⟨p, rfl, _, g1, _⟩
  have G1 : Hid (Live w w2 p (fst1 val 0)) := Lib.hid g1
  clear g1 hb1
  obtain ⟨m, hmn⟩ : ∃ m, min n 64 = m := ⟨_, rfl⟩
  have hmle : m ≤ n ∧ m ≤ 64 ∧ (m < n → m = 64) := by omega
  clear hmn
  go_wp2_with fail
  go_loopw [9] (fun i wr => ∃ j : Nat, j ≤ m ∧ i = .int .i64 j ∧ Live w wr p (fst1 val j)) (fun i _ => m - (intOf i).toNat)
  case atStart => exact ⟨0, by omega, rfl, G1.out⟩
  case round =>
    obtain ⟨j, hj, rfl, hl⟩ := hrel
    have HL := Lib.hid hl
    have HP := Lib.hid (fst1_p val j (by omega))
    clear hl
    by_cases hlt : j < m
    · obtain ⟨g, off, rfl, hc⟩ := (HR.out.below HL.out.bel).int j (by omega)
      obtain ⟨x, hx⟩ : ∃ x, zs.getD j 0 = x := ⟨_, rfl⟩
      rw [hx] at hc
      have q1 : decide (j < n) = true := by simp; omega
      have q2 : decide ((j : Int) < 64) = true := by simp; omega
      have hpl : placeV (fst1 val j).n (j : Int) = 0 := by
        rw [HP.out.n]
        unfold placeV
        rw [if_neg (by omega)]
      have hnx : fst1 val (j + 1) = (fst1 val j).store j (IntKind.u64.wrap x) := by
        show (fst1 val j).store j (val j) = _
        rw [← HVAL.out]
        show (fst1 _ j).store j (IntKind.u64.wrap (zs.getD j 0)) = _
        rw [hx]
      have HPL := Lib.hid hpl
      have HNX := Lib.hid hnx
      clear hx hpl hnx
      go_wp2_with fail
      refine (store_live HL.out (j : Int) _ 0 _ HPL.out HP.out.ok (by omega)).mono ?_
      rintro e w3 ⟨rfl, g3⟩
      have G3 := Lib.hid g3
      clear g3
      go_wp2_with fail
      exact ⟨⟨j + 1, by omega, by go_num, by rw [HNX.out]; exact G3.out⟩, by simp [intOf]; omega⟩
    · obtain rfl : j = m := by omega
      have hstop : decide (j < n) = false ∨ (decide (j < n) = true ∧ decide ((j : Int) < 64) = false) := by
        simp only [decide_eq_true_eq, decide_eq_false_iff_not]
        omega
      clear hlt
      obtain ⟨S, hS⟩ : ∃ S, cutV val j = S := ⟨_, rfl⟩
      have HS := Lib.hid hS
      rw [hS] at HP
      have G2 : Hid (Live w wr p (fst2 (fst1 val j) 0)) := Lib.hid HL.out
      obtain ⟨M1, hM1⟩ : ∃ M1, fst1 val j = M1 := ⟨_, rfl⟩
      rw [hM1] at HP G2
      clear HL hS hM1
      rcases hstop with q1 | ⟨q1, q2⟩
      all_goals
        go_wp2_with fail
        go_loopw [10] (fun i wr => ∃ b : Nat, b ≤ 8 ∧ i = .int .i64 b ∧ Live w wr p (fst2 M1 b)) (fun i _ => 8 - (intOf i).toNat)
        case atStart => exact ⟨0, by omega, rfl, G2.out⟩
        case round =>
          obtain ⟨b, hb, rfl, hl⟩ := hrel
          have HL := Lib.hid hl
          have HF := Lib.hid (fst2_p HP.out b hb)
          clear hl
          by_cases hlt : b < 8
          · have q3 : decide ((b : Int) < 8) = true := by simp; omega
            have hli : lineE (fst2 M1 b).n (b : Int) = 0 := by
              rw [HF.out.n]
              unfold lineE
              rw [if_neg (by omega)]
            have HLI := Lib.hid hli
            clear hli
            go_wp2_with fail
            refine (flush_live HL.out (b : Int) 0 _ HLI.out HF.out.ok (by omega)).mono ?_
            rintro e w3 ⟨rfl, g3⟩
            have G3 := Lib.hid g3
            clear g3
            go_wp2_with fail
            exact ⟨⟨b + 1, by omega, by go_num, G3.out⟩, by simp [intOf]; omega⟩
          · obtain rfl : b = 8 := by omega
            clear hlt
            go_wp2_with fail
            refine (fence_live HL.out _ HF.out.ok (by omega)).mono ?_
            rintro e w3 ⟨rfl, g3⟩
            obtain ⟨L, hL, hLS⟩ := fst3_p HF.out
            obtain ⟨M3, hM3⟩ : ∃ M3, (fst2 M1 8).fence = M3 := ⟨_, rfl⟩
            rw [hM3] at hL g3
            have HL3 := Lib.hid hL
            have HLS := Lib.hid hLS
            have G3 : Hid (Live w w3 p (fst4 M3 k 0)) := Lib.hid g3
            clear g3 hL hLS hM3 HL HF G2
            go_wp2_with fail
            go_loopw [12] (fun i wr => ∃ b : Nat, b ≤ 8 ∧ i = .int .i64 b ∧ Live w wr p (fst4 M3 k b)) (fun i _ => 8 - (intOf i).toNat)
            case atStart => exact ⟨0, by omega, rfl, G3.out⟩
            case round =>
              obtain ⟨b, hb, rfl, hl⟩ := hrel
              have HL := Lib.hid hl
              have HF := Lib.hid (fst4_p HL3.out k hk b hb)
              clear hl
              by_cases hlt : b < 8
              · have q3 : decide ((b : Int) < 8) = true := by simp; omega
                have hpl : placeV (fst4 M3 k b).n (8 * (k : Int) + b) = 0 := by
                  rw [HF.out.n]
                  unfold placeV
                  rw [if_neg (by omega)]
                have HPL := Lib.hid hpl
                clear hpl
                go_wp2_with fail
                refine (store_live HL.out (8 * (k : Int) + b) _ 0 _ HPL.out HF.out.ok (by omega)).mono ?_
                rintro e w4 ⟨rfl, g4⟩
                have G4 := Lib.hid g4
                clear g4
                go_wp2_with fail
                exact ⟨⟨b + 1, by omega, by go_num, G4.out⟩, by simp [intOf]; omega⟩
              · obtain rfl : b = 8 := by omega
                clear hlt
                obtain ⟨kb, hkb, hkeep⟩ : ∃ kb, keptB keep 0 = kb ∧ ((kb = false ∧ decide (keep < 0) = true ∧ decide (0 ≤ keep) = false) ∨ (kb = false ∧ decide (keep < 0) = false ∧ decide (0 ≤ keep) = true ∧ bits .and .i64 keep 1 = 0) ∨ (kb = true ∧ decide (keep < 0) = false ∧ decide (0 ≤ keep) = true ∧ bits .and .i64 keep 1 = 1)) := by
                  rw [keptB_zero]
                  by_cases hk0 : keep < 0
                  · exact ⟨_, if_pos hk0, .inl ⟨rfl, by simpa using hk0, by simp; omega⟩⟩
                  · rw [if_neg hk0]
                    rcases bits1 keep with hbt | hbt
                    · exact ⟨false, by rw [hbt]; rfl, .inr (.inl ⟨rfl, by simpa using hk0, by simp; omega, hbt⟩)⟩
                    · exact ⟨true, by rw [hbt]; rfl, .inr (.inr ⟨rfl, by simpa using hk0, by simp; omega, hbt⟩)⟩
                have hrd := fun i hi => fen_read HF.out HLS.out keep i hi
                obtain ⟨M5, hM5⟩ : ∃ M5, (fst4 M3 k 8).crash keep = M5 := ⟨_, rfl⟩
                rw [hM5, hkb] at hrd
                have hf := hrd (8 * k) (by omega)
                obtain ⟨x, hx⟩ : ∃ x, loadV M5 (8 * (k : Int)) = x := ⟨_, rfl⟩
                have hp0 : placeV M5.n (8 * (k : Int)) = 0 := hf.2
                have hx1 : kb = true → x = 1000 := by
                  intro hh
                  rw [← hx]
                  have h8 : loadV M5 (8 * (k : Int)) = _ := hf.1
                  rw [h8, if_pos ⟨by omega, hh⟩]
                  have : 8 * k % 8 = 0 := by omega
                  rw [this]
                  rfl
                obtain ⟨bx, hbx⟩ : ∃ bx, (x == 1000) = bx := ⟨_, rfl⟩
                have hcase : (bx = true ∨ bx = false) ∧ (kb = true → bx = true) := ⟨by cases bx <;> simp, fun h => by rw [← hbx, hx1 h]; rfl⟩
                have HX := Lib.hid hx
                have HP0 := Lib.hid hp0
                have HRD := Lib.hid hrd
                have G4 : Hid (∀ w4, Live w w4 p ((fst4 M3 k 8).crash keep) → Live w w4 p M5) := Lib.hid (by rw [hM5]; exact fun _ h => h)
                clear hrd hf hx hp0 hx1 hkb hM5
                have hall : (kb = false ∧ bx = true ∧ decide (keep < 0) = true ∧ decide (0 ≤ keep) = false) ∨ (kb = false ∧ bx = false ∧ decide (keep < 0) = true ∧ decide (0 ≤ keep) = false) ∨ (kb = false ∧ bx = true ∧ decide (keep < 0) = false ∧ (decide (0 ≤ keep) = true ∧ bits .and .i64 keep 1 = 0)) ∨ (kb = false ∧ bx = false ∧ decide (keep < 0) = false ∧ (decide (0 ≤ keep) = true ∧ bits .and .i64 keep 1 = 0)) ∨ (kb = true ∧ bx = true ∧ decide (keep < 0) = false ∧ (decide (0 ≤ keep) = true ∧ bits .and .i64 keep 1 = 1)) := by
                  rcases hkeep with ⟨a1, a2, a3⟩ | ⟨a1, a2, a3, a4⟩ | ⟨a1, a2, a3, a4⟩
                  · rcases hcase.1 with h | h
                    · exact .inl ⟨a1, h, a2, a3⟩
                    · exact .inr (.inl ⟨a1, h, a2, a3⟩)
                  · rcases hcase.1 with h | h
                    · exact .inr (.inr (.inl ⟨a1, h, a2, a3, a4⟩))
                    · exact .inr (.inr (.inr (.inl ⟨a1, h, a2, a3, a4⟩)))
                  · exact .inr (.inr (.inr (.inr ⟨a1, hcase.2 a1, a2, a3, a4⟩)))
                clear hkeep hcase
                rcases hall with ⟨rfl, rfl, t1, t2⟩ | ⟨rfl, rfl, t1, t2⟩ | ⟨rfl, rfl, t1, t2, t3⟩ | ⟨rfl, rfl, t1, t2, t3⟩ | ⟨rfl, rfl, t1, t2, t3⟩
                all_goals
                  go_wp2_with fail
                  refine (crash_live HL.out keep).mono ?_
                  rintro e w4 ⟨rfl, g4⟩
                  have G5 := Lib.hid (G4.out w4 g4)
                  clear g4
                  go_wp2_with fail
                  refine (load_live G5.out (8 * (k : Int)) x 0 HX.out HP0.out).mono ?_
                  rintro e w5 ⟨rfl, rfl⟩
                  go_wp2_with fail
                  go_loop [15] (fun i => ∃ a : Nat, a ≤ 64 ∧ i = .int .i64 a) (fun i => 64 - (intOf i).toNat)
                  case atStart => exact ⟨0, by omega, rfl⟩
                  case round =>
                    obtain ⟨a, ha, rfl⟩ := hrel
                    by_cases hlt : a < 64
                    · have q5 : decide ((a : Int) < 64) = true := by simp; omega
                      obtain ⟨hv, hp⟩ := HRD.out a hlt
                      have HPA := Lib.hid hp
                      have hSa : S a = if a < n then val a else 0 := by
                        rw [← HS.out]
                        unfold cutV
                        have : (a < j ↔ a < n) := by omega
                        simp only [this]
                      rw [hSa] at hv
                      simp only [ite_kb_false, ite_kb_true, and_true] at hv
                      clear hp hSa
                      obtain ⟨r, hr8⟩ : ∃ r, a % 8 = r := ⟨_, rfl⟩
                      have e2 : (a : Int).tmod 8 = (r : Int) := by rw [← hr8]; rfl
                      try rw [hr8] at hv
                      have hr7 : r < 8 := by omega
                      obtain ⟨q, hqk⟩ : ∃ q, a / 8 = q := ⟨_, rfl⟩
                      have e1 : (a : Int).tdiv 8 = (q : Int) := by rw [← hqk]; rfl
                      try rw [hqk] at hv
                      have hq7 : q < 8 := by omega
                      clear hr8 hqk
                      by_cases hin : a < n
                      · have q6 : decide (a < n) = true := by simpa using hin
                        obtain ⟨g, off, rfl, hc⟩ := (HR.out.below G5.out.bel).int a hin
                        obtain ⟨y, hy⟩ : ∃ y, zs.getD a 0 = y := ⟨_, rfl⟩
                        rw [hy] at hc
                        have hvy : val a = IntKind.u64.wrap y := by
                          rw [← HVAL.out]
                          show IntKind.u64.wrap (zs.getD a 0) = _
                          rw [hy]
                        rw [if_pos hin, hvy] at hv
                        clear hy hvy
                        by_cases hik : q = k
                        · subst hik
                          try rw [if_pos rfl] at hv
                          have HV := Lib.hid hv
                          clear hv
                          go_wp2_with fail
                          refine (load_live G5.out (a : Int) _ 0 HV.out HPA.out).mono ?_
                          rintro e w6 ⟨rfl, rfl⟩
                          go_wp2_with (go_at_call 22; refine (num1_any _ _).mono ?_; rintro e w' ⟨rfl, rfl⟩)
                          exact ⟨⟨a + 1, by omega, by go_num⟩, by simp [intOf]; omega⟩
                        · have hq : ((q : Int) == (k : Int)) = false := by rw [beq_eq_false_iff_ne]; omega
                          try rw [if_neg hik] at hv
                          have HV := Lib.hid hv
                          clear hv
                          go_wp2_with fail
                          refine (load_live G5.out (a : Int) _ 0 HV.out HPA.out).mono ?_
                          rintro e w6 ⟨rfl, rfl⟩
                          go_wp2_with (go_at_call 22; refine (num1_any _ _).mono ?_; rintro e w' ⟨rfl, rfl⟩)
                          exact ⟨⟨a + 1, by omega, by go_num⟩, by simp [intOf]; omega⟩
                      · have q6 : decide (a < n) = false := by simpa using hin
                        rw [if_neg hin] at hv
                        by_cases hik : q = k
                        · subst hik
                          try rw [if_pos rfl] at hv
                          have HV := Lib.hid hv
                          clear hv
                          go_wp2_with fail
                          refine (load_live G5.out (a : Int) _ 0 HV.out HPA.out).mono ?_
                          rintro e w6 ⟨rfl, rfl⟩
                          go_wp2_with (go_at_call 22; refine (num1_any _ _).mono ?_; rintro e w' ⟨rfl, rfl⟩)
                          exact ⟨⟨a + 1, by omega, by go_num⟩, by simp [intOf]; omega⟩
                        · have hq : ((q : Int) == (k : Int)) = false := by rw [beq_eq_false_iff_ne]; omega
                          try rw [if_neg hik] at hv
                          have HV := Lib.hid hv
                          clear hv
                          go_wp2_with fail
                          refine (load_live G5.out (a : Int) _ 0 HV.out HPA.out).mono ?_
                          rintro e w6 ⟨rfl, rfl⟩
                          go_wp2_with (go_at_call 22; refine (num1_any _ _).mono ?_; rintro e w' ⟨rfl, rfl⟩)
                          exact ⟨⟨a + 1, by omega, by go_num⟩, by simp [intOf]; omega⟩
                    · obtain rfl : a = 64 := by omega
                      clear hlt
                      go_wp2_with (go_at_call 22; refine (num1_any _ _).mono ?_; rintro e w' ⟨rfl, rfl⟩)
                      go_ret
                      exact ⟨rfl, G5.out.bel⟩
end Go.Proofs.Ytbflennacniacaa
