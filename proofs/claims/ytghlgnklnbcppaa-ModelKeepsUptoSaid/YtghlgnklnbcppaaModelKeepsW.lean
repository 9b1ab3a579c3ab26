/- The law ModelKeeps: its walk (printed by wip/gen_keeps.py). -/
import Derived.Test.YtghlgnklnbcppaaAwake13
set_option linter.unusedVariables false
set_option linter.unusedSimpArgs false
namespace Go.Proofs.Ytghlgnklnbcppaa
open Go.RowKit
theorem byFdV_looks (s : St) (c : Ca) (h : c.kind = 4 ∨ c.kind = 7 ∨ c.kind = 15) : (byFdV s c).1 = s := by
  unfold byFdV
  repeat' (first | rfl | (exfalso; omega) | split)
theorem doV_looks (s : St) (c : Ca) (h : c.kind = 4 ∨ c.kind = 7 ∨ c.kind = 12 ∨ c.kind = 13 ∨ c.kind = 14 ∨ c.kind = 15 ∨ c.kind = 16) : (doV s c).1 = s := by
  show (doF s c (-1)).1 = s
  unfold doF
  repeat' (first | rfl | (exfalso; omega) | (exact byFdV_looks s c (by omega)) | split)
theorem doV_may (s : St) (c : Ca) (h : (doV s c).2.code = 0) : mayV (doV s c).1 = true := by
  cases hm : mayV s
  · have : doV s c = (s, { code := 9 }) := by unfold doV doF; rw [if_pos (.inl hm)]
    rw [this] at h
    cases h
  · exact may_doV s c hm
set_option maxRecDepth 100000 in
set_option maxHeartbeats 8000000 in
theorem modelKeeps_walk (v : Value) (s : St) (c : Ca) (w : World) (h : StAt none w v s) (hp1 : c.path.size ≤ 140737488355328) (hp2 : c.path2.size ≤ 140737488355328) (hds : c.data.size ≤ 140737488355328) :
    Calls Try.prog 6 #[v, caV c] w fun e w' => e = .returned (.bool true) ∧ Below w.heap.size w w' := by
  obtain ⟨A, n, c', E, m, d, D, k, e, rfl, _⟩ := h.at_
  obtain ⟨V1, hV1, hz1, ho1, hb1⟩ := box_s w (.slice A n c') (.slice E m d) (.slice D k e)
  obtain ⟨V2, hV2, hc2, hb2, hz2⟩ := box_ca V1 c
  obtain ⟨KD, hKD⟩ : ∃ KD, c.kind = KD := ⟨_, rfl⟩
  have hnm : (doV s c).2.names.length ≤ 1099511627776 := doV_names s c
  obtain ⟨R, hR⟩ : ∃ R, doV s c = R := ⟨_, rfl⟩
  have hfail := doV_fail s c
  have hlook := doV_looks s c
  have hmay := doV_may s c
  have hdo := fun u hu => mDo_any (.agg #[.slice A n c', .slice E m d, .slice D k e]) s c u hu hp1 hp2 hds
  simp only [hR] at hfail hlook hmay hdo hnm
  have HFAIL := Lib.hid hfail
  have HLOOK := Lib.hid hlook
  have HMAY := Lib.hid hmay
  have HNM := Lib.hid hnm
  rw [hz1] at hc2
  have hst0 := (h.below hb1).below hb2
  have hO0 := ho1.mv hb2
  have hB0 : Below w.heap.size w V2 := Cv.next hb1 hb2
  have HDO := Lib.hid hdo
  have HKD := Lib.hid hKD
  have HST := Lib.hid hst0
  have HO := Lib.hid hO0
  have HB := Lib.hid hB0
  have HC : Hid (V2.heap[w.heap.size + 1]? = _) := Lib.hid hc2
  unfold caV
  clear h hb1 hb2 hnm hR hfail hlook hmay hdo hst0 hO0 hB0 hKD hp1 hp2 hds hc2 ho1
  go_enter Try.func6, Try.ntmps6
  go_wp2_with fail
  refine (awake13 V2).mono ?_
  rintro e3 V3 ⟨rfl, hb3⟩
  have HST3 := Lib.hid (HST.out.below hb3)
  have HO3 := Lib.hid (HO.out.mv hb3)
  have HC3 : Hid (V3.heap[w.heap.size + 1]? = _) := Lib.hid ((hb3.block (w.heap.size + 1) (by omega)).trans HC.out)
  have HB3 := Lib.hid (Cv.next HB.out hb3)
  obtain ⟨o0, o1, o2, _⟩ := HO3.out.get
  have hc3 := HC3.out
  have hz3 := hb3.size
  clear hb3
  have k0 : V3.cell? ⟨w.heap.size + 1, 0, none⟩ = some (.int .i64 c.kind) := by rw [cell_of_row V3 _ _ _ _ (0, 0) hc3]; rfl
  have k1 : V3.cell? ⟨w.heap.size + 1, 1, none⟩ = some (.int .i64 c.core) := by rw [cell_of_row V3 _ _ _ _ (0, 0) hc3]; rfl
  have k2 : V3.cell? ⟨w.heap.size + 1, 2, none⟩ = some (.int .i64 c.fd) := by rw [cell_of_row V3 _ _ _ _ (0, 0) hc3]; rfl
  have k3 : V3.cell? ⟨w.heap.size + 1, 3, none⟩ = some (.int .i64 c.off) := by rw [cell_of_row V3 _ _ _ _ (0, 0) hc3]; rfl
  have k4 : V3.cell? ⟨w.heap.size + 1, 4, none⟩ = some (.int .i64 c.num) := by rw [cell_of_row V3 _ _ _ _ (0, 0) hc3]; rfl
  have k5 : V3.cell? ⟨w.heap.size + 1, 5, none⟩ = some (.string c.path) := by rw [cell_of_row V3 _ _ _ _ (0, 0) hc3]; rfl
  have k6 : V3.cell? ⟨w.heap.size + 1, 6, none⟩ = some (.string c.path2) := by rw [cell_of_row V3 _ _ _ _ (0, 0) hc3]; rfl
  have k7 : V3.cell? ⟨w.heap.size + 1, 7, none⟩ = some (.string c.data) := by rw [cell_of_row V3 _ _ _ _ (0, 0) hc3]; rfl
  clear hc3
  go_wp2_with fail
  refine (HDO.out V3 HST3.out).mono ?_
  rintro e4 x4 ⟨v', rv, rfl, hst4, ⟨F, f, f', rfl, hokF, hnF⟩, hb4⟩
  obtain ⟨A4, n4, c4, E4, m4, d4, D4, kk4, g4, rfl, -⟩ := hst4.at_
  obtain ⟨U1, V4, hU1, hU, hy1, hy, hoU, hrU, hbU⟩ := box_sr x4 (.slice A4 n4 c4) (.slice E4 m4 d4) (.slice D4 kk4 g4) R.2.code R.2.fd R.2.num R.2.dir R.2.data F f f'
  have hbb : Below V3.heap.size V3 V4 := Cv.next hb4 hbU
  have HST4 := Lib.hid (HST3.out.below hbb)
  have HO4 := Lib.hid (HO3.out.mv hbb)
  have HC4 : Hid (V4.heap[w.heap.size + 1]? = _) := Lib.hid ((hbb.block (w.heap.size + 1) (by omega)).trans HC3.out)
  have HB4 := Lib.hid (Cv.next HB3.out hbb)
  have HSR := Lib.hid (hst4.weak.below hbU)
  have HOR := Lib.hid hoU
  have HRR := Lib.hid hrU
  have HNR := Lib.hid (hnF.weak.below hbU)
  have HOK := Lib.hid hokF
  have hz4 := hbb.size
  obtain ⟨p0, p1, p2, _⟩ := HO4.out.get
  obtain ⟨q0, q1, q2, _⟩ := HOR.out.get
  obtain ⟨r0, r1, r2, r3, r4, r5, _⟩ := HRR.out.get
  have hc4 := HC4.out
  have l0 : V4.cell? ⟨w.heap.size + 1, 0, none⟩ = some (.int .i64 KD) := by rw [cell_of_row V4 _ _ _ _ (0, 0) hc4, ← HKD.out]; rfl
  clear hst4 hokF hnF hb4 hoU hrU hbU hbb hc4 k0 k1 k2 k3 k4 k5 k6 k7 o0 o1 o2
  obtain ⟨RC, hRC⟩ : ∃ RC, R.2.code = RC := ⟨_, rfl⟩
  have HRC := Lib.hid hRC
  by_cases hk0 : KD = 4
  · rw [hk0] at l0 HKD
    clear hk0
    by_cases hcode : RC = 0
    · have hR2 : R.2.code = 0 := hRC.trans hcode
      rw [hcode] at hRC
      rw [hRC] at r0 hU
      have HM2 := Lib.hid (HMAY.out hR2)
      have HL := Lib.hid (HLOOK.out (by rw [HKD.out]; omega))
      clear hcode hR2
      go_wp2_with fail
      refine (plain_any _ _ R.1 s V4 HSR.out HST4.out).mono ?_
      rintro e5 V5 ⟨rfl, hb5⟩
      rw [plainV_yes HL.out]
      have HSR5 := Lib.hid (HSR.out.below hb5)
      obtain ⟨s0, s1, s2, _⟩ := (HOR.out.mv hb5).get
      have HB5 := Lib.hid (Cv.next HB4.out hb5)
      clear hb5
      go_wp2_with fail
      refine (mmay_any _ R.1 V5 HSR5.out).mono ?_
      rintro e6 V6 ⟨rfl, hb6⟩
      rw [HM2.out]
      have HB6 := Lib.hid (Cv.next HB5.out hb6)
      clear hb6
      go_wp2_with fail
      go_ret
      exact ⟨rfl, HB6.out⟩
    · have hF := HFAIL.out (by rw [hRC]; exact hcode)
      have hR1 : R.1 = s := congrArg Prod.fst hF
      have HF2 := Lib.hid (show R.2 = { code := R.2.code } from congrArg Prod.snd hF)
      have HF1 := Lib.hid hR1
      have qc : (RC != 0) = true := by rw [bne_iff_ne]; exact hcode
      clear hF hR1 hcode
      rw [hRC] at r0 hU
      go_wp2_with fail
      refine (plain_any _ _ R.1 s V4 HSR.out HST4.out).mono ?_
      rintro e5 V5 ⟨rfl, hb5⟩
      rw [plainV_yes HF1.out]
      obtain ⟨t0, t1, t2, t3, t4, t5, _⟩ := (HRR.out.mv hb5).get
      rw [HRC.out] at t0
      have HB5 := Lib.hid (Cv.next HB4.out hb5)
      have HNR5 := Lib.hid (HNR.out.below hb5)
      clear hb5
      go_wp2_with fail
      have hsame := sameresult_any (.agg #[.int .i64 R.2.code, .int .i64 R.2.fd, .int .i64 R.2.num, .bool R.2.dir, .string R.2.data, .slice F f f']) (.agg #[.int .i64 RC, .int .i64 0, .int .i64 0, .bool false, .string ⟨#[]⟩, .slice none 0 0]) R.2 { code := RC } V5 ⟨F, f, f', rfl, HOK.out, HNR5.out⟩ (res_none none V5 RC 0 0 false ⟨#[]⟩) HNM.out (by show (0 : Nat) ≤ _; omega)
      rw [show sameR R.2 { code := RC } = true by rw [HF2.out, HRC.out]; exact sameR_self _, HRC.out] at hsame
      refine hsame.mono ?_
      clear hsame
      rintro e6 V6 ⟨rfl, hb6⟩
      have HB6 := Lib.hid (Cv.next HB5.out hb6)
      clear hb6
      go_wp2_with fail
      go_ret
      exact ⟨rfl, HB6.out⟩
  have x0 : (KD == 4) = false := by rw [beq_eq_false_iff_ne]; exact hk0
  clear hk0
  by_cases hk1 : KD = 7
  · rw [hk1] at l0 HKD
    clear x0
    clear hk1
    by_cases hcode : RC = 0
    · have hR2 : R.2.code = 0 := hRC.trans hcode
      rw [hcode] at hRC
      rw [hRC] at r0 hU
      have HM2 := Lib.hid (HMAY.out hR2)
      have HL := Lib.hid (HLOOK.out (by rw [HKD.out]; omega))
      clear hcode hR2
      go_wp2_with fail
      refine (plain_any _ _ R.1 s V4 HSR.out HST4.out).mono ?_
      rintro e5 V5 ⟨rfl, hb5⟩
      rw [plainV_yes HL.out]
      have HSR5 := Lib.hid (HSR.out.below hb5)
      obtain ⟨s0, s1, s2, _⟩ := (HOR.out.mv hb5).get
      have HB5 := Lib.hid (Cv.next HB4.out hb5)
      clear hb5
      go_wp2_with fail
      refine (mmay_any _ R.1 V5 HSR5.out).mono ?_
      rintro e6 V6 ⟨rfl, hb6⟩
      rw [HM2.out]
      have HB6 := Lib.hid (Cv.next HB5.out hb6)
      clear hb6
      go_wp2_with fail
      go_ret
      exact ⟨rfl, HB6.out⟩
    · have hF := HFAIL.out (by rw [hRC]; exact hcode)
      have hR1 : R.1 = s := congrArg Prod.fst hF
      have HF2 := Lib.hid (show R.2 = { code := R.2.code } from congrArg Prod.snd hF)
      have HF1 := Lib.hid hR1
      have qc : (RC != 0) = true := by rw [bne_iff_ne]; exact hcode
      clear hF hR1 hcode
      rw [hRC] at r0 hU
      go_wp2_with fail
      refine (plain_any _ _ R.1 s V4 HSR.out HST4.out).mono ?_
      rintro e5 V5 ⟨rfl, hb5⟩
      rw [plainV_yes HF1.out]
      obtain ⟨t0, t1, t2, t3, t4, t5, _⟩ := (HRR.out.mv hb5).get
      rw [HRC.out] at t0
      have HB5 := Lib.hid (Cv.next HB4.out hb5)
      have HNR5 := Lib.hid (HNR.out.below hb5)
      clear hb5
      go_wp2_with fail
      have hsame := sameresult_any (.agg #[.int .i64 R.2.code, .int .i64 R.2.fd, .int .i64 R.2.num, .bool R.2.dir, .string R.2.data, .slice F f f']) (.agg #[.int .i64 RC, .int .i64 0, .int .i64 0, .bool false, .string ⟨#[]⟩, .slice none 0 0]) R.2 { code := RC } V5 ⟨F, f, f', rfl, HOK.out, HNR5.out⟩ (res_none none V5 RC 0 0 false ⟨#[]⟩) HNM.out (by show (0 : Nat) ≤ _; omega)
      rw [show sameR R.2 { code := RC } = true by rw [HF2.out, HRC.out]; exact sameR_self _, HRC.out] at hsame
      refine hsame.mono ?_
      clear hsame
      rintro e6 V6 ⟨rfl, hb6⟩
      have HB6 := Lib.hid (Cv.next HB5.out hb6)
      clear hb6
      go_wp2_with fail
      go_ret
      exact ⟨rfl, HB6.out⟩
  have x1 : (KD == 7) = false := by rw [beq_eq_false_iff_ne]; exact hk1
  clear hk1
  by_cases hk2 : KD = 12
  · rw [hk2] at l0 HKD
    clear x0 x1
    clear hk2
    by_cases hcode : RC = 0
    · have hR2 : R.2.code = 0 := hRC.trans hcode
      rw [hcode] at hRC
      rw [hRC] at r0 hU
      have HM2 := Lib.hid (HMAY.out hR2)
      have HL := Lib.hid (HLOOK.out (by rw [HKD.out]; omega))
      clear hcode hR2
      go_wp2_with fail
      refine (plain_any _ _ R.1 s V4 HSR.out HST4.out).mono ?_
      rintro e5 V5 ⟨rfl, hb5⟩
      rw [plainV_yes HL.out]
      have HSR5 := Lib.hid (HSR.out.below hb5)
      obtain ⟨s0, s1, s2, _⟩ := (HOR.out.mv hb5).get
      have HB5 := Lib.hid (Cv.next HB4.out hb5)
      clear hb5
      go_wp2_with fail
      refine (mmay_any _ R.1 V5 HSR5.out).mono ?_
      rintro e6 V6 ⟨rfl, hb6⟩
      rw [HM2.out]
      have HB6 := Lib.hid (Cv.next HB5.out hb6)
      clear hb6
      go_wp2_with fail
      go_ret
      exact ⟨rfl, HB6.out⟩
    · have hF := HFAIL.out (by rw [hRC]; exact hcode)
      have hR1 : R.1 = s := congrArg Prod.fst hF
      have HF2 := Lib.hid (show R.2 = { code := R.2.code } from congrArg Prod.snd hF)
      have HF1 := Lib.hid hR1
      have qc : (RC != 0) = true := by rw [bne_iff_ne]; exact hcode
      clear hF hR1 hcode
      rw [hRC] at r0 hU
      go_wp2_with fail
      refine (plain_any _ _ R.1 s V4 HSR.out HST4.out).mono ?_
      rintro e5 V5 ⟨rfl, hb5⟩
      rw [plainV_yes HF1.out]
      obtain ⟨t0, t1, t2, t3, t4, t5, _⟩ := (HRR.out.mv hb5).get
      rw [HRC.out] at t0
      have HB5 := Lib.hid (Cv.next HB4.out hb5)
      have HNR5 := Lib.hid (HNR.out.below hb5)
      clear hb5
      go_wp2_with fail
      have hsame := sameresult_any (.agg #[.int .i64 R.2.code, .int .i64 R.2.fd, .int .i64 R.2.num, .bool R.2.dir, .string R.2.data, .slice F f f']) (.agg #[.int .i64 RC, .int .i64 0, .int .i64 0, .bool false, .string ⟨#[]⟩, .slice none 0 0]) R.2 { code := RC } V5 ⟨F, f, f', rfl, HOK.out, HNR5.out⟩ (res_none none V5 RC 0 0 false ⟨#[]⟩) HNM.out (by show (0 : Nat) ≤ _; omega)
      rw [show sameR R.2 { code := RC } = true by rw [HF2.out, HRC.out]; exact sameR_self _, HRC.out] at hsame
      refine hsame.mono ?_
      clear hsame
      rintro e6 V6 ⟨rfl, hb6⟩
      have HB6 := Lib.hid (Cv.next HB5.out hb6)
      clear hb6
      go_wp2_with fail
      go_ret
      exact ⟨rfl, HB6.out⟩
  have x2 : (KD == 12) = false := by rw [beq_eq_false_iff_ne]; exact hk2
  clear hk2
  by_cases hk3 : KD = 13
  · rw [hk3] at l0 HKD
    clear x0 x1 x2
    clear hk3
    by_cases hcode : RC = 0
    · have hR2 : R.2.code = 0 := hRC.trans hcode
      rw [hcode] at hRC
      rw [hRC] at r0 hU
      have HM2 := Lib.hid (HMAY.out hR2)
      have HL := Lib.hid (HLOOK.out (by rw [HKD.out]; omega))
      clear hcode hR2
      go_wp2_with fail
      refine (plain_any _ _ R.1 s V4 HSR.out HST4.out).mono ?_
      rintro e5 V5 ⟨rfl, hb5⟩
      rw [plainV_yes HL.out]
      have HSR5 := Lib.hid (HSR.out.below hb5)
      obtain ⟨s0, s1, s2, _⟩ := (HOR.out.mv hb5).get
      have HB5 := Lib.hid (Cv.next HB4.out hb5)
      clear hb5
      go_wp2_with fail
      refine (mmay_any _ R.1 V5 HSR5.out).mono ?_
      rintro e6 V6 ⟨rfl, hb6⟩
      rw [HM2.out]
      have HB6 := Lib.hid (Cv.next HB5.out hb6)
      clear hb6
      go_wp2_with fail
      go_ret
      exact ⟨rfl, HB6.out⟩
    · have hF := HFAIL.out (by rw [hRC]; exact hcode)
      have hR1 : R.1 = s := congrArg Prod.fst hF
      have HF2 := Lib.hid (show R.2 = { code := R.2.code } from congrArg Prod.snd hF)
      have HF1 := Lib.hid hR1
      have qc : (RC != 0) = true := by rw [bne_iff_ne]; exact hcode
      clear hF hR1 hcode
      rw [hRC] at r0 hU
      go_wp2_with fail
      refine (plain_any _ _ R.1 s V4 HSR.out HST4.out).mono ?_
      rintro e5 V5 ⟨rfl, hb5⟩
      rw [plainV_yes HF1.out]
      obtain ⟨t0, t1, t2, t3, t4, t5, _⟩ := (HRR.out.mv hb5).get
      rw [HRC.out] at t0
      have HB5 := Lib.hid (Cv.next HB4.out hb5)
      have HNR5 := Lib.hid (HNR.out.below hb5)
      clear hb5
      go_wp2_with fail
      have hsame := sameresult_any (.agg #[.int .i64 R.2.code, .int .i64 R.2.fd, .int .i64 R.2.num, .bool R.2.dir, .string R.2.data, .slice F f f']) (.agg #[.int .i64 RC, .int .i64 0, .int .i64 0, .bool false, .string ⟨#[]⟩, .slice none 0 0]) R.2 { code := RC } V5 ⟨F, f, f', rfl, HOK.out, HNR5.out⟩ (res_none none V5 RC 0 0 false ⟨#[]⟩) HNM.out (by show (0 : Nat) ≤ _; omega)
      rw [show sameR R.2 { code := RC } = true by rw [HF2.out, HRC.out]; exact sameR_self _, HRC.out] at hsame
      refine hsame.mono ?_
      clear hsame
      rintro e6 V6 ⟨rfl, hb6⟩
      have HB6 := Lib.hid (Cv.next HB5.out hb6)
      clear hb6
      go_wp2_with fail
      go_ret
      exact ⟨rfl, HB6.out⟩
  have x3 : (KD == 13) = false := by rw [beq_eq_false_iff_ne]; exact hk3
  clear hk3
  by_cases hk4 : KD = 14
  · rw [hk4] at l0 HKD
    clear x0 x1 x2 x3
    clear hk4
    by_cases hcode : RC = 0
    · have hR2 : R.2.code = 0 := hRC.trans hcode
      rw [hcode] at hRC
      rw [hRC] at r0 hU
      have HM2 := Lib.hid (HMAY.out hR2)
      have HL := Lib.hid (HLOOK.out (by rw [HKD.out]; omega))
      clear hcode hR2
      go_wp2_with fail
      refine (plain_any _ _ R.1 s V4 HSR.out HST4.out).mono ?_
      rintro e5 V5 ⟨rfl, hb5⟩
      rw [plainV_yes HL.out]
      have HSR5 := Lib.hid (HSR.out.below hb5)
      obtain ⟨s0, s1, s2, _⟩ := (HOR.out.mv hb5).get
      have HB5 := Lib.hid (Cv.next HB4.out hb5)
      clear hb5
      go_wp2_with fail
      refine (mmay_any _ R.1 V5 HSR5.out).mono ?_
      rintro e6 V6 ⟨rfl, hb6⟩
      rw [HM2.out]
      have HB6 := Lib.hid (Cv.next HB5.out hb6)
      clear hb6
      go_wp2_with fail
      go_ret
      exact ⟨rfl, HB6.out⟩
    · have hF := HFAIL.out (by rw [hRC]; exact hcode)
      have hR1 : R.1 = s := congrArg Prod.fst hF
      have HF2 := Lib.hid (show R.2 = { code := R.2.code } from congrArg Prod.snd hF)
      have HF1 := Lib.hid hR1
      have qc : (RC != 0) = true := by rw [bne_iff_ne]; exact hcode
      clear hF hR1 hcode
      rw [hRC] at r0 hU
      go_wp2_with fail
      refine (plain_any _ _ R.1 s V4 HSR.out HST4.out).mono ?_
      rintro e5 V5 ⟨rfl, hb5⟩
      rw [plainV_yes HF1.out]
      obtain ⟨t0, t1, t2, t3, t4, t5, _⟩ := (HRR.out.mv hb5).get
      rw [HRC.out] at t0
      have HB5 := Lib.hid (Cv.next HB4.out hb5)
      have HNR5 := Lib.hid (HNR.out.below hb5)
      clear hb5
      go_wp2_with fail
      have hsame := sameresult_any (.agg #[.int .i64 R.2.code, .int .i64 R.2.fd, .int .i64 R.2.num, .bool R.2.dir, .string R.2.data, .slice F f f']) (.agg #[.int .i64 RC, .int .i64 0, .int .i64 0, .bool false, .string ⟨#[]⟩, .slice none 0 0]) R.2 { code := RC } V5 ⟨F, f, f', rfl, HOK.out, HNR5.out⟩ (res_none none V5 RC 0 0 false ⟨#[]⟩) HNM.out (by show (0 : Nat) ≤ _; omega)
      rw [show sameR R.2 { code := RC } = true by rw [HF2.out, HRC.out]; exact sameR_self _, HRC.out] at hsame
      refine hsame.mono ?_
      clear hsame
      rintro e6 V6 ⟨rfl, hb6⟩
      have HB6 := Lib.hid (Cv.next HB5.out hb6)
      clear hb6
      go_wp2_with fail
      go_ret
      exact ⟨rfl, HB6.out⟩
  have x4 : (KD == 14) = false := by rw [beq_eq_false_iff_ne]; exact hk4
  clear hk4
  by_cases hk5 : KD = 15
  · rw [hk5] at l0 HKD
    clear x0 x1 x2 x3 x4
    clear hk5
    by_cases hcode : RC = 0
    · have hR2 : R.2.code = 0 := hRC.trans hcode
      rw [hcode] at hRC
      rw [hRC] at r0 hU
      have HM2 := Lib.hid (HMAY.out hR2)
      have HL := Lib.hid (HLOOK.out (by rw [HKD.out]; omega))
      clear hcode hR2
      go_wp2_with fail
      refine (plain_any _ _ R.1 s V4 HSR.out HST4.out).mono ?_
      rintro e5 V5 ⟨rfl, hb5⟩
      rw [plainV_yes HL.out]
      have HSR5 := Lib.hid (HSR.out.below hb5)
      obtain ⟨s0, s1, s2, _⟩ := (HOR.out.mv hb5).get
      have HB5 := Lib.hid (Cv.next HB4.out hb5)
      clear hb5
      go_wp2_with fail
      refine (mmay_any _ R.1 V5 HSR5.out).mono ?_
      rintro e6 V6 ⟨rfl, hb6⟩
      rw [HM2.out]
      have HB6 := Lib.hid (Cv.next HB5.out hb6)
      clear hb6
      go_wp2_with fail
      go_ret
      exact ⟨rfl, HB6.out⟩
    · have hF := HFAIL.out (by rw [hRC]; exact hcode)
      have hR1 : R.1 = s := congrArg Prod.fst hF
      have HF2 := Lib.hid (show R.2 = { code := R.2.code } from congrArg Prod.snd hF)
      have HF1 := Lib.hid hR1
      have qc : (RC != 0) = true := by rw [bne_iff_ne]; exact hcode
      clear hF hR1 hcode
      rw [hRC] at r0 hU
      go_wp2_with fail
      refine (plain_any _ _ R.1 s V4 HSR.out HST4.out).mono ?_
      rintro e5 V5 ⟨rfl, hb5⟩
      rw [plainV_yes HF1.out]
      obtain ⟨t0, t1, t2, t3, t4, t5, _⟩ := (HRR.out.mv hb5).get
      rw [HRC.out] at t0
      have HB5 := Lib.hid (Cv.next HB4.out hb5)
      have HNR5 := Lib.hid (HNR.out.below hb5)
      clear hb5
      go_wp2_with fail
      have hsame := sameresult_any (.agg #[.int .i64 R.2.code, .int .i64 R.2.fd, .int .i64 R.2.num, .bool R.2.dir, .string R.2.data, .slice F f f']) (.agg #[.int .i64 RC, .int .i64 0, .int .i64 0, .bool false, .string ⟨#[]⟩, .slice none 0 0]) R.2 { code := RC } V5 ⟨F, f, f', rfl, HOK.out, HNR5.out⟩ (res_none none V5 RC 0 0 false ⟨#[]⟩) HNM.out (by show (0 : Nat) ≤ _; omega)
      rw [show sameR R.2 { code := RC } = true by rw [HF2.out, HRC.out]; exact sameR_self _, HRC.out] at hsame
      refine hsame.mono ?_
      clear hsame
      rintro e6 V6 ⟨rfl, hb6⟩
      have HB6 := Lib.hid (Cv.next HB5.out hb6)
      clear hb6
      go_wp2_with fail
      go_ret
      exact ⟨rfl, HB6.out⟩
  have x5 : (KD == 15) = false := by rw [beq_eq_false_iff_ne]; exact hk5
  clear hk5
  by_cases hk6 : KD = 16
  · rw [hk6] at l0 HKD
    clear x0 x1 x2 x3 x4 x5
    clear hk6
    by_cases hcode : RC = 0
    · have hR2 : R.2.code = 0 := hRC.trans hcode
      rw [hcode] at hRC
      rw [hRC] at r0 hU
      have HM2 := Lib.hid (HMAY.out hR2)
      have HL := Lib.hid (HLOOK.out (by rw [HKD.out]; omega))
      clear hcode hR2
      go_wp2_with fail
      refine (plain_any _ _ R.1 s V4 HSR.out HST4.out).mono ?_
      rintro e5 V5 ⟨rfl, hb5⟩
      rw [plainV_yes HL.out]
      have HSR5 := Lib.hid (HSR.out.below hb5)
      obtain ⟨s0, s1, s2, _⟩ := (HOR.out.mv hb5).get
      have HB5 := Lib.hid (Cv.next HB4.out hb5)
      clear hb5
      go_wp2_with fail
      refine (mmay_any _ R.1 V5 HSR5.out).mono ?_
      rintro e6 V6 ⟨rfl, hb6⟩
      rw [HM2.out]
      have HB6 := Lib.hid (Cv.next HB5.out hb6)
      clear hb6
      go_wp2_with fail
      go_ret
      exact ⟨rfl, HB6.out⟩
    · have hF := HFAIL.out (by rw [hRC]; exact hcode)
      have hR1 : R.1 = s := congrArg Prod.fst hF
      have HF2 := Lib.hid (show R.2 = { code := R.2.code } from congrArg Prod.snd hF)
      have HF1 := Lib.hid hR1
      have qc : (RC != 0) = true := by rw [bne_iff_ne]; exact hcode
      clear hF hR1 hcode
      rw [hRC] at r0 hU
      go_wp2_with fail
      refine (plain_any _ _ R.1 s V4 HSR.out HST4.out).mono ?_
      rintro e5 V5 ⟨rfl, hb5⟩
      rw [plainV_yes HF1.out]
      obtain ⟨t0, t1, t2, t3, t4, t5, _⟩ := (HRR.out.mv hb5).get
      rw [HRC.out] at t0
      have HB5 := Lib.hid (Cv.next HB4.out hb5)
      have HNR5 := Lib.hid (HNR.out.below hb5)
      clear hb5
      go_wp2_with fail
      have hsame := sameresult_any (.agg #[.int .i64 R.2.code, .int .i64 R.2.fd, .int .i64 R.2.num, .bool R.2.dir, .string R.2.data, .slice F f f']) (.agg #[.int .i64 RC, .int .i64 0, .int .i64 0, .bool false, .string ⟨#[]⟩, .slice none 0 0]) R.2 { code := RC } V5 ⟨F, f, f', rfl, HOK.out, HNR5.out⟩ (res_none none V5 RC 0 0 false ⟨#[]⟩) HNM.out (by show (0 : Nat) ≤ _; omega)
      rw [show sameR R.2 { code := RC } = true by rw [HF2.out, HRC.out]; exact sameR_self _, HRC.out] at hsame
      refine hsame.mono ?_
      clear hsame
      rintro e6 V6 ⟨rfl, hb6⟩
      have HB6 := Lib.hid (Cv.next HB5.out hb6)
      clear hb6
      go_wp2_with fail
      go_ret
      exact ⟨rfl, HB6.out⟩
  have x6 : (KD == 16) = false := by rw [beq_eq_false_iff_ne]; exact hk6
  clear hk6
  by_cases hcode : RC = 0
  · have hR2 : R.2.code = 0 := hRC.trans hcode
    rw [hcode] at hRC
    rw [hRC] at r0 hU
    have HM2 := Lib.hid (HMAY.out hR2)
    clear hcode hR2
    go_wp2_with fail
    refine (mmay_any _ R.1 V4 HSR.out).mono ?_
    rintro e6 V6 ⟨rfl, hb6⟩
    rw [HM2.out]
    have HB6 := Lib.hid (Cv.next HB4.out hb6)
    clear hb6
    go_wp2_with fail
    go_ret
    exact ⟨rfl, HB6.out⟩
  · have hF := HFAIL.out (by rw [hRC]; exact hcode)
    have hR1 : R.1 = s := congrArg Prod.fst hF
    have HF2 := Lib.hid (show R.2 = { code := R.2.code } from congrArg Prod.snd hF)
    have HF1 := Lib.hid hR1
    have qc : (RC != 0) = true := by rw [bne_iff_ne]; exact hcode
    clear hF hR1 hcode
    rw [hRC] at r0 hU
    go_wp2_with fail
    refine (plain_any _ _ R.1 s V4 HSR.out HST4.out).mono ?_
    rintro e5 V5 ⟨rfl, hb5⟩
    rw [plainV_yes HF1.out]
    obtain ⟨t0, t1, t2, t3, t4, t5, _⟩ := (HRR.out.mv hb5).get
    rw [HRC.out] at t0
    have HB5 := Lib.hid (Cv.next HB4.out hb5)
    have HNR5 := Lib.hid (HNR.out.below hb5)
    clear hb5
    go_wp2_with fail
    have hsame := sameresult_any (.agg #[.int .i64 R.2.code, .int .i64 R.2.fd, .int .i64 R.2.num, .bool R.2.dir, .string R.2.data, .slice F f f']) (.agg #[.int .i64 RC, .int .i64 0, .int .i64 0, .bool false, .string ⟨#[]⟩, .slice none 0 0]) R.2 { code := RC } V5 ⟨F, f, f', rfl, HOK.out, HNR5.out⟩ (res_none none V5 RC 0 0 false ⟨#[]⟩) HNM.out (by show (0 : Nat) ≤ _; omega)
    rw [show sameR R.2 { code := RC } = true by rw [HF2.out, HRC.out]; exact sameR_self _, HRC.out] at hsame
    refine hsame.mono ?_
    clear hsame
    rintro e6 V6 ⟨rfl, hb6⟩
    have HB6 := Lib.hid (Cv.next HB5.out hb6)
    clear hb6
    go_wp2_with fail
    go_ret
    exact ⟨rfl, HB6.out⟩
end Go.Proofs.Ytghlgnklnbcppaa
