/- What the laws of chapter 13 ask of every program: awake (printed by wip/gen_awake13.py). -/
import Derived.Test.YtghlgnklnbcppaaM39
import Derived.Test.YtghlgnklnbcppaaM46
set_option linter.unusedVariables false
set_option linter.unusedSimpArgs false
namespace Go.Proofs.Ytghlgnklnbcppaa
open Go.RowKit
def stP : St := ⟨[⟨1, true, [⟨⟨#[97]⟩, 2⟩], ⟨#[]⟩⟩, ⟨2, false, [], ⟨#[]⟩⟩], [⟨0, 3, 2⟩], [1, 0]⟩
theorem a13_5 : allowsV stT cP ⟨0, 3, 0, false, ⟨#[]⟩, []⟩ = (stP, true) := by decide +kernel
set_option maxRecDepth 100000 in
set_option maxHeartbeats 8000000 in
theorem awake13 (w : World) : Calls Try.prog 15 #[] w fun e w' => e = .returned (.bool true) ∧ Below w.heap.size w w' := by
  go_enter Try.func15, Try.ntmps15
  go_wp2_with fail
  refine (mnew_any 2 (by omega) (by omega) w).mono ?_
  rintro e x0 ⟨v1, rfl, hst1, hb1⟩
  obtain ⟨A0, n0, c0, E0, m0, d0, D0, k0, e0, rfl, _⟩ := hst1.at_
  obtain ⟨w0, hV, hz, ho, hb⟩ := box_s x0 (.slice A0 n0 c0) (.slice E0 m0 d0) (.slice D0 k0 e0)
  have HB := Lib.hid (Cv.next hb1 hb)
  have HS0 := Lib.hid (hst1.weak.below hb)
  have HO0 := Lib.hid ho
  obtain ⟨i0, i1, i2, _⟩ := ho.get
  clear hst1 hb1 ho hb
  go_wp2_with fail
  refine (doC _ (newV 2) cA w0 HS0.out _ _ _ _ _ _ _ a13_1 (by decide) (by decide) (by decide)).mono ?_
  rintro e1 x1 ⟨A1, n1, c1, E1, m1, d1, D1, k1, g1, F1, f1, p1, rfl, hst, -, -, -, -, hb1⟩
  obtain ⟨V1, w1, hV1, hV, hz1, hz, ho, hr, hb⟩ := box_sr x1 (.slice A1 n1 c1) (.slice E1 m1 d1) (.slice D1 k1 g1) 0 0 0 false ⟨#[]⟩ F1 f1 p1
  have hbb : Below w0.heap.size w0 w1 := Cv.next hb1 hb
  have HO0 := Lib.hid (HO0.out.mv hbb)
  have HS0 := Lib.hid (HS0.out.below hbb)
  have HB := Lib.hid (Cv.next HB.out hbb)
  have HS1 := Lib.hid (hst.below hb)
  have HO1 := Lib.hid ho
  have HR1 := Lib.hid hr
  have hsz1 := hbb.size
  clear hst hb1 ho hr hb hbb
  obtain ⟨ta0, ta1, ta2, _⟩ := HO1.out.get
  go_wp2_with fail
  refine (doC _ stT cO w1 HS1.out _ _ _ _ _ _ _ a13_2 (by decide) (by decide) (by decide)).mono ?_
  rintro e2 x2 ⟨A2, n2, c2, E2, m2, d2, D2, k2, g2, F2, f2, p2, rfl, hst, -, -, -, -, hb1⟩
  obtain ⟨V1, w2, hV1, hV, hz1, hz, ho, hr, hb⟩ := box_sr x2 (.slice A2 n2 c2) (.slice E2 m2 d2) (.slice D2 k2 g2) 0 0 0 false ⟨#[]⟩ F2 f2 p2
  have hbb : Below w1.heap.size w1 w2 := Cv.next hb1 hb
  have HO0 := Lib.hid (HO0.out.mv hbb)
  have HO1 := Lib.hid (HO1.out.mv hbb)
  have HR1 := Lib.hid (HR1.out.mv hbb)
  have HS0 := Lib.hid (HS0.out.below hbb)
  have HS1 := Lib.hid (HS1.out.below hbb)
  have HB := Lib.hid (Cv.next HB.out hbb)
  have HS2 := Lib.hid (hst.below hb)
  have HO2 := Lib.hid ho
  have HR2 := Lib.hid hr
  have hsz2 := hbb.size
  clear hst hb1 ho hr hb hbb
  obtain ⟨ub0, ub1, ub2, _⟩ := HO2.out.get
  obtain ⟨uc0, uc1, uc2, uc3, uc4, uc5, _⟩ := HR2.out.get
  go_wp2_with fail
  refine (doC _ stU cW w2 HS2.out _ _ _ _ _ _ _ a13_3 (by decide) (by decide) (by decide)).mono ?_
  rintro e3 x3 ⟨A3, n3, c3, E3, m3, d3, D3, k3, g3, F3, f3, p3, rfl, hst, -, -, -, -, hb1⟩
  obtain ⟨V1, w3, hV1, hV, hz1, hz, ho, hr, hb⟩ := box_sr x3 (.slice A3 n3 c3) (.slice E3 m3 d3) (.slice D3 k3 g3) 0 0 2 false ⟨#[]⟩ F3 f3 p3
  have hbb : Below w2.heap.size w2 w3 := Cv.next hb1 hb
  have HO0 := Lib.hid (HO0.out.mv hbb)
  have HO1 := Lib.hid (HO1.out.mv hbb)
  have HR1 := Lib.hid (HR1.out.mv hbb)
  have HO2 := Lib.hid (HO2.out.mv hbb)
  have HR2 := Lib.hid (HR2.out.mv hbb)
  have HS0 := Lib.hid (HS0.out.below hbb)
  have HS1 := Lib.hid (HS1.out.below hbb)
  have HS2 := Lib.hid (HS2.out.below hbb)
  have HB := Lib.hid (Cv.next HB.out hbb)
  have HS3 := Lib.hid (hst.below hb)
  have HO3 := Lib.hid ho
  have HR3 := Lib.hid hr
  have hsz3 := hbb.size
  clear hst hb1 ho hr hb hbb
  obtain ⟨tb0, tb1, tb2, _⟩ := HO1.out.get
  go_wp2_with fail
  refine (doC _ stT cA w3 HS1.out _ _ _ _ _ _ _ a13_4 (by decide) (by decide) (by decide)).mono ?_
  rintro e4 x4 ⟨A4, n4, c4, E4, m4, d4, D4, k4, g4, F4, f4, p4, rfl, hst, -, -, -, -, hb1⟩
  obtain ⟨V1, w4, hV1, hV, hz1, hz, ho, hr, hb⟩ := box_sr x4 (.slice A4 n4 c4) (.slice E4 m4 d4) (.slice D4 k4 g4) 2 0 0 false ⟨#[]⟩ F4 f4 p4
  have hbb : Below w3.heap.size w3 w4 := Cv.next hb1 hb
  have HO0 := Lib.hid (HO0.out.mv hbb)
  have HO1 := Lib.hid (HO1.out.mv hbb)
  have HR1 := Lib.hid (HR1.out.mv hbb)
  have HO2 := Lib.hid (HO2.out.mv hbb)
  have HR2 := Lib.hid (HR2.out.mv hbb)
  have HO3 := Lib.hid (HO3.out.mv hbb)
  have HR3 := Lib.hid (HR3.out.mv hbb)
  have HS0 := Lib.hid (HS0.out.below hbb)
  have HS1 := Lib.hid (HS1.out.below hbb)
  have HS2 := Lib.hid (HS2.out.below hbb)
  have HS3 := Lib.hid (HS3.out.below hbb)
  have HB := Lib.hid (Cv.next HB.out hbb)
  have HS4 := Lib.hid (hst.below hb)
  have HO4 := Lib.hid ho
  have HR4 := Lib.hid hr
  have hsz4 := hbb.size
  clear hst hb1 ho hr hb hbb
  obtain ⟨tc0, tc1, tc2, _⟩ := HO1.out.get
  go_wp2_with fail
  have hal := mallows_any (.agg #[.slice A1 n1 c1, .slice E1 m1 d1, .slice D1 k1 g1]) _ stT cP ⟨0, 3, 0, false, ⟨#[]⟩, []⟩ w4 HS1.out (res_none none w4 0 3 0 false ⟨#[]⟩) (by decide) (by decide) (by decide) (by decide)
  rw [a13_5] at hal
  refine hal.mono ?_
  clear hal
  rintro e5 x5 ⟨v5, rfl, hst5, hb1⟩
  obtain ⟨A5, n5, c5, E5, m5, d5, D5, k5, g5, rfl, _, hD5, _⟩ := hst5.at_
  have hm5 : (1 : Nat) = m5 := hD5.1
  subst hm5
  obtain ⟨w5, hV, hz, ho, hb⟩ := box_s x5 (.slice A5 n5 c5) (.slice E5 1 d5) (.slice D5 k5 g5)
  have hbb : Below w4.heap.size w4 w5 := Cv.next (hb1) hb
  have HO0 := Lib.hid (HO0.out.mv hbb)
  have HO1 := Lib.hid (HO1.out.mv hbb)
  have HR1 := Lib.hid (HR1.out.mv hbb)
  have HO2 := Lib.hid (HO2.out.mv hbb)
  have HR2 := Lib.hid (HR2.out.mv hbb)
  have HO3 := Lib.hid (HO3.out.mv hbb)
  have HR3 := Lib.hid (HR3.out.mv hbb)
  have HO4 := Lib.hid (HO4.out.mv hbb)
  have HR4 := Lib.hid (HR4.out.mv hbb)
  have HS0 := Lib.hid (HS0.out.below hbb)
  have HS1 := Lib.hid (HS1.out.below hbb)
  have HS2 := Lib.hid (HS2.out.below hbb)
  have HS3 := Lib.hid (HS3.out.below hbb)
  have HS4 := Lib.hid (HS4.out.below hbb)
  have HB := Lib.hid (Cv.next HB.out hbb)
  have HO5 := Lib.hid ho
  clear hst5 hb1 ho hb hbb hD5
  obtain ⟨td0, td1, td2, _⟩ := HO1.out.get
  go_wp2_with fail
  have hfi := mFind_any (.agg #[.slice A1 n1 c1, .slice E1 m1 d1, .slice D1 k1 g1]) stT pA w5 HS1.out (by decide)
  rw [a13_6] at hfi
  refine hfi.mono ?_
  clear hfi
  rintro e6 w6 ⟨rfl, hb1⟩
  have HO0 := Lib.hid (HO0.out.mv hb1)
  have HO1 := Lib.hid (HO1.out.mv hb1)
  have HR1 := Lib.hid (HR1.out.mv hb1)
  have HO2 := Lib.hid (HO2.out.mv hb1)
  have HR2 := Lib.hid (HR2.out.mv hb1)
  have HO3 := Lib.hid (HO3.out.mv hb1)
  have HR3 := Lib.hid (HR3.out.mv hb1)
  have HO4 := Lib.hid (HO4.out.mv hb1)
  have HR4 := Lib.hid (HR4.out.mv hb1)
  have HO5 := Lib.hid (HO5.out.mv hb1)
  have HS0 := Lib.hid (HS0.out.below hb1)
  have HS1 := Lib.hid (HS1.out.below hb1)
  have HS2 := Lib.hid (HS2.out.below hb1)
  have HS3 := Lib.hid (HS3.out.below hb1)
  have HS4 := Lib.hid (HS4.out.below hb1)
  have HB := Lib.hid (Cv.next HB.out hb1)
  clear hb1
  go_wp2_with fail
  refine (mnew_bad 0 (by omega) w6).mono ?_
  rintro e7 x7 ⟨rfl, hb1⟩
  go_wp2_with fail
  obtain ⟨w7, hV, hz, ho, hb⟩ := box_s x7 (.slice none 0 0) (.slice none 0 0) (.slice none 0 0)
  have hbb : Below w6.heap.size w6 w7 := Cv.next hb1 hb
  have HO0 := Lib.hid (HO0.out.mv hbb)
  have HO1 := Lib.hid (HO1.out.mv hbb)
  have HR1 := Lib.hid (HR1.out.mv hbb)
  have HO2 := Lib.hid (HO2.out.mv hbb)
  have HR2 := Lib.hid (HR2.out.mv hbb)
  have HO3 := Lib.hid (HO3.out.mv hbb)
  have HR3 := Lib.hid (HR3.out.mv hbb)
  have HO4 := Lib.hid (HO4.out.mv hbb)
  have HR4 := Lib.hid (HR4.out.mv hbb)
  have HO5 := Lib.hid (HO5.out.mv hbb)
  have HS0 := Lib.hid (HS0.out.below hbb)
  have HS1 := Lib.hid (HS1.out.below hbb)
  have HS2 := Lib.hid (HS2.out.below hbb)
  have HS3 := Lib.hid (HS3.out.below hbb)
  have HS4 := Lib.hid (HS4.out.below hbb)
  have HB := Lib.hid (Cv.next HB.out hbb)
  clear hb1 ho hb hbb
  obtain ⟨te0, te1, te2, _⟩ := HO1.out.get
  obtain ⟨ra0, ra1, ra2, ra3, ra4, ra5, _⟩ := HR1.out.get
  obtain ⟨rb0, rb1, rb2, rb3, rb4, rb5, _⟩ := HR2.out.get
  obtain ⟨rc0, rc1, rc2, rc3, rc4, rc5, _⟩ := HR3.out.get
  obtain ⟨rd0, rd1, rd2, rd3, rd4, rd5, _⟩ := HR4.out.get
  obtain ⟨va0, va1, va2, _⟩ := HO5.out.get
  rw [hV]
  refine (numC 0 w7).mono ?_
  rintro e8 w8 ⟨rfl, rfl⟩
  go_wp2_with fail
  have hli := mlinks_any (.agg #[.slice A1 n1 c1, .slice E1 m1 d1, .slice D1 k1 g1]) stT 2 w7 HS1.out
  rw [a13_8] at hli
  refine hli.mono ?_
  clear hli
  rintro e9 w9 ⟨rfl, hb1⟩
  have HO0 := Lib.hid (HO0.out.mv hb1)
  have HO1 := Lib.hid (HO1.out.mv hb1)
  have HR1 := Lib.hid (HR1.out.mv hb1)
  have HO2 := Lib.hid (HO2.out.mv hb1)
  have HR2 := Lib.hid (HR2.out.mv hb1)
  have HO3 := Lib.hid (HO3.out.mv hb1)
  have HR3 := Lib.hid (HR3.out.mv hb1)
  have HO4 := Lib.hid (HO4.out.mv hb1)
  have HR4 := Lib.hid (HR4.out.mv hb1)
  have HO5 := Lib.hid (HO5.out.mv hb1)
  have HS0 := Lib.hid (HS0.out.below hb1)
  have HS1 := Lib.hid (HS1.out.below hb1)
  have HS2 := Lib.hid (HS2.out.below hb1)
  have HS3 := Lib.hid (HS3.out.below hb1)
  have HS4 := Lib.hid (HS4.out.below hb1)
  have HB := Lib.hid (Cv.next HB.out hb1)
  clear hb1
  obtain ⟨tf0, tf1, tf2, _⟩ := HO1.out.get
  go_wp2_with fail
  refine (numC 1300 w9).mono ?_
  rintro e10 w10 ⟨rfl, rfl⟩
  go_wp2_with fail
  have hma := mmay_any (.agg #[.slice A1 n1 c1, .slice E1 m1 d1, .slice D1 k1 g1]) stT w9 HS1.out
  rw [a13_7] at hma
  refine hma.mono ?_
  clear hma
  rintro e11 w11 ⟨rfl, hb1⟩
  have HB := Lib.hid (Cv.next HB.out hb1)
  clear hb1
  go_wp2_with fail
  go_ret
  exact ⟨rfl, HB.out⟩
end Go.Proofs.Ytghlgnklnbcppaa
