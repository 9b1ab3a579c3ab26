/- The law ModelLinked: its walk (printed by wip/gen_linked.py). -/
import Derived.Test.YtndcloohcfhejaaGreatM43
set_option linter.unusedVariables false
set_option linter.unusedSimpArgs false
namespace Go.Proofs.YtndcloohcfhejaaGreat
open Go.RowKit
set_option maxRecDepth 100000 in
set_option maxHeartbeats 8000000 in
theorem modelLinked_false_false (w : World) : Calls Tryz.prog 5 #[.bool false, .bool false] w fun e w' => e = .returned (.bool true) ∧ Below w.heap.size w w' := by
 go_enter Tryz.func5, Tryz.ntmps5
 go_wp2_with fail
 refine (awake13 _).mono ?_
 rintro ea V1 ⟨rfl, hb1⟩
 have HB := Lib.hid hb1
 have hw1 := hb1.size
 clear hb1
 go_wp2_with fail
 refine (made_one V1).mono ?_
 rintro eb x0 ⟨v0, rfl, hst, hb1⟩
 obtain ⟨A0, n0, c0, E0, m0, d0, D0, k0, g0, rfl, hI0, -⟩ := hst.at_
 obtain ⟨w0, hV0, hyz0, ho, hb⟩ := box_s x0 (.slice A0 n0 c0) (.slice E0 m0 d0) (.slice D0 k0 g0)
 have HB := Lib.hid (Cv.next HB.out (Cv.next hb1 hb))
 have HS0 := Lib.hid ((hst.lower (Nat.zero_le _)).below hb)
 have hxz0 := hb1.size
 have HO0 := Lib.hid ho
 have HN0 := Lib.hid hI0.1
 clear hst hb1 ho hb hI0
 obtain ⟨i0, i1, i2, _⟩ := HO0.out.get
 go_wp2_with fail
 have hdo := mDo_any (.agg #[.slice A0 n0 c0, .slice E0 m0 d0, .slice D0 k0 g0]) (madeV 1) ⟨14, 0, 0, 0, 0, ⟨#[47, 102]⟩, ⟨#[]⟩, ⟨#[]⟩⟩ w0 HS0.out.weak (by decide) (by decide) (by decide)
 obtain ⟨R1, hR1⟩ : ∃ R, doV (madeV 1) ⟨14, 0, 0, 0, 0, ⟨#[47, 102]⟩, ⟨#[]⟩, ⟨#[]⟩⟩ = R := ⟨_, rfl⟩
 rw [hR1] at hdo
 have HR1E := Lib.hid hR1
 refine hdo.mono ?_
 clear hdo hR1
 rintro e1 x1 ⟨v1, rv1, rfl, hst, ⟨F1, f1, p1, rfl, hokF, hnF⟩, hb1⟩
 obtain ⟨A1, n1, c1, E1, m1, d1, D1, k1, g1, rfl, hIk, hDk, -⟩ := hst.at_
 obtain ⟨U1, w1, hU1, hV1, hy1, hyz1, ho, hr, hb⟩ := box_sr x1 (.slice A1 n1 c1) (.slice E1 m1 d1) (.slice D1 k1 g1) R1.2.code R1.2.fd R1.2.num R1.2.dir R1.2.data F1 f1 p1
 have hbb : Below w0.heap.size w0 w1 := Cv.next hb1 hb
 replace HO0 := Lib.hid (HO0.out.mv hbb)
 replace HS0 := Lib.hid (HS0.out.below hbb)
 replace HB := Lib.hid (Cv.next HB.out hbb)
 clear i0 i1 i2
 have hxz1 := hb1.size
 have HR1 := Lib.hid hr
 have hsz1 := hbb.size
 clear hst hb1 ho hr hb hbb hokF hnF hIk hDk
 obtain ⟨i0, i1, i2, _⟩ := HO0.out.get
 go_wp2_with fail
 have hdo := mDo_any (.agg #[.slice A0 n0 c0, .slice E0 m0 d0, .slice D0 k0 g0]) (madeV 1) ⟨9, 0, 0, 0, 0, ⟨#[47, 102]⟩, ⟨#[]⟩, ⟨#[]⟩⟩ w1 HS0.out.weak (by decide) (by decide) (by decide)
 obtain ⟨R2, hR2⟩ : ∃ R, doV (madeV 1) ⟨9, 0, 0, 0, 0, ⟨#[47, 102]⟩, ⟨#[]⟩, ⟨#[]⟩⟩ = R := ⟨_, rfl⟩
 rw [hR2] at hdo
 have HR2E := Lib.hid hR2
 refine hdo.mono ?_
 clear hdo hR2
 rintro e2 x2 ⟨v2, rv2, rfl, hst, ⟨F2, f2, p2, rfl, hokF, hnF⟩, hb1⟩
 obtain ⟨A2, n2, c2, E2, m2, d2, D2, k2, g2, rfl, hIk, hDk, -⟩ := hst.at_
 obtain ⟨U2, w2, hU2, hV2, hy1, hyz2, ho, hr, hb⟩ := box_sr x2 (.slice A2 n2 c2) (.slice E2 m2 d2) (.slice D2 k2 g2) R2.2.code R2.2.fd R2.2.num R2.2.dir R2.2.data F2 f2 p2
 have hbb : Below w1.heap.size w1 w2 := Cv.next hb1 hb
 replace HO0 := Lib.hid (HO0.out.mv hbb)
 replace HR1 := Lib.hid (HR1.out.mv hbb)
 replace HS0 := Lib.hid (HS0.out.below hbb)
 replace HB := Lib.hid (Cv.next HB.out hbb)
 clear i0 i1 i2
 have HS2 := Lib.hid ((hst.lower (Nat.zero_le _)).below hb)
 have hxz2 := hb1.size
 have HO2 := Lib.hid ho
 have HR2 := Lib.hid hr
 have hsz2 := hbb.size
 clear hst hb1 ho hr hb hbb hokF hnF hIk hDk
 obtain ⟨t0, t1, t2, _⟩ := HO2.out.get
 go_wp2_with fail
 replace HS2 : Hid (StAt (some 0) w2 (.agg #[.slice A2 n2 c2, .slice E2 m2 d2, .slice D2 k2 g2]) (linkedT false)) := Lib.hid (by have h := HS2.out; rw [← HR2E.out] at h; exact h)
 have hdo := mDo_any (.agg #[.slice A2 n2 c2, .slice E2 m2 d2, .slice D2 k2 g2]) (linkedT false) ⟨14, 0, 0, 0, 0, ⟨#[47, 103]⟩, ⟨#[]⟩, ⟨#[]⟩⟩ w2 HS2.out.weak (by decide) (by decide) (by decide)
 obtain ⟨R3, hR3⟩ : ∃ R, doV (linkedT false) ⟨14, 0, 0, 0, 0, ⟨#[47, 103]⟩, ⟨#[]⟩, ⟨#[]⟩⟩ = R := ⟨_, rfl⟩
 rw [hR3] at hdo
 have HR3E := Lib.hid hR3
 refine hdo.mono ?_
 clear hdo hR3
 rintro e3 x3 ⟨v3, rv3, rfl, hst, ⟨F3, f3, p3, rfl, hokF, hnF⟩, hb1⟩
 obtain ⟨A3, n3, c3, E3, m3, d3, D3, k3, g3, rfl, hIk, hDk, -⟩ := hst.at_
 obtain ⟨U3, w3, hU3, hV3, hy1, hyz3, ho, hr, hb⟩ := box_sr x3 (.slice A3 n3 c3) (.slice E3 m3 d3) (.slice D3 k3 g3) R3.2.code R3.2.fd R3.2.num R3.2.dir R3.2.data F3 f3 p3
 have hbb : Below w2.heap.size w2 w3 := Cv.next hb1 hb
 replace HO0 := Lib.hid (HO0.out.mv hbb)
 replace HR1 := Lib.hid (HR1.out.mv hbb)
 replace HO2 := Lib.hid (HO2.out.mv hbb)
 replace HR2 := Lib.hid (HR2.out.mv hbb)
 replace HS0 := Lib.hid (HS0.out.below hbb)
 replace HS2 := Lib.hid (HS2.out.below hbb)
 replace HB := Lib.hid (Cv.next HB.out hbb)
 clear t0 t1 t2
 have hxz3 := hb1.size
 have HR3 := Lib.hid hr
 have hsz3 := hbb.size
 clear hst hb1 ho hr hb hbb hokF hnF hIk hDk
 obtain ⟨t0, t1, t2, _⟩ := HO2.out.get
 go_wp2_with fail
 clear t0 t1 t2
 obtain ⟨t0, t1, t2, _⟩ := HO2.out.get
 replace HS2 : Hid (StAt (some 0) w3 (.agg #[.slice A2 n2 c2, .slice E2 m2 d2, .slice D2 k2 g2]) (linkedO false false)) := HS2
 have hdo := mDo_any (.agg #[.slice A2 n2 c2, .slice E2 m2 d2, .slice D2 k2 g2]) (linkedO false false) ⟨9, 0, 0, 0, 0, ⟨#[47, 103]⟩, ⟨#[]⟩, ⟨#[]⟩⟩ w3 HS2.out.weak (by decide) (by decide) (by decide)
 obtain ⟨R4, hR4⟩ : ∃ R, doV (linkedO false false) ⟨9, 0, 0, 0, 0, ⟨#[47, 103]⟩, ⟨#[]⟩, ⟨#[]⟩⟩ = R := ⟨_, rfl⟩
 rw [hR4] at hdo
 have HR4E := Lib.hid hR4
 refine hdo.mono ?_
 clear hdo hR4
 rintro e4 x4 ⟨v4, rv4, rfl, hst, ⟨F4, f4, p4, rfl, hokF, hnF⟩, hb1⟩
 obtain ⟨A4, n4, c4, E4, m4, d4, D4, k4, g4, rfl, hIk, hDk, -⟩ := hst.at_
 obtain ⟨U4, w4, hU4, hV4, hy1, hyz4, ho, hr, hb⟩ := box_sr x4 (.slice A4 n4 c4) (.slice E4 m4 d4) (.slice D4 k4 g4) R4.2.code R4.2.fd R4.2.num R4.2.dir R4.2.data F4 f4 p4
 have hbb : Below w3.heap.size w3 w4 := Cv.next hb1 hb
 replace HO0 := Lib.hid (HO0.out.mv hbb)
 replace HR1 := Lib.hid (HR1.out.mv hbb)
 replace HO2 := Lib.hid (HO2.out.mv hbb)
 replace HR2 := Lib.hid (HR2.out.mv hbb)
 replace HR3 := Lib.hid (HR3.out.mv hbb)
 replace HS0 := Lib.hid (HS0.out.below hbb)
 replace HS2 := Lib.hid (HS2.out.below hbb)
 replace HB := Lib.hid (Cv.next HB.out hbb)
 clear t0 t1 t2
 have HS4 := Lib.hid ((hst.lower (Nat.zero_le _)).below hb)
 have hxz4 := hb1.size
 have HO4 := Lib.hid ho
 have HR4 := Lib.hid hr
 have HN4 := Lib.hid hIk.1
 have hsz4 := hbb.size
 clear hst hb1 ho hr hb hbb hokF hnF hIk hDk
 obtain ⟨u0, u1, u2, _⟩ := HO4.out.get
 replace HS4 : Hid (StAt (some 0) w4 (.agg #[.slice A4 n4 c4, .slice E4 m4 d4, .slice D4 k4 g4]) (linkedU false false)) := Lib.hid (by have h := HS4.out; rw [← HR4E.out] at h; exact h)
 go_wp2_with fail
 have hdo := mDo_any (.agg #[.slice A4 n4 c4, .slice E4 m4 d4, .slice D4 k4 g4]) (linkedU false false) ⟨4, 0, 0, 0, 10, ⟨#[]⟩, ⟨#[]⟩, ⟨#[]⟩⟩ w4 HS4.out.weak (by decide) (by decide) (by decide)
 obtain ⟨R5, hR5⟩ : ∃ R, doV (linkedU false false) ⟨4, 0, 0, 0, 10, ⟨#[]⟩, ⟨#[]⟩, ⟨#[]⟩⟩ = R := ⟨_, rfl⟩
 rw [hR5] at hdo
 have HR5E := Lib.hid hR5
 refine hdo.mono ?_
 clear hdo hR5
 rintro e5 x5 ⟨v5, rv5, rfl, hst, ⟨F5, f5, p5, rfl, hokF, hnF⟩, hb1⟩
 obtain ⟨A5, n5, c5, E5, m5, d5, D5, k5, g5, rfl, hIk, hDk, -⟩ := hst.at_
 obtain ⟨U5, w5, hU5, hV5, hy1, hyz5, ho, hr, hb⟩ := box_sr x5 (.slice A5 n5 c5) (.slice E5 m5 d5) (.slice D5 k5 g5) R5.2.code R5.2.fd R5.2.num R5.2.dir R5.2.data F5 f5 p5
 have hbb : Below w4.heap.size w4 w5 := Cv.next hb1 hb
 replace HO0 := Lib.hid (HO0.out.mv hbb)
 replace HR1 := Lib.hid (HR1.out.mv hbb)
 replace HO2 := Lib.hid (HO2.out.mv hbb)
 replace HR2 := Lib.hid (HR2.out.mv hbb)
 replace HR3 := Lib.hid (HR3.out.mv hbb)
 replace HO4 := Lib.hid (HO4.out.mv hbb)
 replace HR4 := Lib.hid (HR4.out.mv hbb)
 replace HS0 := Lib.hid (HS0.out.below hbb)
 replace HS2 := Lib.hid (HS2.out.below hbb)
 replace HS4 := Lib.hid (HS4.out.below hbb)
 replace HB := Lib.hid (Cv.next HB.out hbb)
 clear u0 u1 u2
 have hxz5 := hb1.size
 have HR5 := Lib.hid hr
 have hsz5 := hbb.size
 clear hst hb1 ho hr hb hbb hokF hnF hIk hDk
 have f1 : R1.2.num = 2 := by rw [← HR1E.out]; exact linked_x false
 have f2 : R2.2.code = 0 := by rw [← HR2E.out]; exact linked_r false
 have f3 : R3.2.num = 1 := by rw [← HR3E.out]; exact linked_y false
 have fu : R4.2.code = 0 := by rw [← HR4E.out]; exact linked_q false false
 have fz : R5.2.code = 0 := by rw [← HR5E.out]; exact linked_z false false
 have fn : n4 = 5 := by have h := HN4.out; rw [← HR4E.out] at h; exact h.symm.trans (linked_n false false)
 have fm : n0 = 5 := HN0.out.symm
 subst fn fm
 obtain ⟨ra0, ra1, ra2, ra3, ra4, ra5, _⟩ := HR1.out.get
 rw [f1] at ra2
 obtain ⟨rb0, rb1, rb2, rb3, rb4, rb5, _⟩ := HR2.out.get
 rw [f2] at rb0
 obtain ⟨rc0, rc1, rc2, rc3, rc4, rc5, _⟩ := HR3.out.get
 rw [f3] at rc2
 obtain ⟨rd0, rd1, rd2, rd3, rd4, rd5, _⟩ := HR4.out.get
 rw [fu] at rd0
 obtain ⟨re0, re1, re2, re3, re4, re5, _⟩ := HR5.out.get
 rw [fz] at re0
 obtain ⟨u0, u1, u2, _⟩ := HO4.out.get
 obtain ⟨i0, i1, i2, _⟩ := HO0.out.get
 clear f1 f2 f3 fu fz
 go_wp2_with fail
 have hcode := code13_any (.agg #[.slice A4 5 c4, .slice E4 m4 d4, .slice D4 k4 g4]) (linkedU false false) ⟨13, 0, 0, 0, 0, ⟨#[47, 103]⟩, ⟨#[]⟩, ⟨#[]⟩⟩ w5 HS4.out.weak (by decide) (by decide) (by decide)
 rw [show (doV (linkedU false false) ⟨13, 0, 0, 0, 0, ⟨#[47, 103]⟩, ⟨#[]⟩, ⟨#[]⟩⟩).2.code = 1 from linked_s false false] at hcode
 refine hcode.mono ?_
 clear hcode
 rintro ez wz ⟨rfl, hbz⟩
 replace HB := Lib.hid (Cv.next HB.out hbz)
 clear hbz
 go_wp2_with fail
 go_ret
 exact ⟨rfl, HB.out⟩
set_option maxRecDepth 100000 in
set_option maxHeartbeats 8000000 in
theorem modelLinked_false_true (w : World) : Calls Tryz.prog 5 #[.bool false, .bool true] w fun e w' => e = .returned (.bool true) ∧ Below w.heap.size w w' := by
 go_enter Tryz.func5, Tryz.ntmps5
 go_wp2_with fail
 refine (awake13 _).mono ?_
 rintro ea V1 ⟨rfl, hb1⟩
 have HB := Lib.hid hb1
 have hw1 := hb1.size
 clear hb1
 go_wp2_with fail
 refine (made_one V1).mono ?_
 rintro eb x0 ⟨v0, rfl, hst, hb1⟩
 obtain ⟨A0, n0, c0, E0, m0, d0, D0, k0, g0, rfl, hI0, -⟩ := hst.at_
 obtain ⟨w0, hV0, hyz0, ho, hb⟩ := box_s x0 (.slice A0 n0 c0) (.slice E0 m0 d0) (.slice D0 k0 g0)
 have HB := Lib.hid (Cv.next HB.out (Cv.next hb1 hb))
 have HS0 := Lib.hid ((hst.lower (Nat.zero_le _)).below hb)
 have hxz0 := hb1.size
 have HO0 := Lib.hid ho
 have HN0 := Lib.hid hI0.1
 clear hst hb1 ho hb hI0
 obtain ⟨i0, i1, i2, _⟩ := HO0.out.get
 go_wp2_with fail
 have hdo := mDo_any (.agg #[.slice A0 n0 c0, .slice E0 m0 d0, .slice D0 k0 g0]) (madeV 1) ⟨14, 0, 0, 0, 0, ⟨#[47, 102]⟩, ⟨#[]⟩, ⟨#[]⟩⟩ w0 HS0.out.weak (by decide) (by decide) (by decide)
 obtain ⟨R1, hR1⟩ : ∃ R, doV (madeV 1) ⟨14, 0, 0, 0, 0, ⟨#[47, 102]⟩, ⟨#[]⟩, ⟨#[]⟩⟩ = R := ⟨_, rfl⟩
 rw [hR1] at hdo
 have HR1E := Lib.hid hR1
 refine hdo.mono ?_
 clear hdo hR1
 rintro e1 x1 ⟨v1, rv1, rfl, hst, ⟨F1, f1, p1, rfl, hokF, hnF⟩, hb1⟩
 obtain ⟨A1, n1, c1, E1, m1, d1, D1, k1, g1, rfl, hIk, hDk, -⟩ := hst.at_
 obtain ⟨U1, w1, hU1, hV1, hy1, hyz1, ho, hr, hb⟩ := box_sr x1 (.slice A1 n1 c1) (.slice E1 m1 d1) (.slice D1 k1 g1) R1.2.code R1.2.fd R1.2.num R1.2.dir R1.2.data F1 f1 p1
 have hbb : Below w0.heap.size w0 w1 := Cv.next hb1 hb
 replace HO0 := Lib.hid (HO0.out.mv hbb)
 replace HS0 := Lib.hid (HS0.out.below hbb)
 replace HB := Lib.hid (Cv.next HB.out hbb)
 clear i0 i1 i2
 have hxz1 := hb1.size
 have HR1 := Lib.hid hr
 have hsz1 := hbb.size
 clear hst hb1 ho hr hb hbb hokF hnF hIk hDk
 obtain ⟨i0, i1, i2, _⟩ := HO0.out.get
 go_wp2_with fail
 have hdo := mDo_any (.agg #[.slice A0 n0 c0, .slice E0 m0 d0, .slice D0 k0 g0]) (madeV 1) ⟨9, 0, 0, 0, 0, ⟨#[47, 102]⟩, ⟨#[]⟩, ⟨#[]⟩⟩ w1 HS0.out.weak (by decide) (by decide) (by decide)
 obtain ⟨R2, hR2⟩ : ∃ R, doV (madeV 1) ⟨9, 0, 0, 0, 0, ⟨#[47, 102]⟩, ⟨#[]⟩, ⟨#[]⟩⟩ = R := ⟨_, rfl⟩
 rw [hR2] at hdo
 have HR2E := Lib.hid hR2
 refine hdo.mono ?_
 clear hdo hR2
 rintro e2 x2 ⟨v2, rv2, rfl, hst, ⟨F2, f2, p2, rfl, hokF, hnF⟩, hb1⟩
 obtain ⟨A2, n2, c2, E2, m2, d2, D2, k2, g2, rfl, hIk, hDk, -⟩ := hst.at_
 obtain ⟨U2, w2, hU2, hV2, hy1, hyz2, ho, hr, hb⟩ := box_sr x2 (.slice A2 n2 c2) (.slice E2 m2 d2) (.slice D2 k2 g2) R2.2.code R2.2.fd R2.2.num R2.2.dir R2.2.data F2 f2 p2
 have hbb : Below w1.heap.size w1 w2 := Cv.next hb1 hb
 replace HO0 := Lib.hid (HO0.out.mv hbb)
 replace HR1 := Lib.hid (HR1.out.mv hbb)
 replace HS0 := Lib.hid (HS0.out.below hbb)
 replace HB := Lib.hid (Cv.next HB.out hbb)
 clear i0 i1 i2
 have HS2 := Lib.hid ((hst.lower (Nat.zero_le _)).below hb)
 have hxz2 := hb1.size
 have HO2 := Lib.hid ho
 have HR2 := Lib.hid hr
 have hsz2 := hbb.size
 clear hst hb1 ho hr hb hbb hokF hnF hIk hDk
 obtain ⟨t0, t1, t2, _⟩ := HO2.out.get
 go_wp2_with fail
 replace HS2 : Hid (StAt (some 0) w2 (.agg #[.slice A2 n2 c2, .slice E2 m2 d2, .slice D2 k2 g2]) (linkedT false)) := Lib.hid (by have h := HS2.out; rw [← HR2E.out] at h; exact h)
 have hdo := mDo_any (.agg #[.slice A2 n2 c2, .slice E2 m2 d2, .slice D2 k2 g2]) (linkedT false) ⟨14, 0, 0, 0, 0, ⟨#[47, 103]⟩, ⟨#[]⟩, ⟨#[]⟩⟩ w2 HS2.out.weak (by decide) (by decide) (by decide)
 obtain ⟨R3, hR3⟩ : ∃ R, doV (linkedT false) ⟨14, 0, 0, 0, 0, ⟨#[47, 103]⟩, ⟨#[]⟩, ⟨#[]⟩⟩ = R := ⟨_, rfl⟩
 rw [hR3] at hdo
 have HR3E := Lib.hid hR3
 refine hdo.mono ?_
 clear hdo hR3
 rintro e3 x3 ⟨v3, rv3, rfl, hst, ⟨F3, f3, p3, rfl, hokF, hnF⟩, hb1⟩
 obtain ⟨A3, n3, c3, E3, m3, d3, D3, k3, g3, rfl, hIk, hDk, -⟩ := hst.at_
 obtain ⟨U3, w3, hU3, hV3, hy1, hyz3, ho, hr, hb⟩ := box_sr x3 (.slice A3 n3 c3) (.slice E3 m3 d3) (.slice D3 k3 g3) R3.2.code R3.2.fd R3.2.num R3.2.dir R3.2.data F3 f3 p3
 have hbb : Below w2.heap.size w2 w3 := Cv.next hb1 hb
 replace HO0 := Lib.hid (HO0.out.mv hbb)
 replace HR1 := Lib.hid (HR1.out.mv hbb)
 replace HO2 := Lib.hid (HO2.out.mv hbb)
 replace HR2 := Lib.hid (HR2.out.mv hbb)
 replace HS0 := Lib.hid (HS0.out.below hbb)
 replace HS2 := Lib.hid (HS2.out.below hbb)
 replace HB := Lib.hid (Cv.next HB.out hbb)
 clear t0 t1 t2
 have hxz3 := hb1.size
 have HR3 := Lib.hid hr
 have hsz3 := hbb.size
 clear hst hb1 ho hr hb hbb hokF hnF hIk hDk
 obtain ⟨t0, t1, t2, _⟩ := HO2.out.get
 go_wp2_with fail
 have hdo := mDo_any (.agg #[.slice A2 n2 c2, .slice E2 m2 d2, .slice D2 k2 g2]) (linkedT false) ⟨3, 0, 0, 0, 0, ⟨#[]⟩, ⟨#[]⟩, ⟨#[]⟩⟩ w3 HS2.out.weak (by decide) (by decide) (by decide)
 obtain ⟨R4, hR4⟩ : ∃ R, doV (linkedT false) ⟨3, 0, 0, 0, 0, ⟨#[]⟩, ⟨#[]⟩, ⟨#[]⟩⟩ = R := ⟨_, rfl⟩
 rw [hR4] at hdo
 have HR4E := Lib.hid hR4
 refine hdo.mono ?_
 clear hdo hR4
 rintro e4 x4 ⟨v4, rv4, rfl, hst, ⟨F4, f4, p4, rfl, hokF, hnF⟩, hb1⟩
 obtain ⟨A4, n4, c4, E4, m4, d4, D4, k4, g4, rfl, hIk, hDk, -⟩ := hst.at_
 obtain ⟨U4, w4, hU4, hV4, hy1, hyz4, ho, hr, hb⟩ := box_sr x4 (.slice A4 n4 c4) (.slice E4 m4 d4) (.slice D4 k4 g4) R4.2.code R4.2.fd R4.2.num R4.2.dir R4.2.data F4 f4 p4
 have hbb : Below w3.heap.size w3 w4 := Cv.next hb1 hb
 replace HO0 := Lib.hid (HO0.out.mv hbb)
 replace HR1 := Lib.hid (HR1.out.mv hbb)
 replace HO2 := Lib.hid (HO2.out.mv hbb)
 replace HR2 := Lib.hid (HR2.out.mv hbb)
 replace HR3 := Lib.hid (HR3.out.mv hbb)
 replace HS0 := Lib.hid (HS0.out.below hbb)
 replace HS2 := Lib.hid (HS2.out.below hbb)
 replace HB := Lib.hid (Cv.next HB.out hbb)
 clear t0 t1 t2
 have HS4 := Lib.hid ((hst.lower (Nat.zero_le _)).below hb)
 have hxz4 := hb1.size
 have HO4 := Lib.hid ho
 have hsz4 := hbb.size
 clear hst hb1 ho hr hb hbb hokF hnF hIk hDk
 obtain ⟨q0, q1, q2, _⟩ := HO4.out.get
 replace HS4 : Hid (StAt (some 0) w4 (.agg #[.slice A4 n4 c4, .slice E4 m4 d4, .slice D4 k4 g4]) (linkedO false true)) := Lib.hid (by have h := HS4.out; rw [← HR4E.out] at h; exact h)
 clear q0 q1 q2
 obtain ⟨s0, s1, s2, sf⟩ := HO2.out.get
 have sf0 := sf 0
 have sf1 := sf 1
 have sf2 := sf 2
 obtain ⟨q0, q1, q2, _⟩ := HO4.out.get
 obtain ⟨y4, hy4, hoy, kC, hbC⟩ := HO2.out.three (.slice A4 n4 c4) (.slice E4 m4 d4) (.slice D4 k4 g4)
 replace HS4 := Lib.hid (HS4.out.keep3 (kC _ (by decide)) (kC _ (by decide)) (kC _ (by decide)) (kC _ (by decide)))
 replace HO0 := Lib.hid (HO0.out.far hy4 (by omega))
 replace HR1 := Lib.hid (HR1.out.far hy4 (by omega))
 replace HR2 := Lib.hid (HR2.out.far hy4 (by omega))
 replace HR3 := Lib.hid (HR3.out.far hy4 (by omega))
 replace HO4 := Lib.hid (HO4.out.far hy4 (by omega))
 replace HO2 := Lib.hid hoy
 replace HB := Lib.hid (hbC _ _ (by omega) HB.out)
 have hyy4 : y4.heap.size = w4.heap.size := by rw [← hy4]; simp [World.setCell]
 clear hoy kC hbC sf
 obtain ⟨t0, t1, t2, _⟩ := HO2.out.get
 go_wp2_with fail
 clear t0 t1 t2
 obtain ⟨t0, t1, t2, _⟩ := HO2.out.get
 have hdo := mDo_any (.agg #[.slice A4 n4 c4, .slice E4 m4 d4, .slice D4 k4 g4]) (linkedO false true) ⟨9, 0, 0, 0, 0, ⟨#[47, 103]⟩, ⟨#[]⟩, ⟨#[]⟩⟩ y4 HS4.out.weak (by decide) (by decide) (by decide)
 obtain ⟨R5, hR5⟩ : ∃ R, doV (linkedO false true) ⟨9, 0, 0, 0, 0, ⟨#[47, 103]⟩, ⟨#[]⟩, ⟨#[]⟩⟩ = R := ⟨_, rfl⟩
 rw [hR5] at hdo
 have HR5E := Lib.hid hR5
 refine hdo.mono ?_
 clear hdo hR5
 rintro e5 x5 ⟨v5, rv5, rfl, hst, ⟨F5, f5, p5, rfl, hokF, hnF⟩, hb1⟩
 obtain ⟨A5, n5, c5, E5, m5, d5, D5, k5, g5, rfl, hIk, hDk, -⟩ := hst.at_
 obtain ⟨U5, w5, hU5, hV5, hy1, hyz5, ho, hr, hb⟩ := box_sr x5 (.slice A5 n5 c5) (.slice E5 m5 d5) (.slice D5 k5 g5) R5.2.code R5.2.fd R5.2.num R5.2.dir R5.2.data F5 f5 p5
 have hbb : Below y4.heap.size y4 w5 := Cv.next hb1 hb
 replace HO0 := Lib.hid (HO0.out.mv hbb)
 replace HR1 := Lib.hid (HR1.out.mv hbb)
 replace HO2 := Lib.hid (HO2.out.mv hbb)
 replace HR2 := Lib.hid (HR2.out.mv hbb)
 replace HR3 := Lib.hid (HR3.out.mv hbb)
 replace HO4 := Lib.hid (HO4.out.mv hbb)
 replace HS4 := Lib.hid (HS4.out.below hbb)
 replace HB := Lib.hid (Cv.next HB.out hbb)
 clear q0 q1 q2 t0 t1 t2
 have HS5 := Lib.hid ((hst.lower (Nat.zero_le _)).below hb)
 have hxz5 := hb1.size
 have HO5 := Lib.hid ho
 have HR5 := Lib.hid hr
 have HN5 := Lib.hid hIk.1
 have hsz5 := hbb.size
 clear hst hb1 ho hr hb hbb hokF hnF hIk hDk
 obtain ⟨u0, u1, u2, _⟩ := HO5.out.get
 replace HS5 : Hid (StAt (some 0) w5 (.agg #[.slice A5 n5 c5, .slice E5 m5 d5, .slice D5 k5 g5]) (linkedU false true)) := Lib.hid (by have h := HS5.out; rw [← HR5E.out] at h; exact h)
 go_wp2_with fail
 have hdo := mDo_any (.agg #[.slice A5 n5 c5, .slice E5 m5 d5, .slice D5 k5 g5]) (linkedU false true) ⟨4, 0, 0, 0, 10, ⟨#[]⟩, ⟨#[]⟩, ⟨#[]⟩⟩ w5 HS5.out.weak (by decide) (by decide) (by decide)
 obtain ⟨R6, hR6⟩ : ∃ R, doV (linkedU false true) ⟨4, 0, 0, 0, 10, ⟨#[]⟩, ⟨#[]⟩, ⟨#[]⟩⟩ = R := ⟨_, rfl⟩
 rw [hR6] at hdo
 have HR6E := Lib.hid hR6
 refine hdo.mono ?_
 clear hdo hR6
 rintro e6 x6 ⟨v6, rv6, rfl, hst, ⟨F6, f6, p6, rfl, hokF, hnF⟩, hb1⟩
 obtain ⟨A6, n6, c6, E6, m6, d6, D6, k6, g6, rfl, hIk, hDk, -⟩ := hst.at_
 obtain ⟨U6, w6, hU6, hV6, hy1, hyz6, ho, hr, hb⟩ := box_sr x6 (.slice A6 n6 c6) (.slice E6 m6 d6) (.slice D6 k6 g6) R6.2.code R6.2.fd R6.2.num R6.2.dir R6.2.data F6 f6 p6
 have hbb : Below w5.heap.size w5 w6 := Cv.next hb1 hb
 replace HO0 := Lib.hid (HO0.out.mv hbb)
 replace HR1 := Lib.hid (HR1.out.mv hbb)
 replace HO2 := Lib.hid (HO2.out.mv hbb)
 replace HR2 := Lib.hid (HR2.out.mv hbb)
 replace HR3 := Lib.hid (HR3.out.mv hbb)
 replace HO4 := Lib.hid (HO4.out.mv hbb)
 replace HO5 := Lib.hid (HO5.out.mv hbb)
 replace HR5 := Lib.hid (HR5.out.mv hbb)
 replace HS4 := Lib.hid (HS4.out.below hbb)
 replace HS5 := Lib.hid (HS5.out.below hbb)
 replace HB := Lib.hid (Cv.next HB.out hbb)
 clear u0 u1 u2
 have hxz6 := hb1.size
 have HR6 := Lib.hid hr
 have hsz6 := hbb.size
 clear hst hb1 ho hr hb hbb hokF hnF hIk hDk
 have f1 : R1.2.num = 2 := by rw [← HR1E.out]; exact linked_x false
 have f2 : R2.2.code = 0 := by rw [← HR2E.out]; exact linked_r false
 have f3 : R3.2.num = 1 := by rw [← HR3E.out]; exact linked_y false
 have fu : R5.2.code = 0 := by rw [← HR5E.out]; exact linked_q false true
 have fz : R6.2.code = 4 := by rw [← HR6E.out]; exact linked_z false true
 have fn : n5 = 4 := by have h := HN5.out; rw [← HR5E.out] at h; exact h.symm.trans (linked_n false true)
 have fm : n0 = 5 := HN0.out.symm
 subst fn fm
 obtain ⟨ra0, ra1, ra2, ra3, ra4, ra5, _⟩ := HR1.out.get
 rw [f1] at ra2
 obtain ⟨rb0, rb1, rb2, rb3, rb4, rb5, _⟩ := HR2.out.get
 rw [f2] at rb0
 obtain ⟨rc0, rc1, rc2, rc3, rc4, rc5, _⟩ := HR3.out.get
 rw [f3] at rc2
 obtain ⟨rd0, rd1, rd2, rd3, rd4, rd5, _⟩ := HR5.out.get
 rw [fu] at rd0
 obtain ⟨re0, re1, re2, re3, re4, re5, _⟩ := HR6.out.get
 rw [fz] at re0
 obtain ⟨u0, u1, u2, _⟩ := HO5.out.get
 obtain ⟨i0, i1, i2, _⟩ := HO0.out.get
 clear f1 f2 f3 fu fz
 go_wp2_with fail
 have hcode := code13_any (.agg #[.slice A5 4 c5, .slice E5 m5 d5, .slice D5 k5 g5]) (linkedU false true) ⟨13, 0, 0, 0, 0, ⟨#[47, 103]⟩, ⟨#[]⟩, ⟨#[]⟩⟩ w6 HS5.out.weak (by decide) (by decide) (by decide)
 rw [show (doV (linkedU false true) ⟨13, 0, 0, 0, 0, ⟨#[47, 103]⟩, ⟨#[]⟩, ⟨#[]⟩⟩).2.code = 1 from linked_s false true] at hcode
 refine hcode.mono ?_
 clear hcode
 rintro ez wz ⟨rfl, hbz⟩
 replace HB := Lib.hid (Cv.next HB.out hbz)
 clear hbz
 go_wp2_with fail
 go_ret
 exact ⟨rfl, HB.out⟩
set_option maxRecDepth 100000 in
set_option maxHeartbeats 8000000 in
theorem modelLinked_true_false (w : World) : Calls Tryz.prog 5 #[.bool true, .bool false] w fun e w' => e = .returned (.bool true) ∧ Below w.heap.size w w' := by
 go_enter Tryz.func5, Tryz.ntmps5
 go_wp2_with fail
 refine (awake13 _).mono ?_
 rintro ea V1 ⟨rfl, hb1⟩
 have HB := Lib.hid hb1
 have hw1 := hb1.size
 clear hb1
 go_wp2_with fail
 refine (made_one V1).mono ?_
 rintro eb x0 ⟨v0, rfl, hst, hb1⟩
 obtain ⟨A0, n0, c0, E0, m0, d0, D0, k0, g0, rfl, hI0, -⟩ := hst.at_
 obtain ⟨w0, hV0, hyz0, ho, hb⟩ := box_s x0 (.slice A0 n0 c0) (.slice E0 m0 d0) (.slice D0 k0 g0)
 have HB := Lib.hid (Cv.next HB.out (Cv.next hb1 hb))
 have HS0 := Lib.hid ((hst.lower (Nat.zero_le _)).below hb)
 have hxz0 := hb1.size
 have HO0 := Lib.hid ho
 have HN0 := Lib.hid hI0.1
 clear hst hb1 ho hb hI0
 obtain ⟨i0, i1, i2, _⟩ := HO0.out.get
 go_wp2_with fail
 have hdo := mDo_any (.agg #[.slice A0 n0 c0, .slice E0 m0 d0, .slice D0 k0 g0]) (madeV 1) ⟨14, 0, 0, 0, 0, ⟨#[47, 103]⟩, ⟨#[]⟩, ⟨#[]⟩⟩ w0 HS0.out.weak (by decide) (by decide) (by decide)
 obtain ⟨R1, hR1⟩ : ∃ R, doV (madeV 1) ⟨14, 0, 0, 0, 0, ⟨#[47, 103]⟩, ⟨#[]⟩, ⟨#[]⟩⟩ = R := ⟨_, rfl⟩
 rw [hR1] at hdo
 have HR1E := Lib.hid hR1
 refine hdo.mono ?_
 clear hdo hR1
 rintro e1 x1 ⟨v1, rv1, rfl, hst, ⟨F1, f1, p1, rfl, hokF, hnF⟩, hb1⟩
 obtain ⟨A1, n1, c1, E1, m1, d1, D1, k1, g1, rfl, hIk, hDk, -⟩ := hst.at_
 obtain ⟨U1, w1, hU1, hV1, hy1, hyz1, ho, hr, hb⟩ := box_sr x1 (.slice A1 n1 c1) (.slice E1 m1 d1) (.slice D1 k1 g1) R1.2.code R1.2.fd R1.2.num R1.2.dir R1.2.data F1 f1 p1
 have hbb : Below w0.heap.size w0 w1 := Cv.next hb1 hb
 replace HO0 := Lib.hid (HO0.out.mv hbb)
 replace HS0 := Lib.hid (HS0.out.below hbb)
 replace HB := Lib.hid (Cv.next HB.out hbb)
 clear i0 i1 i2
 have hxz1 := hb1.size
 have HR1 := Lib.hid hr
 have hsz1 := hbb.size
 clear hst hb1 ho hr hb hbb hokF hnF hIk hDk
 obtain ⟨i0, i1, i2, _⟩ := HO0.out.get
 go_wp2_with fail
 have hdo := mDo_any (.agg #[.slice A0 n0 c0, .slice E0 m0 d0, .slice D0 k0 g0]) (madeV 1) ⟨9, 0, 0, 0, 0, ⟨#[47, 103]⟩, ⟨#[]⟩, ⟨#[]⟩⟩ w1 HS0.out.weak (by decide) (by decide) (by decide)
 obtain ⟨R2, hR2⟩ : ∃ R, doV (madeV 1) ⟨9, 0, 0, 0, 0, ⟨#[47, 103]⟩, ⟨#[]⟩, ⟨#[]⟩⟩ = R := ⟨_, rfl⟩
 rw [hR2] at hdo
 have HR2E := Lib.hid hR2
 refine hdo.mono ?_
 clear hdo hR2
 rintro e2 x2 ⟨v2, rv2, rfl, hst, ⟨F2, f2, p2, rfl, hokF, hnF⟩, hb1⟩
 obtain ⟨A2, n2, c2, E2, m2, d2, D2, k2, g2, rfl, hIk, hDk, -⟩ := hst.at_
 obtain ⟨U2, w2, hU2, hV2, hy1, hyz2, ho, hr, hb⟩ := box_sr x2 (.slice A2 n2 c2) (.slice E2 m2 d2) (.slice D2 k2 g2) R2.2.code R2.2.fd R2.2.num R2.2.dir R2.2.data F2 f2 p2
 have hbb : Below w1.heap.size w1 w2 := Cv.next hb1 hb
 replace HO0 := Lib.hid (HO0.out.mv hbb)
 replace HR1 := Lib.hid (HR1.out.mv hbb)
 replace HS0 := Lib.hid (HS0.out.below hbb)
 replace HB := Lib.hid (Cv.next HB.out hbb)
 clear i0 i1 i2
 have HS2 := Lib.hid ((hst.lower (Nat.zero_le _)).below hb)
 have hxz2 := hb1.size
 have HO2 := Lib.hid ho
 have HR2 := Lib.hid hr
 have hsz2 := hbb.size
 clear hst hb1 ho hr hb hbb hokF hnF hIk hDk
 obtain ⟨t0, t1, t2, _⟩ := HO2.out.get
 go_wp2_with fail
 replace HS2 : Hid (StAt (some 0) w2 (.agg #[.slice A2 n2 c2, .slice E2 m2 d2, .slice D2 k2 g2]) (linkedT true)) := Lib.hid (by have h := HS2.out; rw [← HR2E.out] at h; exact h)
 have hdo := mDo_any (.agg #[.slice A2 n2 c2, .slice E2 m2 d2, .slice D2 k2 g2]) (linkedT true) ⟨14, 0, 0, 0, 0, ⟨#[47, 102]⟩, ⟨#[]⟩, ⟨#[]⟩⟩ w2 HS2.out.weak (by decide) (by decide) (by decide)
 obtain ⟨R3, hR3⟩ : ∃ R, doV (linkedT true) ⟨14, 0, 0, 0, 0, ⟨#[47, 102]⟩, ⟨#[]⟩, ⟨#[]⟩⟩ = R := ⟨_, rfl⟩
 rw [hR3] at hdo
 have HR3E := Lib.hid hR3
 refine hdo.mono ?_
 clear hdo hR3
 rintro e3 x3 ⟨v3, rv3, rfl, hst, ⟨F3, f3, p3, rfl, hokF, hnF⟩, hb1⟩
 obtain ⟨A3, n3, c3, E3, m3, d3, D3, k3, g3, rfl, hIk, hDk, -⟩ := hst.at_
 obtain ⟨U3, w3, hU3, hV3, hy1, hyz3, ho, hr, hb⟩ := box_sr x3 (.slice A3 n3 c3) (.slice E3 m3 d3) (.slice D3 k3 g3) R3.2.code R3.2.fd R3.2.num R3.2.dir R3.2.data F3 f3 p3
 have hbb : Below w2.heap.size w2 w3 := Cv.next hb1 hb
 replace HO0 := Lib.hid (HO0.out.mv hbb)
 replace HR1 := Lib.hid (HR1.out.mv hbb)
 replace HO2 := Lib.hid (HO2.out.mv hbb)
 replace HR2 := Lib.hid (HR2.out.mv hbb)
 replace HS0 := Lib.hid (HS0.out.below hbb)
 replace HS2 := Lib.hid (HS2.out.below hbb)
 replace HB := Lib.hid (Cv.next HB.out hbb)
 clear t0 t1 t2
 have hxz3 := hb1.size
 have HR3 := Lib.hid hr
 have hsz3 := hbb.size
 clear hst hb1 ho hr hb hbb hokF hnF hIk hDk
 obtain ⟨t0, t1, t2, _⟩ := HO2.out.get
 go_wp2_with fail
 clear t0 t1 t2
 obtain ⟨t0, t1, t2, _⟩ := HO2.out.get
 replace HS2 : Hid (StAt (some 0) w3 (.agg #[.slice A2 n2 c2, .slice E2 m2 d2, .slice D2 k2 g2]) (linkedO true false)) := HS2
 have hdo := mDo_any (.agg #[.slice A2 n2 c2, .slice E2 m2 d2, .slice D2 k2 g2]) (linkedO true false) ⟨9, 0, 0, 0, 0, ⟨#[47, 102]⟩, ⟨#[]⟩, ⟨#[]⟩⟩ w3 HS2.out.weak (by decide) (by decide) (by decide)
 obtain ⟨R4, hR4⟩ : ∃ R, doV (linkedO true false) ⟨9, 0, 0, 0, 0, ⟨#[47, 102]⟩, ⟨#[]⟩, ⟨#[]⟩⟩ = R := ⟨_, rfl⟩
 rw [hR4] at hdo
 have HR4E := Lib.hid hR4
 refine hdo.mono ?_
 clear hdo hR4
 rintro e4 x4 ⟨v4, rv4, rfl, hst, ⟨F4, f4, p4, rfl, hokF, hnF⟩, hb1⟩
 obtain ⟨A4, n4, c4, E4, m4, d4, D4, k4, g4, rfl, hIk, hDk, -⟩ := hst.at_
 obtain ⟨U4, w4, hU4, hV4, hy1, hyz4, ho, hr, hb⟩ := box_sr x4 (.slice A4 n4 c4) (.slice E4 m4 d4) (.slice D4 k4 g4) R4.2.code R4.2.fd R4.2.num R4.2.dir R4.2.data F4 f4 p4
 have hbb : Below w3.heap.size w3 w4 := Cv.next hb1 hb
 replace HO0 := Lib.hid (HO0.out.mv hbb)
 replace HR1 := Lib.hid (HR1.out.mv hbb)
 replace HO2 := Lib.hid (HO2.out.mv hbb)
 replace HR2 := Lib.hid (HR2.out.mv hbb)
 replace HR3 := Lib.hid (HR3.out.mv hbb)
 replace HS0 := Lib.hid (HS0.out.below hbb)
 replace HS2 := Lib.hid (HS2.out.below hbb)
 replace HB := Lib.hid (Cv.next HB.out hbb)
 clear t0 t1 t2
 have HS4 := Lib.hid ((hst.lower (Nat.zero_le _)).below hb)
 have hxz4 := hb1.size
 have HO4 := Lib.hid ho
 have HR4 := Lib.hid hr
 have HN4 := Lib.hid hIk.1
 have hsz4 := hbb.size
 clear hst hb1 ho hr hb hbb hokF hnF hIk hDk
 obtain ⟨u0, u1, u2, _⟩ := HO4.out.get
 replace HS4 : Hid (StAt (some 0) w4 (.agg #[.slice A4 n4 c4, .slice E4 m4 d4, .slice D4 k4 g4]) (linkedU true false)) := Lib.hid (by have h := HS4.out; rw [← HR4E.out] at h; exact h)
 go_wp2_with fail
 have hdo := mDo_any (.agg #[.slice A4 n4 c4, .slice E4 m4 d4, .slice D4 k4 g4]) (linkedU true false) ⟨4, 0, 0, 0, 10, ⟨#[]⟩, ⟨#[]⟩, ⟨#[]⟩⟩ w4 HS4.out.weak (by decide) (by decide) (by decide)
 obtain ⟨R5, hR5⟩ : ∃ R, doV (linkedU true false) ⟨4, 0, 0, 0, 10, ⟨#[]⟩, ⟨#[]⟩, ⟨#[]⟩⟩ = R := ⟨_, rfl⟩
 rw [hR5] at hdo
 have HR5E := Lib.hid hR5
 refine hdo.mono ?_
 clear hdo hR5
 rintro e5 x5 ⟨v5, rv5, rfl, hst, ⟨F5, f5, p5, rfl, hokF, hnF⟩, hb1⟩
 obtain ⟨A5, n5, c5, E5, m5, d5, D5, k5, g5, rfl, hIk, hDk, -⟩ := hst.at_
 obtain ⟨U5, w5, hU5, hV5, hy1, hyz5, ho, hr, hb⟩ := box_sr x5 (.slice A5 n5 c5) (.slice E5 m5 d5) (.slice D5 k5 g5) R5.2.code R5.2.fd R5.2.num R5.2.dir R5.2.data F5 f5 p5
 have hbb : Below w4.heap.size w4 w5 := Cv.next hb1 hb
 replace HO0 := Lib.hid (HO0.out.mv hbb)
 replace HR1 := Lib.hid (HR1.out.mv hbb)
 replace HO2 := Lib.hid (HO2.out.mv hbb)
 replace HR2 := Lib.hid (HR2.out.mv hbb)
 replace HR3 := Lib.hid (HR3.out.mv hbb)
 replace HO4 := Lib.hid (HO4.out.mv hbb)
 replace HR4 := Lib.hid (HR4.out.mv hbb)
 replace HS0 := Lib.hid (HS0.out.below hbb)
 replace HS2 := Lib.hid (HS2.out.below hbb)
 replace HS4 := Lib.hid (HS4.out.below hbb)
 replace HB := Lib.hid (Cv.next HB.out hbb)
 clear u0 u1 u2
 have hxz5 := hb1.size
 have HR5 := Lib.hid hr
 have hsz5 := hbb.size
 clear hst hb1 ho hr hb hbb hokF hnF hIk hDk
 have f1 : R1.2.num = 2 := by rw [← HR1E.out]; exact linked_x true
 have f2 : R2.2.code = 0 := by rw [← HR2E.out]; exact linked_r true
 have f3 : R3.2.num = 1 := by rw [← HR3E.out]; exact linked_y true
 have fu : R4.2.code = 0 := by rw [← HR4E.out]; exact linked_q true false
 have fz : R5.2.code = 0 := by rw [← HR5E.out]; exact linked_z true false
 have fn : n4 = 5 := by have h := HN4.out; rw [← HR4E.out] at h; exact h.symm.trans (linked_n true false)
 have fm : n0 = 5 := HN0.out.symm
 subst fn fm
 obtain ⟨ra0, ra1, ra2, ra3, ra4, ra5, _⟩ := HR1.out.get
 rw [f1] at ra2
 obtain ⟨rb0, rb1, rb2, rb3, rb4, rb5, _⟩ := HR2.out.get
 rw [f2] at rb0
 obtain ⟨rc0, rc1, rc2, rc3, rc4, rc5, _⟩ := HR3.out.get
 rw [f3] at rc2
 obtain ⟨rd0, rd1, rd2, rd3, rd4, rd5, _⟩ := HR4.out.get
 rw [fu] at rd0
 obtain ⟨re0, re1, re2, re3, re4, re5, _⟩ := HR5.out.get
 rw [fz] at re0
 obtain ⟨u0, u1, u2, _⟩ := HO4.out.get
 obtain ⟨i0, i1, i2, _⟩ := HO0.out.get
 clear f1 f2 f3 fu fz
 go_wp2_with fail
 have hcode := code13_any (.agg #[.slice A4 5 c4, .slice E4 m4 d4, .slice D4 k4 g4]) (linkedU true false) ⟨13, 0, 0, 0, 0, ⟨#[47, 102]⟩, ⟨#[]⟩, ⟨#[]⟩⟩ w5 HS4.out.weak (by decide) (by decide) (by decide)
 rw [show (doV (linkedU true false) ⟨13, 0, 0, 0, 0, ⟨#[47, 102]⟩, ⟨#[]⟩, ⟨#[]⟩⟩).2.code = 1 from linked_s true false] at hcode
 refine hcode.mono ?_
 clear hcode
 rintro ez wz ⟨rfl, hbz⟩
 replace HB := Lib.hid (Cv.next HB.out hbz)
 clear hbz
 go_wp2_with fail
 go_ret
 exact ⟨rfl, HB.out⟩
set_option maxRecDepth 100000 in
set_option maxHeartbeats 8000000 in
theorem modelLinked_true_true (w : World) : Calls Tryz.prog 5 #[.bool true, .bool true] w fun e w' => e = .returned (.bool true) ∧ Below w.heap.size w w' := by
 go_enter Tryz.func5, Tryz.ntmps5
 go_wp2_with fail
 refine (awake13 _).mono ?_
 rintro ea V1 ⟨rfl, hb1⟩
 have HB := Lib.hid hb1
 have hw1 := hb1.size
 clear hb1
 go_wp2_with fail
 refine (made_one V1).mono ?_
 rintro eb x0 ⟨v0, rfl, hst, hb1⟩
 obtain ⟨A0, n0, c0, E0, m0, d0, D0, k0, g0, rfl, hI0, -⟩ := hst.at_
 obtain ⟨w0, hV0, hyz0, ho, hb⟩ := box_s x0 (.slice A0 n0 c0) (.slice E0 m0 d0) (.slice D0 k0 g0)
 have HB := Lib.hid (Cv.next HB.out (Cv.next hb1 hb))
 have HS0 := Lib.hid ((hst.lower (Nat.zero_le _)).below hb)
 have hxz0 := hb1.size
 have HO0 := Lib.hid ho
 have HN0 := Lib.hid hI0.1
 clear hst hb1 ho hb hI0
 obtain ⟨i0, i1, i2, _⟩ := HO0.out.get
 go_wp2_with fail
 have hdo := mDo_any (.agg #[.slice A0 n0 c0, .slice E0 m0 d0, .slice D0 k0 g0]) (madeV 1) ⟨14, 0, 0, 0, 0, ⟨#[47, 103]⟩, ⟨#[]⟩, ⟨#[]⟩⟩ w0 HS0.out.weak (by decide) (by decide) (by decide)
 obtain ⟨R1, hR1⟩ : ∃ R, doV (madeV 1) ⟨14, 0, 0, 0, 0, ⟨#[47, 103]⟩, ⟨#[]⟩, ⟨#[]⟩⟩ = R := ⟨_, rfl⟩
 rw [hR1] at hdo
 have HR1E := Lib.hid hR1
 refine hdo.mono ?_
 clear hdo hR1
 rintro e1 x1 ⟨v1, rv1, rfl, hst, ⟨F1, f1, p1, rfl, hokF, hnF⟩, hb1⟩
 obtain ⟨A1, n1, c1, E1, m1, d1, D1, k1, g1, rfl, hIk, hDk, -⟩ := hst.at_
 obtain ⟨U1, w1, hU1, hV1, hy1, hyz1, ho, hr, hb⟩ := box_sr x1 (.slice A1 n1 c1) (.slice E1 m1 d1) (.slice D1 k1 g1) R1.2.code R1.2.fd R1.2.num R1.2.dir R1.2.data F1 f1 p1
 have hbb : Below w0.heap.size w0 w1 := Cv.next hb1 hb
 replace HO0 := Lib.hid (HO0.out.mv hbb)
 replace HS0 := Lib.hid (HS0.out.below hbb)
 replace HB := Lib.hid (Cv.next HB.out hbb)
 clear i0 i1 i2
 have hxz1 := hb1.size
 have HR1 := Lib.hid hr
 have hsz1 := hbb.size
 clear hst hb1 ho hr hb hbb hokF hnF hIk hDk
 obtain ⟨i0, i1, i2, _⟩ := HO0.out.get
 go_wp2_with fail
 have hdo := mDo_any (.agg #[.slice A0 n0 c0, .slice E0 m0 d0, .slice D0 k0 g0]) (madeV 1) ⟨9, 0, 0, 0, 0, ⟨#[47, 103]⟩, ⟨#[]⟩, ⟨#[]⟩⟩ w1 HS0.out.weak (by decide) (by decide) (by decide)
 obtain ⟨R2, hR2⟩ : ∃ R, doV (madeV 1) ⟨9, 0, 0, 0, 0, ⟨#[47, 103]⟩, ⟨#[]⟩, ⟨#[]⟩⟩ = R := ⟨_, rfl⟩
 rw [hR2] at hdo
 have HR2E := Lib.hid hR2
 refine hdo.mono ?_
 clear hdo hR2
 rintro e2 x2 ⟨v2, rv2, rfl, hst, ⟨F2, f2, p2, rfl, hokF, hnF⟩, hb1⟩
 obtain ⟨A2, n2, c2, E2, m2, d2, D2, k2, g2, rfl, hIk, hDk, -⟩ := hst.at_
 obtain ⟨U2, w2, hU2, hV2, hy1, hyz2, ho, hr, hb⟩ := box_sr x2 (.slice A2 n2 c2) (.slice E2 m2 d2) (.slice D2 k2 g2) R2.2.code R2.2.fd R2.2.num R2.2.dir R2.2.data F2 f2 p2
 have hbb : Below w1.heap.size w1 w2 := Cv.next hb1 hb
 replace HO0 := Lib.hid (HO0.out.mv hbb)
 replace HR1 := Lib.hid (HR1.out.mv hbb)
 replace HS0 := Lib.hid (HS0.out.below hbb)
 replace HB := Lib.hid (Cv.next HB.out hbb)
 clear i0 i1 i2
 have HS2 := Lib.hid ((hst.lower (Nat.zero_le _)).below hb)
 have hxz2 := hb1.size
 have HO2 := Lib.hid ho
 have HR2 := Lib.hid hr
 have hsz2 := hbb.size
 clear hst hb1 ho hr hb hbb hokF hnF hIk hDk
 obtain ⟨t0, t1, t2, _⟩ := HO2.out.get
 go_wp2_with fail
 replace HS2 : Hid (StAt (some 0) w2 (.agg #[.slice A2 n2 c2, .slice E2 m2 d2, .slice D2 k2 g2]) (linkedT true)) := Lib.hid (by have h := HS2.out; rw [← HR2E.out] at h; exact h)
 have hdo := mDo_any (.agg #[.slice A2 n2 c2, .slice E2 m2 d2, .slice D2 k2 g2]) (linkedT true) ⟨14, 0, 0, 0, 0, ⟨#[47, 102]⟩, ⟨#[]⟩, ⟨#[]⟩⟩ w2 HS2.out.weak (by decide) (by decide) (by decide)
 obtain ⟨R3, hR3⟩ : ∃ R, doV (linkedT true) ⟨14, 0, 0, 0, 0, ⟨#[47, 102]⟩, ⟨#[]⟩, ⟨#[]⟩⟩ = R := ⟨_, rfl⟩
 rw [hR3] at hdo
 have HR3E := Lib.hid hR3
 refine hdo.mono ?_
 clear hdo hR3
 rintro e3 x3 ⟨v3, rv3, rfl, hst, ⟨F3, f3, p3, rfl, hokF, hnF⟩, hb1⟩
 obtain ⟨A3, n3, c3, E3, m3, d3, D3, k3, g3, rfl, hIk, hDk, -⟩ := hst.at_
 obtain ⟨U3, w3, hU3, hV3, hy1, hyz3, ho, hr, hb⟩ := box_sr x3 (.slice A3 n3 c3) (.slice E3 m3 d3) (.slice D3 k3 g3) R3.2.code R3.2.fd R3.2.num R3.2.dir R3.2.data F3 f3 p3
 have hbb : Below w2.heap.size w2 w3 := Cv.next hb1 hb
 replace HO0 := Lib.hid (HO0.out.mv hbb)
 replace HR1 := Lib.hid (HR1.out.mv hbb)
 replace HO2 := Lib.hid (HO2.out.mv hbb)
 replace HR2 := Lib.hid (HR2.out.mv hbb)
 replace HS0 := Lib.hid (HS0.out.below hbb)
 replace HS2 := Lib.hid (HS2.out.below hbb)
 replace HB := Lib.hid (Cv.next HB.out hbb)
 clear t0 t1 t2
 have hxz3 := hb1.size
 have HR3 := Lib.hid hr
 have hsz3 := hbb.size
 clear hst hb1 ho hr hb hbb hokF hnF hIk hDk
 obtain ⟨t0, t1, t2, _⟩ := HO2.out.get
 go_wp2_with fail
 have hdo := mDo_any (.agg #[.slice A2 n2 c2, .slice E2 m2 d2, .slice D2 k2 g2]) (linkedT true) ⟨3, 0, 0, 0, 0, ⟨#[]⟩, ⟨#[]⟩, ⟨#[]⟩⟩ w3 HS2.out.weak (by decide) (by decide) (by decide)
 obtain ⟨R4, hR4⟩ : ∃ R, doV (linkedT true) ⟨3, 0, 0, 0, 0, ⟨#[]⟩, ⟨#[]⟩, ⟨#[]⟩⟩ = R := ⟨_, rfl⟩
 rw [hR4] at hdo
 have HR4E := Lib.hid hR4
 refine hdo.mono ?_
 clear hdo hR4
 rintro e4 x4 ⟨v4, rv4, rfl, hst, ⟨F4, f4, p4, rfl, hokF, hnF⟩, hb1⟩
 obtain ⟨A4, n4, c4, E4, m4, d4, D4, k4, g4, rfl, hIk, hDk, -⟩ := hst.at_
 obtain ⟨U4, w4, hU4, hV4, hy1, hyz4, ho, hr, hb⟩ := box_sr x4 (.slice A4 n4 c4) (.slice E4 m4 d4) (.slice D4 k4 g4) R4.2.code R4.2.fd R4.2.num R4.2.dir R4.2.data F4 f4 p4
 have hbb : Below w3.heap.size w3 w4 := Cv.next hb1 hb
 replace HO0 := Lib.hid (HO0.out.mv hbb)
 replace HR1 := Lib.hid (HR1.out.mv hbb)
 replace HO2 := Lib.hid (HO2.out.mv hbb)
 replace HR2 := Lib.hid (HR2.out.mv hbb)
 replace HR3 := Lib.hid (HR3.out.mv hbb)
 replace HS0 := Lib.hid (HS0.out.below hbb)
 replace HS2 := Lib.hid (HS2.out.below hbb)
 replace HB := Lib.hid (Cv.next HB.out hbb)
 clear t0 t1 t2
 have HS4 := Lib.hid ((hst.lower (Nat.zero_le _)).below hb)
 have hxz4 := hb1.size
 have HO4 := Lib.hid ho
 have hsz4 := hbb.size
 clear hst hb1 ho hr hb hbb hokF hnF hIk hDk
 obtain ⟨q0, q1, q2, _⟩ := HO4.out.get
 replace HS4 : Hid (StAt (some 0) w4 (.agg #[.slice A4 n4 c4, .slice E4 m4 d4, .slice D4 k4 g4]) (linkedO true true)) := Lib.hid (by have h := HS4.out; rw [← HR4E.out] at h; exact h)
 clear q0 q1 q2
 obtain ⟨s0, s1, s2, sf⟩ := HO2.out.get
 have sf0 := sf 0
 have sf1 := sf 1
 have sf2 := sf 2
 obtain ⟨q0, q1, q2, _⟩ := HO4.out.get
 obtain ⟨y4, hy4, hoy, kC, hbC⟩ := HO2.out.three (.slice A4 n4 c4) (.slice E4 m4 d4) (.slice D4 k4 g4)
 replace HS4 := Lib.hid (HS4.out.keep3 (kC _ (by decide)) (kC _ (by decide)) (kC _ (by decide)) (kC _ (by decide)))
 replace HO0 := Lib.hid (HO0.out.far hy4 (by omega))
 replace HR1 := Lib.hid (HR1.out.far hy4 (by omega))
 replace HR2 := Lib.hid (HR2.out.far hy4 (by omega))
 replace HR3 := Lib.hid (HR3.out.far hy4 (by omega))
 replace HO4 := Lib.hid (HO4.out.far hy4 (by omega))
 replace HO2 := Lib.hid hoy
 replace HB := Lib.hid (hbC _ _ (by omega) HB.out)
 have hyy4 : y4.heap.size = w4.heap.size := by rw [← hy4]; simp [World.setCell]
 clear hoy kC hbC sf
 obtain ⟨t0, t1, t2, _⟩ := HO2.out.get
 go_wp2_with fail
 clear t0 t1 t2
 obtain ⟨t0, t1, t2, _⟩ := HO2.out.get
 have hdo := mDo_any (.agg #[.slice A4 n4 c4, .slice E4 m4 d4, .slice D4 k4 g4]) (linkedO true true) ⟨9, 0, 0, 0, 0, ⟨#[47, 102]⟩, ⟨#[]⟩, ⟨#[]⟩⟩ y4 HS4.out.weak (by decide) (by decide) (by decide)
 obtain ⟨R5, hR5⟩ : ∃ R, doV (linkedO true true) ⟨9, 0, 0, 0, 0, ⟨#[47, 102]⟩, ⟨#[]⟩, ⟨#[]⟩⟩ = R := ⟨_, rfl⟩
 rw [hR5] at hdo
 have HR5E := Lib.hid hR5
 refine hdo.mono ?_
 clear hdo hR5
 rintro e5 x5 ⟨v5, rv5, rfl, hst, ⟨F5, f5, p5, rfl, hokF, hnF⟩, hb1⟩
 obtain ⟨A5, n5, c5, E5, m5, d5, D5, k5, g5, rfl, hIk, hDk, -⟩ := hst.at_
 obtain ⟨U5, w5, hU5, hV5, hy1, hyz5, ho, hr, hb⟩ := box_sr x5 (.slice A5 n5 c5) (.slice E5 m5 d5) (.slice D5 k5 g5) R5.2.code R5.2.fd R5.2.num R5.2.dir R5.2.data F5 f5 p5
 have hbb : Below y4.heap.size y4 w5 := Cv.next hb1 hb
 replace HO0 := Lib.hid (HO0.out.mv hbb)
 replace HR1 := Lib.hid (HR1.out.mv hbb)
 replace HO2 := Lib.hid (HO2.out.mv hbb)
 replace HR2 := Lib.hid (HR2.out.mv hbb)
 replace HR3 := Lib.hid (HR3.out.mv hbb)
 replace HO4 := Lib.hid (HO4.out.mv hbb)
 replace HS4 := Lib.hid (HS4.out.below hbb)
 replace HB := Lib.hid (Cv.next HB.out hbb)
 clear q0 q1 q2 t0 t1 t2
 have HS5 := Lib.hid ((hst.lower (Nat.zero_le _)).below hb)
 have hxz5 := hb1.size
 have HO5 := Lib.hid ho
 have HR5 := Lib.hid hr
 have HN5 := Lib.hid hIk.1
 have hsz5 := hbb.size
 clear hst hb1 ho hr hb hbb hokF hnF hIk hDk
 obtain ⟨u0, u1, u2, _⟩ := HO5.out.get
 replace HS5 : Hid (StAt (some 0) w5 (.agg #[.slice A5 n5 c5, .slice E5 m5 d5, .slice D5 k5 g5]) (linkedU true true)) := Lib.hid (by have h := HS5.out; rw [← HR5E.out] at h; exact h)
 go_wp2_with fail
 have hdo := mDo_any (.agg #[.slice A5 n5 c5, .slice E5 m5 d5, .slice D5 k5 g5]) (linkedU true true) ⟨4, 0, 0, 0, 10, ⟨#[]⟩, ⟨#[]⟩, ⟨#[]⟩⟩ w5 HS5.out.weak (by decide) (by decide) (by decide)
 obtain ⟨R6, hR6⟩ : ∃ R, doV (linkedU true true) ⟨4, 0, 0, 0, 10, ⟨#[]⟩, ⟨#[]⟩, ⟨#[]⟩⟩ = R := ⟨_, rfl⟩
 rw [hR6] at hdo
 have HR6E := Lib.hid hR6
 refine hdo.mono ?_
 clear hdo hR6
 rintro e6 x6 ⟨v6, rv6, rfl, hst, ⟨F6, f6, p6, rfl, hokF, hnF⟩, hb1⟩
 obtain ⟨A6, n6, c6, E6, m6, d6, D6, k6, g6, rfl, hIk, hDk, -⟩ := hst.at_
 obtain ⟨U6, w6, hU6, hV6, hy1, hyz6, ho, hr, hb⟩ := box_sr x6 (.slice A6 n6 c6) (.slice E6 m6 d6) (.slice D6 k6 g6) R6.2.code R6.2.fd R6.2.num R6.2.dir R6.2.data F6 f6 p6
 have hbb : Below w5.heap.size w5 w6 := Cv.next hb1 hb
 replace HO0 := Lib.hid (HO0.out.mv hbb)
 replace HR1 := Lib.hid (HR1.out.mv hbb)
 replace HO2 := Lib.hid (HO2.out.mv hbb)
 replace HR2 := Lib.hid (HR2.out.mv hbb)
 replace HR3 := Lib.hid (HR3.out.mv hbb)
 replace HO4 := Lib.hid (HO4.out.mv hbb)
 replace HO5 := Lib.hid (HO5.out.mv hbb)
 replace HR5 := Lib.hid (HR5.out.mv hbb)
 replace HS4 := Lib.hid (HS4.out.below hbb)
 replace HS5 := Lib.hid (HS5.out.below hbb)
 replace HB := Lib.hid (Cv.next HB.out hbb)
 clear u0 u1 u2
 have hxz6 := hb1.size
 have HR6 := Lib.hid hr
 have hsz6 := hbb.size
 clear hst hb1 ho hr hb hbb hokF hnF hIk hDk
 have f1 : R1.2.num = 2 := by rw [← HR1E.out]; exact linked_x true
 have f2 : R2.2.code = 0 := by rw [← HR2E.out]; exact linked_r true
 have f3 : R3.2.num = 1 := by rw [← HR3E.out]; exact linked_y true
 have fu : R5.2.code = 0 := by rw [← HR5E.out]; exact linked_q true true
 have fz : R6.2.code = 4 := by rw [← HR6E.out]; exact linked_z true true
 have fn : n5 = 4 := by have h := HN5.out; rw [← HR5E.out] at h; exact h.symm.trans (linked_n true true)
 have fm : n0 = 5 := HN0.out.symm
 subst fn fm
 obtain ⟨ra0, ra1, ra2, ra3, ra4, ra5, _⟩ := HR1.out.get
 rw [f1] at ra2
 obtain ⟨rb0, rb1, rb2, rb3, rb4, rb5, _⟩ := HR2.out.get
 rw [f2] at rb0
 obtain ⟨rc0, rc1, rc2, rc3, rc4, rc5, _⟩ := HR3.out.get
 rw [f3] at rc2
 obtain ⟨rd0, rd1, rd2, rd3, rd4, rd5, _⟩ := HR5.out.get
 rw [fu] at rd0
 obtain ⟨re0, re1, re2, re3, re4, re5, _⟩ := HR6.out.get
 rw [fz] at re0
 obtain ⟨u0, u1, u2, _⟩ := HO5.out.get
 obtain ⟨i0, i1, i2, _⟩ := HO0.out.get
 clear f1 f2 f3 fu fz
 go_wp2_with fail
 have hcode := code13_any (.agg #[.slice A5 4 c5, .slice E5 m5 d5, .slice D5 k5 g5]) (linkedU true true) ⟨13, 0, 0, 0, 0, ⟨#[47, 102]⟩, ⟨#[]⟩, ⟨#[]⟩⟩ w6 HS5.out.weak (by decide) (by decide) (by decide)
 rw [show (doV (linkedU true true) ⟨13, 0, 0, 0, 0, ⟨#[47, 102]⟩, ⟨#[]⟩, ⟨#[]⟩⟩).2.code = 1 from linked_s true true] at hcode
 refine hcode.mono ?_
 clear hcode
 rintro ez wz ⟨rfl, hbz⟩
 replace HB := Lib.hid (Cv.next HB.out hbz)
 clear hbz
 go_wp2_with fail
 go_ret
 exact ⟨rfl, HB.out⟩
theorem modelLinked_walk (first closed : Bool) (w : World) : Calls Tryz.prog 5 #[.bool first, .bool closed] w fun e w' => e = .returned (.bool true) ∧ Below w.heap.size w w' := by
 cases first <;> cases closed
 ·exact modelLinked_false_false w
 ·exact modelLinked_false_true w
 ·exact modelLinked_true_false w
 ·exact modelLinked_true_true w
end Go.Proofs.YtndcloohcfhejaaGreat
