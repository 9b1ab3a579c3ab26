/- The law ModelWrites: its walk (printed by wip/gen_writes.py). -/
import Derived.Test.YtndcloohcfhejaaGreatM43
set_option linter.unusedVariables false
set_option linter.unusedSimpArgs false
namespace Go.Proofs.YtndcloohcfhejaaGreat
open Go.RowKit
theorem mw_len : 0 < ((madeV 1).made.length : Int) := by decide
theorem mw_fd : fdV (madeV 1).opn 0 0 = 18 := by decide
theorem mw_may : mayV (madeV 1) = true := may_made 1 (.inl rfl)
theorem txt_get2 (L : List UInt8) (q : Nat) (h : q < (txt L).size) {b : UInt8} (hb : L[q]? = some b) : (txt L)[q]'h = b := by
 have h2 : q < L.length := h
 rw [List.getElem?_eq_getElem h2] at hb
 show L.toArray[q]'(by simpa using h2) = b
 simpa using hb
theorem ba_get (b : ByteArray) (r : Nat) (h : r < b.size) : b[r]'h = b.data.toList.getD r 0 := by
 have h2 : r < b.data.toList.length := by rw [Array.length_toList]; exact h
 rw [List.getD_eq_getElem?_getD, List.getElem?_eq_getElem h2]
 show b.data[r]'h = _
 simp
theorem digs_hi2 (q : Nat) (h : 10 ≤ q) : ((digsL.getD q 0).toNat : Int) = 0 := by
 rw [List.getD_eq_getElem?_getD, List.getElem?_eq_none (by simpa [digsL] using h)]
 rfl
theorem ba_empty {b : ByteArray} (h : b.size = 0) : b = ⟨#[]⟩ := by
 cases b with | mk dd =>
 have h2 : dd.size = 0 := h
 rw [Array.size_eq_zero_iff.1 h2]
theorem mw_data : dataAt (madeV 1).inos 18 = txt digsL := rfl
set_option maxRecDepth 100000 in
set_option maxHeartbeats 8000000 in
theorem modelWrites_neg (off : Int) (data : ByteArray) (frm many : Int) (hds : data.size ≤ 140737488351232) (hk : off < 0) (w : World) : Calls Tryz.prog 3 #[.int .i64 off, .string data, .int .i64 frm, .int .i64 many] w fun e w' => e = .returned (.bool true) ∧ Below w.heap.size w w' := by
 have HK := Lib.hid hk
 have HT := Lib.hid (write_bad mw_may mw_len mw_fd (by decide) off data (by omega))
 clear hk
 go_enter Tryz.func3, Tryz.ntmps3
 go_wp2_with fail
 refine (awake13 _).mono ?_
 rintro ea V1 ⟨rfl, hb1⟩
 have HB := Lib.hid hb1
 have hw1 := hb1.size
 clear hb1
 go_wp2_with fail
 refine (made_one V1).mono ?_
 rintro eb x0 ⟨v0, rfl, hst, hb1⟩
 obtain ⟨A0, n0, c0, E0, m0, d0, D0, k0, g0, rfl, hI0, -⟩ := hst.at_
 obtain ⟨w0, hV0, hyz0, ho, hb⟩ := box_s x0 (.slice A0 n0 c0) (.slice E0 m0 d0) (.slice D0 k0 g0)
 have HB := Lib.hid (Cv.next HB.out (Cv.next hb1 hb))
 have HS0 := Lib.hid ((hst.lower (Nat.zero_le _)).below hb)
 have hxz0 := hb1.size
 have HO0 := Lib.hid ho
 have HN0 := Lib.hid hI0.1
 clear hst hb1 ho hb hI0
 obtain ⟨i0, i1, i2, _⟩ := HO0.out.get
 go_wp2_with fail
 have hdo := mDo_any (.agg #[.slice A0 n0 c0, .slice E0 m0 d0, .slice D0 k0 g0]) (madeV 1) ⟨5, 0, 0, off, 0, ⟨#[]⟩, ⟨#[]⟩, data⟩ w0 HS0.out.weak (by show (0 : Nat) ≤ _; omega) (by show (0 : Nat) ≤ _; omega) (by show data.size ≤ _; omega)
 obtain ⟨R1, hR1⟩ : ∃ R, doV (madeV 1) ⟨5, 0, 0, off, 0, ⟨#[]⟩, ⟨#[]⟩, data⟩ = R := ⟨_, rfl⟩
 rw [hR1] at hdo
 have HR1E := Lib.hid hR1
 refine hdo.mono ?_
 clear hdo hR1
 rintro e1 x1 ⟨v1, rv1, rfl, hst, ⟨F1, f1, p1, rfl, hokF, hnF⟩, hb1⟩
 obtain ⟨A1, n1, c1, E1, m1, d1, D1, k1, g1, rfl, hIk, hDk, -⟩ := hst.at_
 obtain ⟨U1, w1, hU1, hV1, hy1, hyz1, ho, hr, hb⟩ := box_sr x1 (.slice A1 n1 c1) (.slice E1 m1 d1) (.slice D1 k1 g1) R1.2.code R1.2.fd R1.2.num R1.2.dir R1.2.data F1 f1 p1
 have hbb : Below w0.heap.size w0 w1 := Cv.next hb1 hb
 replace HO0 := Lib.hid (HO0.out.mv hbb)
 replace HS0 := Lib.hid (HS0.out.below hbb)
 replace HB := Lib.hid (Cv.next HB.out hbb)
 clear i0 i1 i2
 have hxz1 := hb1.size
 have HR1 := Lib.hid hr
 have hsz1 := hbb.size
 clear hst hb1 ho hr hb hbb hokF hnF hIk hDk
 obtain ⟨r0, r1, r2, r3, r4, r5, _⟩ := HR1.out.get
 have f1 : R1.2.code = 9 := by rw [← HR1E.out, HT.out]
 rw [f1] at r0
 clear f1
 have g1 : off < 0 := HK.out
 go_wp2_with fail
 go_ret
 exact ⟨rfl, HB.out⟩
set_option maxRecDepth 100000 in
set_option maxHeartbeats 8000000 in
theorem modelWrites_far (off : Int) (data : ByteArray) (frm many : Int) (hds : data.size ≤ 140737488351232) (hk : ¬ off < 0 ∧ 256 < off) (w : World) : Calls Tryz.prog 3 #[.int .i64 off, .string data, .int .i64 frm, .int .i64 many] w fun e w' => e = .returned (.bool true) ∧ Below w.heap.size w w' := by
 have HK := Lib.hid hk
 have HT := Lib.hid (write_bad mw_may mw_len mw_fd (by decide) off data (by omega))
 clear hk
 go_enter Tryz.func3, Tryz.ntmps3
 go_wp2_with fail
 refine (awake13 _).mono ?_
 rintro ea V1 ⟨rfl, hb1⟩
 have HB := Lib.hid hb1
 have hw1 := hb1.size
 clear hb1
 go_wp2_with fail
 refine (made_one V1).mono ?_
 rintro eb x0 ⟨v0, rfl, hst, hb1⟩
 obtain ⟨A0, n0, c0, E0, m0, d0, D0, k0, g0, rfl, hI0, -⟩ := hst.at_
 obtain ⟨w0, hV0, hyz0, ho, hb⟩ := box_s x0 (.slice A0 n0 c0) (.slice E0 m0 d0) (.slice D0 k0 g0)
 have HB := Lib.hid (Cv.next HB.out (Cv.next hb1 hb))
 have HS0 := Lib.hid ((hst.lower (Nat.zero_le _)).below hb)
 have hxz0 := hb1.size
 have HO0 := Lib.hid ho
 have HN0 := Lib.hid hI0.1
 clear hst hb1 ho hb hI0
 obtain ⟨i0, i1, i2, _⟩ := HO0.out.get
 go_wp2_with fail
 have hdo := mDo_any (.agg #[.slice A0 n0 c0, .slice E0 m0 d0, .slice D0 k0 g0]) (madeV 1) ⟨5, 0, 0, off, 0, ⟨#[]⟩, ⟨#[]⟩, data⟩ w0 HS0.out.weak (by show (0 : Nat) ≤ _; omega) (by show (0 : Nat) ≤ _; omega) (by show data.size ≤ _; omega)
 obtain ⟨R1, hR1⟩ : ∃ R, doV (madeV 1) ⟨5, 0, 0, off, 0, ⟨#[]⟩, ⟨#[]⟩, data⟩ = R := ⟨_, rfl⟩
 rw [hR1] at hdo
 have HR1E := Lib.hid hR1
 refine hdo.mono ?_
 clear hdo hR1
 rintro e1 x1 ⟨v1, rv1, rfl, hst, ⟨F1, f1, p1, rfl, hokF, hnF⟩, hb1⟩
 obtain ⟨A1, n1, c1, E1, m1, d1, D1, k1, g1, rfl, hIk, hDk, -⟩ := hst.at_
 obtain ⟨U1, w1, hU1, hV1, hy1, hyz1, ho, hr, hb⟩ := box_sr x1 (.slice A1 n1 c1) (.slice E1 m1 d1) (.slice D1 k1 g1) R1.2.code R1.2.fd R1.2.num R1.2.dir R1.2.data F1 f1 p1
 have hbb : Below w0.heap.size w0 w1 := Cv.next hb1 hb
 replace HO0 := Lib.hid (HO0.out.mv hbb)
 replace HS0 := Lib.hid (HS0.out.below hbb)
 replace HB := Lib.hid (Cv.next HB.out hbb)
 clear i0 i1 i2
 have hxz1 := hb1.size
 have HR1 := Lib.hid hr
 have hsz1 := hbb.size
 clear hst hb1 ho hr hb hbb hokF hnF hIk hDk
 obtain ⟨r0, r1, r2, r3, r4, r5, _⟩ := HR1.out.get
 have f1 : R1.2.code = 9 := by rw [← HR1E.out, HT.out]
 rw [f1] at r0
 clear f1
 have g1 : decide (off < 0) = false := by rw [decide_eq_false_iff_not]; have := HK.out; omega
 have g2 : (256 : Int) < off := HK.out.2
 go_wp2_with fail
 go_ret
 exact ⟨rfl, HB.out⟩
set_option maxRecDepth 100000 in
set_option maxHeartbeats 8000000 in
theorem modelWrites_big (off : Int) (data : ByteArray) (frm many : Int) (hds : data.size ≤ 140737488351232) (hk : ¬ off < 0 ∧ ¬ 256 < off ∧ 256 < data.size) (w : World) : Calls Tryz.prog 3 #[.int .i64 off, .string data, .int .i64 frm, .int .i64 many] w fun e w' => e = .returned (.bool true) ∧ Below w.heap.size w w' := by
 have HK := Lib.hid hk
 have HT := Lib.hid (write_bad mw_may mw_len mw_fd (by decide) off data (by omega))
 clear hk
 go_enter Tryz.func3, Tryz.ntmps3
 go_wp2_with fail
 refine (awake13 _).mono ?_
 rintro ea V1 ⟨rfl, hb1⟩
 have HB := Lib.hid hb1
 have hw1 := hb1.size
 clear hb1
 go_wp2_with fail
 refine (made_one V1).mono ?_
 rintro eb x0 ⟨v0, rfl, hst, hb1⟩
 obtain ⟨A0, n0, c0, E0, m0, d0, D0, k0, g0, rfl, hI0, -⟩ := hst.at_
 obtain ⟨w0, hV0, hyz0, ho, hb⟩ := box_s x0 (.slice A0 n0 c0) (.slice E0 m0 d0) (.slice D0 k0 g0)
 have HB := Lib.hid (Cv.next HB.out (Cv.next hb1 hb))
 have HS0 := Lib.hid ((hst.lower (Nat.zero_le _)).below hb)
 have hxz0 := hb1.size
 have HO0 := Lib.hid ho
 have HN0 := Lib.hid hI0.1
 clear hst hb1 ho hb hI0
 obtain ⟨i0, i1, i2, _⟩ := HO0.out.get
 go_wp2_with fail
 have hdo := mDo_any (.agg #[.slice A0 n0 c0, .slice E0 m0 d0, .slice D0 k0 g0]) (madeV 1) ⟨5, 0, 0, off, 0, ⟨#[]⟩, ⟨#[]⟩, data⟩ w0 HS0.out.weak (by show (0 : Nat) ≤ _; omega) (by show (0 : Nat) ≤ _; omega) (by show data.size ≤ _; omega)
 obtain ⟨R1, hR1⟩ : ∃ R, doV (madeV 1) ⟨5, 0, 0, off, 0, ⟨#[]⟩, ⟨#[]⟩, data⟩ = R := ⟨_, rfl⟩
 rw [hR1] at hdo
 have HR1E := Lib.hid hR1
 refine hdo.mono ?_
 clear hdo hR1
 rintro e1 x1 ⟨v1, rv1, rfl, hst, ⟨F1, f1, p1, rfl, hokF, hnF⟩, hb1⟩
 obtain ⟨A1, n1, c1, E1, m1, d1, D1, k1, g1, rfl, hIk, hDk, -⟩ := hst.at_
 obtain ⟨U1, w1, hU1, hV1, hy1, hyz1, ho, hr, hb⟩ := box_sr x1 (.slice A1 n1 c1) (.slice E1 m1 d1) (.slice D1 k1 g1) R1.2.code R1.2.fd R1.2.num R1.2.dir R1.2.data F1 f1 p1
 have hbb : Below w0.heap.size w0 w1 := Cv.next hb1 hb
 replace HO0 := Lib.hid (HO0.out.mv hbb)
 replace HS0 := Lib.hid (HS0.out.below hbb)
 replace HB := Lib.hid (Cv.next HB.out hbb)
 clear i0 i1 i2
 have hxz1 := hb1.size
 have HR1 := Lib.hid hr
 have hsz1 := hbb.size
 clear hst hb1 ho hr hb hbb hokF hnF hIk hDk
 obtain ⟨r0, r1, r2, r3, r4, r5, _⟩ := HR1.out.get
 have f1 : R1.2.code = 9 := by rw [← HR1E.out, HT.out]
 rw [f1] at r0
 clear f1
 have g1 : decide (off < 0) = false := by rw [decide_eq_false_iff_not]; have := HK.out; omega
 have g2 : decide ((256 : Int) < off) = false := by rw [decide_eq_false_iff_not]; have := HK.out; omega
 have g3 : (256 : Int) < (data.size : Int) := by have := HK.out.2.2; omega
 go_wp2_with fail
 go_ret
 exact ⟨rfl, HB.out⟩
set_option maxRecDepth 100000 in
set_option maxHeartbeats 8000000 in
theorem modelWrites_full (o : Nat) (data : ByteArray) (frm many : Int) (hds : data.size ≤ 140737488351232) (h1 : o ≤ 256) (h2 : data.size ≤ 256) (h3 : 256 < o + data.size) (w : World) : Calls Tryz.prog 3 #[.int .i64 (o : Int), .string data, .int .i64 frm, .int .i64 many] w fun e w' => e = .returned (.bool true) ∧ Below w.heap.size w w' := by
 have HT := Lib.hid (write_full mw_may mw_len mw_fd (by decide) o data h1 h2 h3)
 have g1 : decide ((o : Int) < 0) = false := by rw [decide_eq_false_iff_not]; omega
 have g2 : decide ((256 : Int) < (o : Int)) = false := by rw [decide_eq_false_iff_not]; omega
 have g3 : decide ((256 : Int) < (data.size : Int)) = false := by rw [decide_eq_false_iff_not]; omega
 have g4 : IntKind.i64.wrap ((o : Int) + (data.size : Int)) = (o : Int) + (data.size : Int) := IntWalk.i64_in _ (by omega)
 have g5 : (256 : Int) < (o : Int) + (data.size : Int) := by omega
 go_enter Tryz.func3, Tryz.ntmps3
 go_wp2_with fail
 refine (awake13 _).mono ?_
 rintro ea V1 ⟨rfl, hb1⟩
 have HB := Lib.hid hb1
 have hw1 := hb1.size
 clear hb1
 go_wp2_with fail
 refine (made_one V1).mono ?_
 rintro eb x0 ⟨v0, rfl, hst, hb1⟩
 obtain ⟨A0, n0, c0, E0, m0, d0, D0, k0, g0, rfl, hI0, -⟩ := hst.at_
 obtain ⟨w0, hV0, hyz0, ho, hb⟩ := box_s x0 (.slice A0 n0 c0) (.slice E0 m0 d0) (.slice D0 k0 g0)
 have HB := Lib.hid (Cv.next HB.out (Cv.next hb1 hb))
 have HS0 := Lib.hid ((hst.lower (Nat.zero_le _)).below hb)
 have hxz0 := hb1.size
 have HO0 := Lib.hid ho
 have HN0 := Lib.hid hI0.1
 clear hst hb1 ho hb hI0
 obtain ⟨i0, i1, i2, _⟩ := HO0.out.get
 go_wp2_with fail
 have hdo := mDo_any (.agg #[.slice A0 n0 c0, .slice E0 m0 d0, .slice D0 k0 g0]) (madeV 1) ⟨5, 0, 0, (o : Int), 0, ⟨#[]⟩, ⟨#[]⟩, data⟩ w0 HS0.out.weak (by show (0 : Nat) ≤ _; omega) (by show (0 : Nat) ≤ _; omega) (by show data.size ≤ _; omega)
 obtain ⟨R1, hR1⟩ : ∃ R, doV (madeV 1) ⟨5, 0, 0, (o : Int), 0, ⟨#[]⟩, ⟨#[]⟩, data⟩ = R := ⟨_, rfl⟩
 rw [hR1] at hdo
 have HR1E := Lib.hid hR1
 refine hdo.mono ?_
 clear hdo hR1
 rintro e1 x1 ⟨v1, rv1, rfl, hst, ⟨F1, f1, p1, rfl, hokF, hnF⟩, hb1⟩
 obtain ⟨A1, n1, c1, E1, m1, d1, D1, k1, g1, rfl, hIk, hDk, -⟩ := hst.at_
 obtain ⟨U1, w1, hU1, hV1, hy1, hyz1, ho, hr, hb⟩ := box_sr x1 (.slice A1 n1 c1) (.slice E1 m1 d1) (.slice D1 k1 g1) R1.2.code R1.2.fd R1.2.num R1.2.dir R1.2.data F1 f1 p1
 have hbb : Below w0.heap.size w0 w1 := Cv.next hb1 hb
 replace HO0 := Lib.hid (HO0.out.mv hbb)
 replace HS0 := Lib.hid (HS0.out.below hbb)
 replace HB := Lib.hid (Cv.next HB.out hbb)
 clear i0 i1 i2
 have hxz1 := hb1.size
 have HR1 := Lib.hid hr
 have hsz1 := hbb.size
 clear hst hb1 ho hr hb hbb hokF hnF hIk hDk
 obtain ⟨r0, r1, r2, r3, r4, r5, _⟩ := HR1.out.get
 have f1 : R1.2.code = 5 := by rw [← HR1E.out, HT.out]
 rw [f1] at r0
 clear f1
 go_wp2_with fail
 go_ret
 exact ⟨rfl, HB.out⟩
set_option maxRecDepth 100000 in
set_option maxHeartbeats 8000000 in
theorem modelWrites_ok (o : Nat) (data : ByteArray) (frm many : Int) (hds : data.size ≤ 140737488351232) (h3 : o + data.size ≤ 256) (w : World) : Calls Tryz.prog 3 #[.int .i64 (o : Int), .string data, .int .i64 frm, .int .i64 many] w fun e w' => e = .returned (.bool true) ∧ Below w.heap.size w w' := by
 obtain ⟨WL, hWL⟩ : ∃ WL, wroteL digsL o data.data.toList = WL := ⟨_, rfl⟩
 have hdl : data.data.toList.length = data.size := rfl
 have hlen : WL.length = if data.size = 0 then 10 else max 10 (o + data.size) := by rw [← hWL, wroteL_len, hdl]; rfl
 have hget : ∀ i, i < WL.length → WL[i]? = some (if o ≤ i ∧ i < o + data.size then data.data.toList.getD (i - o) 0 else digsL.getD i 0) := fun i hi => by rw [← hWL] at hi ⊢; rw [wroteL_get _ _ _ _ hi, hdl]
 have hT := write_ok mw_may mw_len mw_fd (by decide) mw_data rfl o data h3
 rw [txt_list, hWL] at hT
 have hWz : WL.length ≤ 256 := by rw [hlen]; split <;> omega
 have hmay : mayV (stB opn1 (txt WL) (txt [])) = true := may_stB _ (.inl rfl) _ _ (by rw [txt_size]; exact hWz) (by decide)
 obtain ⟨a, ha, haa⟩ := Cv.tmod_u64 frm 257 (by omega)
 rw [show ((257 : Nat) : Int) = 257 from rfl] at haa
 obtain ⟨k, hk, hkk⟩ := Cv.tmod_u64 many 257 (by omega)
 rw [show ((257 : Nat) : Int) = 257 from rfl] at hkk
 have wa : IntKind.i64.wrap (a : Int) = (a : Int) := IntWalk.i64_in _ (by omega)
 have wk : IntKind.i64.wrap (k : Int) = (k : Int) := IntWalk.i64_in _ (by omega)
 have hRd := read_at hmay (show (0 : Int) < 1 by decide) fd_one (by decide) (dataAt_18 _ _ _) a k (by omega) (by omega)
 have hSz := size_at hmay (show (0 : Int) < 1 by decide) fd_one (by decide) (dataAt_18 _ _ _)
 obtain ⟨SZ, hSZ⟩ : ∃ SZ, WL.length = SZ := ⟨_, rfl⟩
 obtain ⟨QL, hQL⟩ : ∃ QL, (WL.drop a).take k = QL := ⟨_, rfl⟩
 have hQlen : QL.length = min k (SZ - a) := by rw [← hQL, List.length_take, List.length_drop, hSZ]
 have hQget : ∀ i, i < QL.length → QL[i]? = some (if o ≤ a + i ∧ a + i < o + data.size then data.data.toList.getD (a + i - o) 0 else digsL.getD (a + i) 0) := fun i hi => by
  rw [← hQL, List.getElem?_take, if_pos (by omega), List.getElem?_drop]
  exact hget _ (by omega)
 rw [txt_list, hQL] at hRd
 rw [txt_size, hSZ] at hSz
 rw [hSZ] at hlen hWz
 have g1 : decide ((o : Int) < 0) = false := by rw [decide_eq_false_iff_not]; omega
 have g2 : decide ((256 : Int) < (o : Int)) = false := by rw [decide_eq_false_iff_not]; omega
 have g3 : decide ((256 : Int) < (data.size : Int)) = false := by rw [decide_eq_false_iff_not]; omega
 have g4 : IntKind.i64.wrap ((o : Int) + (data.size : Int)) = (o : Int) + (data.size : Int) := IntWalk.i64_in _ (by omega)
 have g5 : decide ((256 : Int) < (o : Int) + (data.size : Int)) = false := by rw [decide_eq_false_iff_not]; omega
 have HT := Lib.hid hT
 have HRD := Lib.hid hRd
 have HSZ := Lib.hid hSz
 have HLEN := Lib.hid hlen
 have HQL := Lib.hid hQlen
 have HQG := Lib.hid hQget
 clear hT hRd hSz hlen hQlen hQget hget hWL hdl hmay hSZ hQL
 go_enter Tryz.func3, Tryz.ntmps3
 go_wp2_with fail
 refine (awake13 _).mono ?_
 rintro ea V1 ⟨rfl, hb1⟩
 have HB := Lib.hid hb1
 have hw1 := hb1.size
 clear hb1
 go_wp2_with fail
 refine (made_one V1).mono ?_
 rintro eb x0 ⟨v0, rfl, hst, hb1⟩
 obtain ⟨A0, n0, c0, E0, m0, d0, D0, k0, g0, rfl, hI0, -⟩ := hst.at_
 obtain ⟨w0, hV0, hyz0, ho, hb⟩ := box_s x0 (.slice A0 n0 c0) (.slice E0 m0 d0) (.slice D0 k0 g0)
 have HB := Lib.hid (Cv.next HB.out (Cv.next hb1 hb))
 have HS0 := Lib.hid ((hst.lower (Nat.zero_le _)).below hb)
 have hxz0 := hb1.size
 have HO0 := Lib.hid ho
 have HN0 := Lib.hid hI0.1
 clear hst hb1 ho hb hI0
 obtain ⟨i0, i1, i2, _⟩ := HO0.out.get
 go_wp2_with fail
 have hdo := mDo_any (.agg #[.slice A0 n0 c0, .slice E0 m0 d0, .slice D0 k0 g0]) (madeV 1) ⟨5, 0, 0, (o : Int), 0, ⟨#[]⟩, ⟨#[]⟩, data⟩ w0 HS0.out.weak (by show (0 : Nat) ≤ _; omega) (by show (0 : Nat) ≤ _; omega) (by show data.size ≤ _; omega)
 obtain ⟨R1, hR1⟩ : ∃ R, doV (madeV 1) ⟨5, 0, 0, (o : Int), 0, ⟨#[]⟩, ⟨#[]⟩, data⟩ = R := ⟨_, rfl⟩
 rw [hR1] at hdo
 have HR1E := Lib.hid hR1
 refine hdo.mono ?_
 clear hdo hR1
 rintro e1 x1 ⟨v1, rv1, rfl, hst, ⟨F1, f1, p1, rfl, hokF, hnF⟩, hb1⟩
 obtain ⟨A1, n1, c1, E1, m1, d1, D1, k1, g1, rfl, hIk, hDk, -⟩ := hst.at_
 obtain ⟨U1, w1, hU1, hV1, hy1, hyz1, ho, hr, hb⟩ := box_sr x1 (.slice A1 n1 c1) (.slice E1 m1 d1) (.slice D1 k1 g1) R1.2.code R1.2.fd R1.2.num R1.2.dir R1.2.data F1 f1 p1
 have hbb : Below w0.heap.size w0 w1 := Cv.next hb1 hb
 replace HO0 := Lib.hid (HO0.out.mv hbb)
 replace HS0 := Lib.hid (HS0.out.below hbb)
 replace HB := Lib.hid (Cv.next HB.out hbb)
 clear i0 i1 i2
 have HS1 := Lib.hid ((hst.lower (Nat.zero_le _)).below hb)
 have hxz1 := hb1.size
 have HO1 := Lib.hid ho
 have HR1 := Lib.hid hr
 have hsz1 := hbb.size
 clear hst hb1 ho hr hb hbb hokF hnF hIk hDk
 obtain ⟨t0, t1, t2, _⟩ := HO1.out.get
 have f2 : R1.1 = stB opn1 (txt WL) (txt []) := by rw [← HR1E.out, HT.out]; rfl
 rw [f2] at HS1
 clear f2
 have G1 := Lib.hid (show R1.2.code = 0 by rw [← HR1E.out, HT.out])
 have G2 := Lib.hid (show R1.2.num = (data.size : Int) by rw [← HR1E.out, HT.out])
 obtain ⟨S2, hS2⟩ : ∃ S2 : Int, (if data.size = 0 then (10 : Int) else max 10 ((o : Int) + (data.size : Int))) = S2 := ⟨_, rfl⟩
 by_cases hd0 : data.size = 0
 ·have hdn : data.toList = [] := ba_nil_eq (ba_empty hd0)
  have hsz : SZ = 10 := by rw [HLEN.out, if_pos hd0]
  go_wp2_with fail
  have hdo := mDo_any (.agg #[.slice A1 n1 c1, .slice E1 m1 d1, .slice D1 k1 g1]) (stB opn1 (txt WL) (txt [])) ⟨4, 0, 0, (a : Int), (k : Int), ⟨#[]⟩, ⟨#[]⟩, ⟨#[]⟩⟩ w1 HS1.out.weak (by show (0 : Nat) ≤ _; omega) (by show (0 : Nat) ≤ _; omega) (by show (0 : Nat) ≤ _; omega)
  obtain ⟨R2, hR2⟩ : ∃ R, doV (stB opn1 (txt WL) (txt [])) ⟨4, 0, 0, (a : Int), (k : Int), ⟨#[]⟩, ⟨#[]⟩, ⟨#[]⟩⟩ = R := ⟨_, rfl⟩
  rw [hR2] at hdo
  have HR2E := Lib.hid hR2
  refine hdo.mono ?_
  clear hdo hR2
  rintro e2 x2 ⟨v2, rv2, rfl, hst, ⟨F2, f2, p2, rfl, hokF, hnF⟩, hb1⟩
  obtain ⟨A2, n2, c2, E2, m2, d2, D2, k2, g2, rfl, hIk, hDk, -⟩ := hst.at_
  obtain ⟨U2, w2, hU2, hV2, hy1, hyz2, ho, hr, hb⟩ := box_sr x2 (.slice A2 n2 c2) (.slice E2 m2 d2) (.slice D2 k2 g2) R2.2.code R2.2.fd R2.2.num R2.2.dir R2.2.data F2 f2 p2
  have hbb : Below w1.heap.size w1 w2 := Cv.next hb1 hb
  replace HO0 := Lib.hid (HO0.out.mv hbb)
  replace HO1 := Lib.hid (HO1.out.mv hbb)
  replace HR1 := Lib.hid (HR1.out.mv hbb)
  replace HS0 := Lib.hid (HS0.out.below hbb)
  replace HS1 := Lib.hid (HS1.out.below hbb)
  replace HB := Lib.hid (Cv.next HB.out hbb)
  clear t0 t1 t2
  have hxz2 := hb1.size
  have HR2 := Lib.hid hr
  have hsz2 := hbb.size
  clear hst hb1 ho hr hb hbb hokF hnF hIk hDk
  obtain ⟨t0, t1, t2, _⟩ := HO1.out.get
  go_wp2_with fail
  have hdo := mDo_any (.agg #[.slice A1 n1 c1, .slice E1 m1 d1, .slice D1 k1 g1]) (stB opn1 (txt WL) (txt [])) ⟨7, 0, 0, 0, 0, ⟨#[]⟩, ⟨#[]⟩, ⟨#[]⟩⟩ w2 HS1.out.weak (by show (0 : Nat) ≤ _; omega) (by show (0 : Nat) ≤ _; omega) (by show (0 : Nat) ≤ _; omega)
  obtain ⟨R3, hR3⟩ : ∃ R, doV (stB opn1 (txt WL) (txt [])) ⟨7, 0, 0, 0, 0, ⟨#[]⟩, ⟨#[]⟩, ⟨#[]⟩⟩ = R := ⟨_, rfl⟩
  rw [hR3] at hdo
  have HR3E := Lib.hid hR3
  refine hdo.mono ?_
  clear hdo hR3
  rintro e3 x3 ⟨v3, rv3, rfl, hst, ⟨F3, f3, p3, rfl, hokF, hnF⟩, hb1⟩
  obtain ⟨A3, n3, c3, E3, m3, d3, D3, k3, g3, rfl, hIk, hDk, -⟩ := hst.at_
  obtain ⟨U3, w3, hU3, hV3, hy1, hyz3, ho, hr, hb⟩ := box_sr x3 (.slice A3 n3 c3) (.slice E3 m3 d3) (.slice D3 k3 g3) R3.2.code R3.2.fd R3.2.num R3.2.dir R3.2.data F3 f3 p3
  have hbb : Below w2.heap.size w2 w3 := Cv.next hb1 hb
  replace HO0 := Lib.hid (HO0.out.mv hbb)
  replace HO1 := Lib.hid (HO1.out.mv hbb)
  replace HR1 := Lib.hid (HR1.out.mv hbb)
  replace HR2 := Lib.hid (HR2.out.mv hbb)
  replace HS0 := Lib.hid (HS0.out.below hbb)
  replace HS1 := Lib.hid (HS1.out.below hbb)
  replace HB := Lib.hid (Cv.next HB.out hbb)
  clear t0 t1 t2
  have hxz3 := hb1.size
  have HR3 := Lib.hid hr
  have hsz3 := hbb.size
  clear hst hb1 ho hr hb hbb hokF hnF hIk hDk
  have f1 := G1.out
  have f2 := G2.out
  have f3 : R2.2.code = 0 := by rw [← HR2E.out, HRD.out]
  have f4 : R2.2.data = txt QL := by rw [← HR2E.out, HRD.out]
  have f5 : R3.2.num = (SZ : Int) := by rw [← HR3E.out, HSZ.out]
  obtain ⟨r0, r1, r2, r3, r4, r5, _⟩ := HR1.out.get
  obtain ⟨q0, q1, q2, q3, q4, q5, _⟩ := HR2.out.get
  obtain ⟨u0, u1, u2, u3, u4, u5, _⟩ := HR3.out.get
  rw [f1] at r0
  rw [f2] at r2
  rw [f3] at q0
  rw [f4] at q4
  rw [f5] at u2
  clear f1 f2 f3 f4 f5
  have fz : (txt QL).size = QL.length := txt_size QL
  obtain ⟨NL, hNL⟩ : ∃ NL, QL.length = NL := ⟨_, rfl⟩
  have hql := HQL.out
  rw [hNL] at hql fz
  subst hsz
  have hmm : max (0 : Int) (min (k : Int) (10 - (a : Int))) = (NL : Int) := by omega
  have hws : IntKind.i64.wrap (10 - (a : Int)) = 10 - (a : Int) := IntWalk.i64_in _ (by omega)
  have HQ2 := Lib.hid hql
  have HNL := Lib.hid hNL
  clear hql hNL
  go_wp2_with fail
  go_loopw [20] (fun i wr => ∃ q : Nat, i = .int .i64 q ∧ q ≤ NL ∧ wr = w3) (fun i _ => NL - (intOf i).toNat)
  case atStart => exact ⟨0, rfl, by omega, rfl⟩
  case round =>
   obtain ⟨q, rfl, hq, rfl⟩ := hrel
   by_cases hlt : q < NL
   ·have g11 : (0 : Int) ≤ (q : Int) := by omega
    have g12 : (q : Int) < (NL : Int) := by omega
    have g13 : (q : Int).toNat = q := by omega
    have hz : q < (txt QL).size := by omega
    have hnl := HNL.out
    have hq2 := HQ2.out
    have hgt := txt_get2 QL q hz (HQG.out q (by omega))
    obtain ⟨P, hP⟩ : ∃ P, a + q = P := ⟨_, rfl⟩
    have hPw : IntKind.i64.wrap ((a : Int) + (q : Int)) = (P : Int) := by rw [IntWalk.i64_in _ (by omega)]; omega
    have hqw : IntKind.i64.wrap ((q : Int) + 1) = (q : Int) + 1 := IntWalk.i64_in _ (by omega)
    rw [hP] at hgt
    have p0 : (0 : Int) ≤ (P : Int) := by omega
    have pt : (P : Int).toNat = P := by omega
    clear hnl hq2 hP
    by_cases hin : o ≤ P ∧ P < o + data.size
    ·exfalso
     omega
    ·rw [if_neg hin] at hgt
     by_cases h10 : P < 10
     ·have g14 : (P : Int) < 10 := by omega
      have hP10 : P < (⟨#[48, 49, 50, 51, 52, 53, 54, 55, 56, 57]⟩ : ByteArray).size := by show P < 10; exact h10
      have heq : (txt QL)[q]'hz = (⟨#[48, 49, 50, 51, 52, 53, 54, 55, 56, 57]⟩ : ByteArray)[P]'hP10 := by rw [hgt]; exact (ba_get _ P hP10).symm
      clear hgt
      by_cases hop : o ≤ P
      ·have i1 : (o : Int) ≤ (P : Int) := by omega
       have i2 : decide ((P : Int) < (o : Int) + (data.size : Int)) = false := by rw [decide_eq_false_iff_not]; omega
       go_wp2_with fail
       go_roundw
       case rel => exact ⟨q + 1, by go_num, by omega, by trivial⟩
       case measure => simp [intOf]; omega
      ·have i1 : decide ((o : Int) ≤ (P : Int)) = false := by rw [decide_eq_false_iff_not]; omega
       go_wp2_with fail
       go_roundw
       case rel => exact ⟨q + 1, by go_num, by omega, by trivial⟩
       case measure => simp [intOf]; omega
     ·have g14 : decide ((P : Int) < 10) = false := by rw [decide_eq_false_iff_not]; omega
      have heq : (((txt QL)[q]'hz).toNat : Int) = 0 := by rw [hgt]; exact digs_hi2 P (by omega)
      clear hgt
      by_cases hop : o ≤ P
      ·have i1 : (o : Int) ≤ (P : Int) := by omega
       have i2 : decide ((P : Int) < (o : Int) + (data.size : Int)) = false := by rw [decide_eq_false_iff_not]; omega
       go_wp2_with fail
       go_roundw
       case rel => exact ⟨q + 1, by go_num, by omega, by trivial⟩
       case measure => simp [intOf]; omega
      ·have i1 : decide ((o : Int) ≤ (P : Int)) = false := by rw [decide_eq_false_iff_not]; omega
       go_wp2_with fail
       go_roundw
       case rel => exact ⟨q + 1, by go_num, by omega, by trivial⟩
       case measure => simp [intOf]; omega
   ·have e9 : q = NL := by omega
    subst e9
    have g7 : decide ((q : Int) < (q : Int)) = false := by simp
    go_wp2_with fail
    go_ret
    exact ⟨rfl, HB.out⟩
 ·have hdn : ¬ data.toList = [] := ba_nil_ne (fun e => hd0 (by rw [e]; rfl))
  have hde : data.toList.isEmpty = false := by cases h : data.toList with | nil => exact absurd h hdn | cons a b => rfl
  have hsz : SZ = max 10 (o + data.size) := by rw [HLEN.out, if_neg hd0]
  have hmx : max (10 : Int) ((o : Int) + (data.size : Int)) = (SZ : Int) := by omega
  go_wp2_with fail
  have hdo := mDo_any (.agg #[.slice A1 n1 c1, .slice E1 m1 d1, .slice D1 k1 g1]) (stB opn1 (txt WL) (txt [])) ⟨4, 0, 0, (a : Int), (k : Int), ⟨#[]⟩, ⟨#[]⟩, ⟨#[]⟩⟩ w1 HS1.out.weak (by show (0 : Nat) ≤ _; omega) (by show (0 : Nat) ≤ _; omega) (by show (0 : Nat) ≤ _; omega)
  obtain ⟨R2, hR2⟩ : ∃ R, doV (stB opn1 (txt WL) (txt [])) ⟨4, 0, 0, (a : Int), (k : Int), ⟨#[]⟩, ⟨#[]⟩, ⟨#[]⟩⟩ = R := ⟨_, rfl⟩
  rw [hR2] at hdo
  have HR2E := Lib.hid hR2
  refine hdo.mono ?_
  clear hdo hR2
  rintro e2 x2 ⟨v2, rv2, rfl, hst, ⟨F2, f2, p2, rfl, hokF, hnF⟩, hb1⟩
  obtain ⟨A2, n2, c2, E2, m2, d2, D2, k2, g2, rfl, hIk, hDk, -⟩ := hst.at_
  obtain ⟨U2, w2, hU2, hV2, hy1, hyz2, ho, hr, hb⟩ := box_sr x2 (.slice A2 n2 c2) (.slice E2 m2 d2) (.slice D2 k2 g2) R2.2.code R2.2.fd R2.2.num R2.2.dir R2.2.data F2 f2 p2
  have hbb : Below w1.heap.size w1 w2 := Cv.next hb1 hb
  replace HO0 := Lib.hid (HO0.out.mv hbb)
  replace HO1 := Lib.hid (HO1.out.mv hbb)
  replace HR1 := Lib.hid (HR1.out.mv hbb)
  replace HS0 := Lib.hid (HS0.out.below hbb)
  replace HS1 := Lib.hid (HS1.out.below hbb)
  replace HB := Lib.hid (Cv.next HB.out hbb)
  clear t0 t1 t2
  have hxz2 := hb1.size
  have HR2 := Lib.hid hr
  have hsz2 := hbb.size
  clear hst hb1 ho hr hb hbb hokF hnF hIk hDk
  obtain ⟨t0, t1, t2, _⟩ := HO1.out.get
  go_wp2_with fail
  have hdo := mDo_any (.agg #[.slice A1 n1 c1, .slice E1 m1 d1, .slice D1 k1 g1]) (stB opn1 (txt WL) (txt [])) ⟨7, 0, 0, 0, 0, ⟨#[]⟩, ⟨#[]⟩, ⟨#[]⟩⟩ w2 HS1.out.weak (by show (0 : Nat) ≤ _; omega) (by show (0 : Nat) ≤ _; omega) (by show (0 : Nat) ≤ _; omega)
  obtain ⟨R3, hR3⟩ : ∃ R, doV (stB opn1 (txt WL) (txt [])) ⟨7, 0, 0, 0, 0, ⟨#[]⟩, ⟨#[]⟩, ⟨#[]⟩⟩ = R := ⟨_, rfl⟩
  rw [hR3] at hdo
  have HR3E := Lib.hid hR3
  refine hdo.mono ?_
  clear hdo hR3
  rintro e3 x3 ⟨v3, rv3, rfl, hst, ⟨F3, f3, p3, rfl, hokF, hnF⟩, hb1⟩
  obtain ⟨A3, n3, c3, E3, m3, d3, D3, k3, g3, rfl, hIk, hDk, -⟩ := hst.at_
  obtain ⟨U3, w3, hU3, hV3, hy1, hyz3, ho, hr, hb⟩ := box_sr x3 (.slice A3 n3 c3) (.slice E3 m3 d3) (.slice D3 k3 g3) R3.2.code R3.2.fd R3.2.num R3.2.dir R3.2.data F3 f3 p3
  have hbb : Below w2.heap.size w2 w3 := Cv.next hb1 hb
  replace HO0 := Lib.hid (HO0.out.mv hbb)
  replace HO1 := Lib.hid (HO1.out.mv hbb)
  replace HR1 := Lib.hid (HR1.out.mv hbb)
  replace HR2 := Lib.hid (HR2.out.mv hbb)
  replace HS0 := Lib.hid (HS0.out.below hbb)
  replace HS1 := Lib.hid (HS1.out.below hbb)
  replace HB := Lib.hid (Cv.next HB.out hbb)
  clear t0 t1 t2
  have hxz3 := hb1.size
  have HR3 := Lib.hid hr
  have hsz3 := hbb.size
  clear hst hb1 ho hr hb hbb hokF hnF hIk hDk
  have f1 := G1.out
  have f2 := G2.out
  have f3 : R2.2.code = 0 := by rw [← HR2E.out, HRD.out]
  have f4 : R2.2.data = txt QL := by rw [← HR2E.out, HRD.out]
  have f5 : R3.2.num = (SZ : Int) := by rw [← HR3E.out, HSZ.out]
  obtain ⟨r0, r1, r2, r3, r4, r5, _⟩ := HR1.out.get
  obtain ⟨q0, q1, q2, q3, q4, q5, _⟩ := HR2.out.get
  obtain ⟨u0, u1, u2, u3, u4, u5, _⟩ := HR3.out.get
  rw [f1] at r0
  rw [f2] at r2
  rw [f3] at q0
  rw [f4] at q4
  rw [f5] at u2
  clear f1 f2 f3 f4 f5
  have fz : (txt QL).size = QL.length := txt_size QL
  obtain ⟨NL, hNL⟩ : ∃ NL, QL.length = NL := ⟨_, rfl⟩
  have hql := HQL.out
  rw [hNL] at hql fz
  have hmm : max (0 : Int) (min (k : Int) ((SZ : Int) - (a : Int))) = (NL : Int) := by omega
  have hws : IntKind.i64.wrap ((SZ : Int) - (a : Int)) = (SZ : Int) - (a : Int) := IntWalk.i64_in _ (by omega)
  have HQ2 := Lib.hid hql
  have HNL := Lib.hid hNL
  clear hql hNL
  clear hsz
  go_wp2_with fail
  go_loopw [20] (fun i wr => ∃ q : Nat, i = .int .i64 q ∧ q ≤ NL ∧ wr = w3) (fun i _ => NL - (intOf i).toNat)
  case atStart => exact ⟨0, rfl, by omega, rfl⟩
  case round =>
   obtain ⟨q, rfl, hq, rfl⟩ := hrel
   by_cases hlt : q < NL
   ·have g11 : (0 : Int) ≤ (q : Int) := by omega
    have g12 : (q : Int) < (NL : Int) := by omega
    have g13 : (q : Int).toNat = q := by omega
    have hz : q < (txt QL).size := by omega
    have hnl := HNL.out
    have hq2 := HQ2.out
    have hgt := txt_get2 QL q hz (HQG.out q (by omega))
    obtain ⟨P, hP⟩ : ∃ P, a + q = P := ⟨_, rfl⟩
    have hPw : IntKind.i64.wrap ((a : Int) + (q : Int)) = (P : Int) := by rw [IntWalk.i64_in _ (by omega)]; omega
    have hqw : IntKind.i64.wrap ((q : Int) + 1) = (q : Int) + 1 := IntWalk.i64_in _ (by omega)
    rw [hP] at hgt
    have p0 : (0 : Int) ≤ (P : Int) := by omega
    have pt : (P : Int).toNat = P := by omega
    clear hnl hq2 hP
    by_cases hin : o ≤ P ∧ P < o + data.size
    ·rw [if_pos hin] at hgt
     obtain ⟨r, hr⟩ : ∃ r, P - o = r := ⟨_, rfl⟩
     rw [hr] at hgt
     have hrw : IntKind.i64.wrap ((P : Int) - (o : Int)) = (r : Int) := by rw [IntWalk.i64_in _ (by omega)]; omega
     have hrs : r < data.size := by omega
     have heq : (txt QL)[q]'hz = data[r]'hrs := by rw [hgt]; exact (ba_get data r hrs).symm
     have r0 : (0 : Int) ≤ (r : Int) := by omega
     have r1 : (r : Int) < (data.size : Int) := by omega
     have rt : (r : Int).toNat = r := by omega
     have i1 : (o : Int) ≤ (P : Int) := by omega
     have i2 : (P : Int) < (o : Int) + (data.size : Int) := by omega
     clear hgt hr hin
     by_cases h10 : P < 10
     ·have g14 : (P : Int) < 10 := by omega
      have hP10 : P < (⟨#[48, 49, 50, 51, 52, 53, 54, 55, 56, 57]⟩ : ByteArray).size := by show P < 10; exact h10
      go_wp2_with fail
      go_roundw
      case rel => exact ⟨q + 1, by go_num, by omega, by trivial⟩
      case measure => simp [intOf]; omega
     ·have g14 : decide ((P : Int) < 10) = false := by rw [decide_eq_false_iff_not]; omega
      go_wp2_with fail
      go_roundw
      case rel => exact ⟨q + 1, by go_num, by omega, by trivial⟩
      case measure => simp [intOf]; omega
    ·rw [if_neg hin] at hgt
     by_cases h10 : P < 10
     ·have g14 : (P : Int) < 10 := by omega
      have hP10 : P < (⟨#[48, 49, 50, 51, 52, 53, 54, 55, 56, 57]⟩ : ByteArray).size := by show P < 10; exact h10
      have heq : (txt QL)[q]'hz = (⟨#[48, 49, 50, 51, 52, 53, 54, 55, 56, 57]⟩ : ByteArray)[P]'hP10 := by rw [hgt]; exact (ba_get _ P hP10).symm
      clear hgt
      by_cases hop : o ≤ P
      ·have i1 : (o : Int) ≤ (P : Int) := by omega
       have i2 : decide ((P : Int) < (o : Int) + (data.size : Int)) = false := by rw [decide_eq_false_iff_not]; omega
       go_wp2_with fail
       go_roundw
       case rel => exact ⟨q + 1, by go_num, by omega, by trivial⟩
       case measure => simp [intOf]; omega
      ·have i1 : decide ((o : Int) ≤ (P : Int)) = false := by rw [decide_eq_false_iff_not]; omega
       go_wp2_with fail
       go_roundw
       case rel => exact ⟨q + 1, by go_num, by omega, by trivial⟩
       case measure => simp [intOf]; omega
     ·have g14 : decide ((P : Int) < 10) = false := by rw [decide_eq_false_iff_not]; omega
      have heq : (((txt QL)[q]'hz).toNat : Int) = 0 := by rw [hgt]; exact digs_hi2 P (by omega)
      clear hgt
      by_cases hop : o ≤ P
      ·have i1 : (o : Int) ≤ (P : Int) := by omega
       have i2 : decide ((P : Int) < (o : Int) + (data.size : Int)) = false := by rw [decide_eq_false_iff_not]; omega
       go_wp2_with fail
       go_roundw
       case rel => exact ⟨q + 1, by go_num, by omega, by trivial⟩
       case measure => simp [intOf]; omega
      ·have i1 : decide ((o : Int) ≤ (P : Int)) = false := by rw [decide_eq_false_iff_not]; omega
       go_wp2_with fail
       go_roundw
       case rel => exact ⟨q + 1, by go_num, by omega, by trivial⟩
       case measure => simp [intOf]; omega
   ·have e9 : q = NL := by omega
    subst e9
    have g7 : decide ((q : Int) < (q : Int)) = false := by simp
    go_wp2_with fail
    go_ret
    exact ⟨rfl, HB.out⟩
theorem modelWrites_walk (off : Int) (h01 : (Lit.int .i64 off).wf = true) (data : ByteArray) (hds : data.size ≤ 140737488351232) (frm : Int) (h02 : (Lit.int .i64 frm).wf = true) (many : Int) (h03 : (Lit.int .i64 many).wf = true) (w : World) : Calls Tryz.prog 3 #[.int .i64 off, .string data, .int .i64 frm, .int .i64 many] w fun e w' => e = .returned (.bool true) ∧ Below w.heap.size w w' := by
 by_cases h1 : off < 0
 ·exact modelWrites_neg off data frm many hds h1 w
 ·by_cases h2 : 256 < off
  ·exact modelWrites_far off data frm many hds ⟨h1, h2⟩ w
  ·by_cases h3 : 256 < data.size
   ·exact modelWrites_big off data frm many hds ⟨h1, h2, h3⟩ w
   ·obtain ⟨o, rfl⟩ : ∃ o : Nat, off = (o : Int) := ⟨off.toNat, by omega⟩
    by_cases h4 : 256 < o + data.size
    ·exact modelWrites_full o data frm many hds (by omega) (by omega) h4 w
    ·exact modelWrites_ok o data frm many hds (by omega) w
end Go.Proofs.YtndcloohcfhejaaGreat
