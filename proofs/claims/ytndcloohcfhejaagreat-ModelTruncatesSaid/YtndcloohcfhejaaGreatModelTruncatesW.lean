/- The law ModelTruncates: its walk (printed by wip/gen_trunc.py). -/
import Derived.Test.YtndcloohcfhejaaGreatM43
import Derived.Test.YtndcloohcfhejaaGreatBytesP
set_option linter.unusedVariables false
set_option linter.unusedSimpArgs false
namespace Go.Proofs.YtndcloohcfhejaaGreat
open Go.RowKit
theorem made_len : 0 < ((madeV 1).made.length : Int) := by decide
theorem made_fd : fdV (madeV 1).opn 0 0 = 18 := by decide
theorem made_may : mayV (madeV 1) = true := may_made 1 (.inl rfl)
theorem txt_get (L : List UInt8) (q : Nat) (h : q < (txt L).size) {b : UInt8} (hb : L[q]? = some b) : (txt L)[q]'h = b := by
 have h2 : q < L.length := h
 rw [List.getElem?_eq_getElem h2] at hb
 show L.toArray[q]'(by simpa using h2) = b
 simpa using hb
theorem digs_lo : ∀ q < 10, ((digsL.getD q 0).toNat : Int) = 48 + (q : Int) := by decide
theorem digs_hi (q : Nat) (h : 10 ≤ q) : ((digsL.getD q 0).toNat : Int) = 0 := by
 rw [List.getD_eq_getElem?_getD, List.getElem?_eq_none (by simpa [digsL] using h)]
 rfl
theorem made_data : dataAt (madeV 1).inos 18 = txt digsL := rfl
set_option maxRecDepth 100000 in
set_option maxHeartbeats 8000000 in
theorem modelTruncates_bad (k : Int) (hk : k < 0 ∨ 256 < k) (w : World) : Calls Tryz.prog 4 #[.int .i64 k] w fun e w' => e = .returned (.bool true) ∧ Below w.heap.size w w' := by
 have HT := Lib.hid (trunc_bad made_may made_len made_fd (by decide) k hk)
 have HK := Lib.hid hk
 clear hk
 go_enter Tryz.func4, Tryz.ntmps4
 go_wp2_with fail
 refine (awake13 _).mono ?_
 rintro ea V1 ⟨rfl, hb1⟩
 have HB := Lib.hid hb1
 have hw1 := hb1.size
 clear hb1
 go_wp2_with fail
 refine (made_one V1).mono ?_
 rintro eb x0 ⟨v0, rfl, hst, hb1⟩
 obtain ⟨A0, n0, c0, E0, m0, d0, D0, k0, g0, rfl, hI0, -⟩ := hst.at_
 obtain ⟨w0, hV0, hyz0, ho, hb⟩ := box_s x0 (.slice A0 n0 c0) (.slice E0 m0 d0) (.slice D0 k0 g0)
 have HB := Lib.hid (Cv.next HB.out (Cv.next hb1 hb))
 have HS0 := Lib.hid ((hst.lower (Nat.zero_le _)).below hb)
 have hxz0 := hb1.size
 have HO0 := Lib.hid ho
 have HN0 := Lib.hid hI0.1
 clear hst hb1 ho hb hI0
 obtain ⟨i0, i1, i2, _⟩ := HO0.out.get
 go_wp2_with fail
 have hdo := mDo_any (.agg #[.slice A0 n0 c0, .slice E0 m0 d0, .slice D0 k0 g0]) (madeV 1) ⟨6, 0, 0, 0, k, ⟨#[]⟩, ⟨#[]⟩, ⟨#[]⟩⟩ w0 HS0.out.weak (by show (0 : Nat) ≤ _; omega) (by show (0 : Nat) ≤ _; omega) (by show (0 : Nat) ≤ _; omega)
 obtain ⟨R1, hR1⟩ : ∃ R, doV (madeV 1) ⟨6, 0, 0, 0, k, ⟨#[]⟩, ⟨#[]⟩, ⟨#[]⟩⟩ = R := ⟨_, rfl⟩
 rw [hR1] at hdo
 have HR1E := Lib.hid hR1
 refine hdo.mono ?_
 clear hdo hR1
 rintro e1 x1 ⟨v1, rv1, rfl, hst, ⟨F1, f1, p1, rfl, hokF, hnF⟩, hb1⟩
 obtain ⟨A1, n1, c1, E1, m1, d1, D1, k1, g1, rfl, hIk, hDk, -⟩ := hst.at_
 obtain ⟨U1, w1, hU1, hV1, hy1, hyz1, ho, hr, hb⟩ := box_sr x1 (.slice A1 n1 c1) (.slice E1 m1 d1) (.slice D1 k1 g1) R1.2.code R1.2.fd R1.2.num R1.2.dir R1.2.data F1 f1 p1
 have hbb : Below w0.heap.size w0 w1 := Cv.next hb1 hb
 replace HO0 := Lib.hid (HO0.out.mv hbb)
 replace HS0 := Lib.hid (HS0.out.below hbb)
 replace HB := Lib.hid (Cv.next HB.out hbb)
 clear i0 i1 i2
 have HS1 := Lib.hid ((hst.lower (Nat.zero_le _)).below hb)
 have hxz1 := hb1.size
 have HO1 := Lib.hid ho
 have HR1 := Lib.hid hr
 have hsz1 := hbb.size
 clear hst hb1 ho hr hb hbb hokF hnF hIk hDk
 obtain ⟨i0, i1, i2, _⟩ := HO0.out.get
 obtain ⟨t0, t1, t2, _⟩ := HO1.out.get
 obtain ⟨r0, r1, r2, r3, r4, r5, _⟩ := HR1.out.get
 have f1 : R1.2.code = 9 := by rw [← HR1E.out, HT.out]
 have f2 : R1.1 = madeV 1 := by rw [← HR1E.out, HT.out]
 rw [f1] at r0
 rw [f2] at HS1
 clear f1 f2
 by_cases h0 : k < 0
 ·go_wp2_with fail
  refine (plain_any _ _ (madeV 1) (madeV 1) w1 HS0.out.weak HS1.out.weak).mono ?_
  rintro e5 V5 ⟨rfl, hb5⟩
  rw [plainV_yes rfl]
  have HB5 := Lib.hid (Cv.next HB.out hb5)
  clear hb5
  go_wp2_with fail
  go_ret
  exact ⟨rfl, HB5.out⟩
 ·have h1 : (256 : Int) < k := by have := HK.out; omega
  have h2 : decide (k < 0) = false := by rw [decide_eq_false_iff_not]; exact h0
  clear h0
  go_wp2_with fail
  refine (plain_any _ _ (madeV 1) (madeV 1) w1 HS0.out.weak HS1.out.weak).mono ?_
  rintro e5 V5 ⟨rfl, hb5⟩
  rw [plainV_yes rfl]
  have HB5 := Lib.hid (Cv.next HB.out hb5)
  clear hb5
  go_wp2_with fail
  go_ret
  exact ⟨rfl, HB5.out⟩
set_option maxRecDepth 100000 in
set_option maxHeartbeats 8000000 in
theorem modelTruncates_ok (m : Nat) (hm : m ≤ 256) (w : World) : Calls Tryz.prog 4 #[.int .i64 (m : Int)] w fun e w' => e = .returned (.bool true) ∧ Below w.heap.size w w' := by
 have h1 : decide ((m : Int) < 0) = false := by rw [decide_eq_false_iff_not]; omega
 have h2 : decide ((256 : Int) < (m : Int)) = false := by rw [decide_eq_false_iff_not]; omega
 obtain ⟨L, hL⟩ : ∃ L, sizedL digsL m = L := ⟨_, rfl⟩
 have hLl : L.length = m := by rw [← hL]; exact sizedL_lenB _ _
 have hLg : ∀ i, i < m → L[i]? = some (digsL.getD i 0) := fun i hi => by rw [← hL]; exact sizedL_get _ _ _ hi
 have hT := trunc_ok made_may made_len made_fd (by decide) made_data m hm
 rw [txt_list, hL] at hT
 have hmay : mayV (stB opn1 (txt L) (txt [])) = true := may_stB _ (.inl rfl) _ _ (by rw [txt_size]; omega) (by decide)
 have hRd := read_at (off := 0) (num := 256) hmay (show (0 : Int) < 1 by decide) fd_one (by decide) (dataAt_18 _ _ _) (by omega) (by omega)
 rw [txt_list, List.drop_zero, List.take_of_length_le (by omega)] at hRd
 have HT := Lib.hid hT
 have HRD := Lib.hid hRd
 have HLG := Lib.hid hLg
 have HLL := Lib.hid hLl
 have HM := Lib.hid hm
 clear hm hL hLl hLg hT hmay hRd
 go_enter Tryz.func4, Tryz.ntmps4
 go_wp2_with fail
 refine (awake13 _).mono ?_
 rintro ea V1 ⟨rfl, hb1⟩
 have HB := Lib.hid hb1
 have hw1 := hb1.size
 clear hb1
 go_wp2_with fail
 refine (made_one V1).mono ?_
 rintro eb x0 ⟨v0, rfl, hst, hb1⟩
 obtain ⟨A0, n0, c0, E0, m0, d0, D0, k0, g0, rfl, hI0, -⟩ := hst.at_
 obtain ⟨w0, hV0, hyz0, ho, hb⟩ := box_s x0 (.slice A0 n0 c0) (.slice E0 m0 d0) (.slice D0 k0 g0)
 have HB := Lib.hid (Cv.next HB.out (Cv.next hb1 hb))
 have HS0 := Lib.hid ((hst.lower (Nat.zero_le _)).below hb)
 have hxz0 := hb1.size
 have HO0 := Lib.hid ho
 have HN0 := Lib.hid hI0.1
 clear hst hb1 ho hb hI0
 obtain ⟨i0, i1, i2, _⟩ := HO0.out.get
 go_wp2_with fail
 have hdo := mDo_any (.agg #[.slice A0 n0 c0, .slice E0 m0 d0, .slice D0 k0 g0]) (madeV 1) ⟨6, 0, 0, 0, (m : Int), ⟨#[]⟩, ⟨#[]⟩, ⟨#[]⟩⟩ w0 HS0.out.weak (by show (0 : Nat) ≤ _; omega) (by show (0 : Nat) ≤ _; omega) (by show (0 : Nat) ≤ _; omega)
 obtain ⟨R1, hR1⟩ : ∃ R, doV (madeV 1) ⟨6, 0, 0, 0, (m : Int), ⟨#[]⟩, ⟨#[]⟩, ⟨#[]⟩⟩ = R := ⟨_, rfl⟩
 rw [hR1] at hdo
 have HR1E := Lib.hid hR1
 refine hdo.mono ?_
 clear hdo hR1
 rintro e1 x1 ⟨v1, rv1, rfl, hst, ⟨F1, f1, p1, rfl, hokF, hnF⟩, hb1⟩
 obtain ⟨A1, n1, c1, E1, m1, d1, D1, k1, g1, rfl, hIk, hDk, -⟩ := hst.at_
 obtain ⟨U1, w1, hU1, hV1, hy1, hyz1, ho, hr, hb⟩ := box_sr x1 (.slice A1 n1 c1) (.slice E1 m1 d1) (.slice D1 k1 g1) R1.2.code R1.2.fd R1.2.num R1.2.dir R1.2.data F1 f1 p1
 have hbb : Below w0.heap.size w0 w1 := Cv.next hb1 hb
 replace HO0 := Lib.hid (HO0.out.mv hbb)
 replace HS0 := Lib.hid (HS0.out.below hbb)
 replace HB := Lib.hid (Cv.next HB.out hbb)
 clear i0 i1 i2
 have HS1 := Lib.hid ((hst.lower (Nat.zero_le _)).below hb)
 have hxz1 := hb1.size
 have HO1 := Lib.hid ho
 have HR1 := Lib.hid hr
 have hsz1 := hbb.size
 clear hst hb1 ho hr hb hbb hokF hnF hIk hDk
 obtain ⟨t0, t1, t2, _⟩ := HO1.out.get
 have G1 := Lib.hid (show R1.2.code = 0 by rw [← HR1E.out, HT.out])
 have f2 : R1.1 = stB opn1 (txt L) (txt []) := by rw [← HR1E.out, HT.out]; rfl
 rw [f2] at HS1
 clear f2
 go_wp2_with fail
 have hdo := mDo_any (.agg #[.slice A1 n1 c1, .slice E1 m1 d1, .slice D1 k1 g1]) (stB opn1 (txt L) (txt [])) ⟨4, 0, 0, 0, 256, ⟨#[]⟩, ⟨#[]⟩, ⟨#[]⟩⟩ w1 HS1.out.weak (by show (0 : Nat) ≤ _; omega) (by show (0 : Nat) ≤ _; omega) (by show (0 : Nat) ≤ _; omega)
 obtain ⟨R2, hR2⟩ : ∃ R, doV (stB opn1 (txt L) (txt [])) ⟨4, 0, 0, 0, 256, ⟨#[]⟩, ⟨#[]⟩, ⟨#[]⟩⟩ = R := ⟨_, rfl⟩
 rw [hR2] at hdo
 have HR2E := Lib.hid hR2
 refine hdo.mono ?_
 clear hdo hR2
 rintro e2 x2 ⟨v2, rv2, rfl, hst, ⟨F2, f2, p2, rfl, hokF, hnF⟩, hb1⟩
 obtain ⟨A2, n2, c2, E2, m2, d2, D2, k2, g2, rfl, hIk, hDk, -⟩ := hst.at_
 obtain ⟨U2, w2, hU2, hV2, hy1, hyz2, ho, hr, hb⟩ := box_sr x2 (.slice A2 n2 c2) (.slice E2 m2 d2) (.slice D2 k2 g2) R2.2.code R2.2.fd R2.2.num R2.2.dir R2.2.data F2 f2 p2
 have hbb : Below w1.heap.size w1 w2 := Cv.next hb1 hb
 replace HO0 := Lib.hid (HO0.out.mv hbb)
 replace HO1 := Lib.hid (HO1.out.mv hbb)
 replace HR1 := Lib.hid (HR1.out.mv hbb)
 replace HS0 := Lib.hid (HS0.out.below hbb)
 replace HS1 := Lib.hid (HS1.out.below hbb)
 replace HB := Lib.hid (Cv.next HB.out hbb)
 clear t0 t1 t2
 have HS2 := Lib.hid ((hst.lower (Nat.zero_le _)).below hb)
 have hxz2 := hb1.size
 have HO2 := Lib.hid ho
 have HR2 := Lib.hid hr
 have hsz2 := hbb.size
 clear hst hb1 ho hr hb hbb hokF hnF hIk hDk
 obtain ⟨r0, r1, r2, r3, r4, r5, _⟩ := HR1.out.get
 obtain ⟨q0, q1, q2, q3, q4, q5, _⟩ := HR2.out.get
 have f3 : R2.2.data = txt L := by rw [← HR2E.out]; exact congrArg (fun r => r.2.data) HRD.out
 rw [G1.out] at r0
 rw [f3] at q4
 have f4 : (txt L).size = m := by rw [txt_size]; exact HLL.out
 clear f3
 go_wp2_with fail
 go_loopw [8] (fun i wr => ∃ q : Nat, i = .int .i64 q ∧ q ≤ m ∧ wr = w2) (fun i _ => m - (intOf i).toNat)
 case atStart => exact ⟨0, rfl, by omega, rfl⟩
 case round =>
  obtain ⟨q, rfl, hq, rfl⟩ := hrel
  have hm9 := HM.out
  by_cases hlt : q < m
  ·have g1 : (0 : Int) ≤ (q : Int) := by omega
   have g2 : (q : Int) < (m : Int) := by omega
   have g3 : (q : Int).toNat = q := by omega
   have hz : q < (txt L).size := by omega
   have hgt : (txt L)[q]'hz = digsL.getD q 0 := txt_get L q hz (HLG.out q hlt)
   by_cases h10 : q < 10
   ·have g4 : (q : Int) < 10 := by omega
    have g5 : (((txt L)[q]'hz).toNat : Int) = 48 + (q : Int) := by rw [hgt]; exact digs_lo q h10
    clear hgt
    go_wp2_with fail
    go_roundw
    case rel => exact ⟨q + 1, by go_num, by omega, by trivial⟩
    case measure => simp [intOf]; omega
   ·have g4 : decide ((q : Int) < 10) = false := by rw [decide_eq_false_iff_not]; omega
    have g6 : (10 : Int) ≤ (q : Int) := by omega
    have g5 : (((txt L)[q]'hz).toNat : Int) = 0 := by rw [hgt]; exact digs_hi q (by omega)
    clear hgt
    go_wp2_with fail
    go_roundw
    case rel => exact ⟨q + 1, by go_num, by omega, by trivial⟩
    case measure => simp [intOf]; omega
  ·have e9 : q = m := by omega
   subst e9
   have g7 : decide ((q : Int) < (q : Int)) = false := by simp
   go_wp2_with fail
   go_ret
   exact ⟨rfl, HB.out⟩
theorem modelTruncates_walk (k : Int) (h0 : (Lit.int .i64 k).wf = true) (w : World) : Calls Tryz.prog 4 #[.int .i64 k] w fun e w' => e = .returned (.bool true) ∧ Below w.heap.size w w' := by
 by_cases h : k < 0 ∨ 256 < k
 ·exact modelTruncates_bad k h w
 ·obtain ⟨m, rfl⟩ : ∃ m : Nat, k = (m : Int) := ⟨k.toNat, by omega⟩
  exact modelTruncates_ok m (by omega) w
end Go.Proofs.YtndcloohcfhejaaGreat
