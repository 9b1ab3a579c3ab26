/- Parts of the proof, side by side: LaPut, MoOwn. -/
import Derived.Test.YthhceopnnappgaaGreatM20
import Derived.Test.YthhceopnnappgaaGreatM22
import Derived.Test.YthhceopnnappgaaGreatM09
import Derived.Test.YthhceopnnappgaaGreatM14
set_option linter.unusedVariables false
set_option linter.unusedSimpArgs false
namespace Go.Proofs.YthhceopnnappgaaGreat
open Go.RowKit
theorem madeL_drop (xs : List Int) (q : Nat) (x : Int) (h : xs[q]? = some x) : madeL (xs.drop q) = numL x.toNat ++ madeL (xs.drop (q + 1)) := by
 obtain ⟨h1, h2⟩ := List.getElem?_eq_some_iff.1 h
 rw [List.drop_eq_getElem_cons h1, h2, madeL]
theorem inosL_drop (xs : List Ino) (q : Nat) (x : Ino) (h : xs[q]? = some x) : inosL (xs.drop q) = inodeL x ++ inosL (xs.drop (q + 1)) := by
 obtain ⟨h1, h2⟩ := List.getElem?_eq_some_iff.1 h
 rw [List.drop_eq_getElem_cons h1, h2, inosL]
theorem byte_val (H k : Nat) : (H : Int) / 2 ^ k % 256 = (((H / 2 ^ k).toUInt8).toNat : Int) := by
 have e : ((H / 2 ^ k).toUInt8).toNat = H / 2 ^ k % 256 := rfl
 rw [e, Int.natCast_emod, Int.natCast_ediv, Int.natCast_pow]
 rfl
theorem eight_get (H q : Nat) (hq : q < 8) : (eightL H)[q]? = some (H / 2 ^ (56 - 8 * q)).toUInt8 := by
 unfold eightL
 rw [List.getElem?_map, List.getElem?_range hq]
 rfl
theorem eight_len (H : Nat) : (eightL H).length = 8 := by
 unfold eightL
 rw [List.length_map, List.length_range]
set_option maxRecDepth 100000 in
set_option maxHeartbeats 8000000 in
theorem put_bad (v : Value) (s : St) (w : World) (h : StAt none w v s) (hm : mayV s = false) :
  Calls Tryz.prog 5 #[v] w fun e w' => e = .returned (.tuple #[.string ⟨#[]⟩, .int .i64 1902]) ∧ Below w.heap.size w w' := by
 obtain ⟨⟨A, n, c, B, m, d, D, k, e, rfl, hI, hD, hM, h5, h6, h7⟩, hz⟩ := h
 obtain ⟨W, hW, b0, b1, b2, hal, hlt0⟩ := box_st w A n c B m d D k e
 have hst : StAt none W (.agg #[.slice A n c, .slice B m d, .slice D k e]) s := ⟨⟨A, n, c, B, m, d, D, k, e, rfl, hI.below hal, hD.below hal, hM.below hal, h5, h6, h7⟩, hz⟩
 have HST := Lib.hid hst
 have HAL := Lib.hid hal
 have HM := Lib.hid hm
 clear hI hD hM hz hst hal hm
 go_enter Tryz.func5, Tryz.ntmps5
 go_wp2_with fail
 refine (mmay_any _ s _ HST.out).mono ?_
 rintro e1 w1 ⟨rfl, hb1⟩
 rw [HM.out]
 have HB1 := Lib.hid (Cv.next HAL.out hb1)
 clear hb1
 go_wp2_with fail
 go_ret2
 exact ⟨rfl, HB1.out⟩
set_option maxRecDepth 100000 in
set_option maxHeartbeats 8000000 in
theorem put_all (v : Value) (s : St) (w : World) (h : StAt none w v s) (hm : mayV s = true) (hall : ∀ x ∈ s.inos, delB s x = false) :
  Calls Tryz.prog 5 #[v] w fun e w' => e = .returned (.tuple #[.string ⟨(sealL (headL s.made s.inos)).toArray⟩, .int .i64 0]) ∧ Below w.heap.size w w' := by
 obtain ⟨⟨A, n, c, Bz, m, d, D, k, e, rfl, hI, hD, hM, h5, h6, h7⟩, hz⟩ := h
 obtain ⟨W, hW, b0, b1, b2, hal, hlt0⟩ := box_st w A n c Bz m d D k e
 have hrow : W.heap[w.heap.size]? = some (.cells #[.slice A n c, .slice Bz m d, .slice D k e] 26 (0, 0)) := by rw [← hW]; exact heap_alloc_new w _
 have hst : StAt none W (.agg #[.slice A n c, .slice Bz m d, .slice D k e]) s := ⟨⟨A, n, c, Bz, m, d, D, k, e, rfl, hI.below hal, hD.below hal, hM.below hal, h5, h6, h7⟩, hz⟩
 have hp : PtrAt W w.heap.size s := ⟨⟨A, n, c, Bz, m, d, D, k, e, hrow, hI.below hal, hD.below hal, hM.below hal, h5, h6, h7⟩, hz⟩
 have hok := may_facts hm
 have hbig := hz.big
 have hbe : bulkE s.inos ≤ 1099511627776 := by omega
 have hkl := hM.1
 have hnl := hI.1
 have hk8 : k ≤ 8 := by have := hok.made.2.1; omega
 have hn1 : 0 < n := by have := hok.inos; omega
 have hn2 : n ≤ 257 := by have := hok.inos; omega
 have HST := Lib.hid hst
 have HP := Lib.hid hp
 have HAL := Lib.hid hal
 have HM := Lib.hid hm
 have HOK := Lib.hid hok
 have HBE := Lib.hid hbe
 have HI := Lib.hid hI
 have HMD := Lib.hid hM
 have HALL := Lib.hid hall
 have hil := inosL_len s.inos hok.data
 have hml := madeL_len s.made
 have HIL := Lib.hid hil
 have HML := Lib.hid hml
 have HKL := Lib.hid hkl
 have HNL := Lib.hid hnl
 clear hI hD hM hz hst hal hm hrow hp hok hbig hbe hall hil hml hkl hnl h5 h6 h7
 go_enter Tryz.func5, Tryz.ntmps5
 go_wp2_with fail
 refine (mmay_any _ s _ HST.out).mono ?_
 rintro e1 w1 ⟨rfl, hb1⟩
 rw [HM.out]
 have HB1 := Lib.hid (Cv.next HAL.out hb1)
 have HB1W := Lib.hid hb1
 obtain ⟨U, hU⟩ : ∃ U, w1.alloc (.cells #[.pointer none, .slice none 0 0] 50) = U := ⟨_, rfl⟩
 have hfr : Bld w1.heap.size w1.heap.size [] U := by rw [← hU]; exact Lib.IsBuilderF.of (Lib.fresh_isBuilder _ _ w1)
 have hbu : Below w1.heap.size w1 U := by rw [← hU]; exact (Below.refl _ _).alloc (Nat.le_refl _) _
 have husz : w1.heap.size ≤ U.heap.size := hbu.size
 have HFR := Lib.hid hfr
 have HBU := Lib.hid hbu
 have hcell : ∀ w', Below w1.heap.size w1 w' → w'.cell? ⟨w.heap.size, 0, .none⟩ = some (.slice A n c) ∧ w'.cell? ⟨w.heap.size, 1, .none⟩ = some (.slice Bz m d) ∧ w'.cell? ⟨w.heap.size, 2, .none⟩ = some (.slice D k e) ∧ PtrAt w' w.heap.size s ∧ InosAt none w' A n s.inos ∧ IntsAt none w' D k s.made := by
  intro w' hw'
  have hb : Below W.heap.size W w' := hb1.trans (hw'.mono hb1.size)
  exact ⟨(hb.cell (p := ⟨w.heap.size, 0, .none⟩) hlt0).trans b0, (hb.cell (p := ⟨w.heap.size, 1, .none⟩) hlt0).trans b1, (hb.cell (p := ⟨w.heap.size, 2, .none⟩) hlt0).trans b2, HP.out.below hb, (HI.out.below HAL.out).below hb, (HMD.out.below HAL.out).below hb⟩
 have HC := Lib.hid hcell
 have hww : ∀ w', Below w1.heap.size w1 w' → Below w.heap.size w w' := fun w' hw' => Cv.next HB1.out hw'
 have HWW := Lib.hid hww
 clear hb1 hfr hbu hcell hww b0 b1 b2 hW hlt0
 go_wp2_with fail
 clear hU
 refine (writestring_any w1.heap.size w1.heap.size [] ⟨#[67, 78, 67, 49]⟩ U HFR.out (by decide) husz).mono ?_
 rintro e2 w2 ⟨rfl, hbl2, hwr2⟩
 have HL2 : Hid (Bld w1.heap.size w1.heap.size magicL w2) := Lib.hid hbl2
 have HW2 := Lib.hid hwr2
 have HD2 := Lib.hid (HBU.out.trans hwr2.below)
 have hs2 : w1.heap.size ≤ w2.heap.size := HD2.out.size
 have y2 := (HC.out _ HD2.out).2.2.1
 clear hbl2 hwr2
 go_wp2_with fail
 refine (number_any w1.heap.size w1.heap.size magicL k w2 HL2.out (by omega) (by decide) hs2).mono ?_
 rintro e3 w3 ⟨rfl, hbl3, hwr3⟩
 have HL3 := Lib.hid hbl3
 have HW3 := Lib.hid (HW2.out.trans hwr3)
 have HD3 := Lib.hid (HD2.out.trans hwr3.below)
 have hs3 : w1.heap.size ≤ w3.heap.size := HD3.out.size
 have y3 := (HC.out _ HD3.out).2.2.1
 have hl3 : (magicL ++ numL k).length ≤ 15 := by
  have := numL_len k
  rw [List.length_append]
  have h4 : magicL.length = 4 := rfl
  omega
 obtain ⟨P3, hP3⟩ : ∃ P3, magicL ++ numL k = P3 := ⟨_, rfl⟩
 rw [hP3] at HL3 hl3
 have HP3 := Lib.hid hP3
 clear hbl3 hwr3 y2 hP3
 go_wp2_with fail
 clear y3
 go_loopw [6, 28] (fun _ i wr => ∃ (q : Nat) (l' : List UInt8), i = .int .i64 q ∧ q ≤ k ∧ Bld w1.heap.size w1.heap.size l' wr ∧ Wr w1.heap.size w1.heap.size U wr ∧ l' ++ madeL (s.made.drop q) = P3 ++ madeL s.made) (fun _ i _ => k - (intOf i).toNat)
 case atStart => exact ⟨0, P3, rfl, by omega, HL3.out, HW3.out, rfl⟩
 case round =>
  obtain ⟨q, l', rfl, hq, hbl, hwr, hc⟩ := hrel
  have HBL := Lib.hid hbl
  have HWR := Lib.hid hwr
  have HDR := Lib.hid (HBU.out.trans hwr.below)
  have hsr : w1.heap.size ≤ wr.heap.size := HDR.out.size
  have hll : l'.length + (madeL (s.made.drop q)).length ≤ 15 + 88 := by
   have h1 := congrArg List.length hc
   rw [List.length_append, List.length_append] at h1
   have := HML.out
   have := HKL.out
   omega
  clear hbl hwr
  by_cases hlt : q < k
  ·obtain ⟨g, off, x, rfl, hg, hx, hd, hmem, c0⟩ := (HC.out _ HDR.out).2.2.2.2.2.get q hlt
   have r0 : (0 : Int) ≤ (q : Int) := by omega
   have r1 : (q : Int) < (k : Int) := by omega
   have hxr := HOK.out.made.2.2 x hmem
   rw [madeL_drop _ _ _ hx] at hc
   rw [toNat_val hxr.1] at c0
   obtain ⟨Y, hY⟩ : ∃ Y, x.toNat = Y := ⟨_, rfl⟩
   rw [hY] at c0 hc
   have hY2 : Y ≤ 1099511627776 := by omega
   have hll2 : l'.length ≤ 103 := by omega
   have HCC := Lib.hid hc
   clear hd hmem hx hc hxr hll
   go_wp2_with fail
   refine (number_any w1.heap.size w1.heap.size l' Y wr HBL.out hY2 (by omega) hsr).mono ?_
   rintro e4 w4 ⟨rfl, hbl4, hwr4⟩
   have HL4 := Lib.hid hbl4
   have HW4 := Lib.hid (HWR.out.trans hwr4)
   clear hbl4 hwr4 c0
   go_wp2_with fail
   go_roundw
   case rel => exact ⟨q + 1, _, by go_num, by omega, HL4.out, HW4.out, by have := HCC.out; simpa [List.append_assoc] using this⟩
   case measure => simp [intOf]; omega
  ·have hnil : s.made.drop q = [] := List.drop_eq_nil_of_le (by have := HKL.out; omega)
   rw [hnil, madeL, List.append_nil] at hc
   have q1 : decide ((q : Int) < (k : Int)) = false := by rw [decide_eq_false_iff_not]; omega
   have hpl : l'.length ≤ 103 := by omega
   have HCC := Lib.hid hc
   have y0 := (HC.out _ HDR.out).1
   clear hc hnil hll
   go_wp2_with fail
   refine (cloneinos_any s.inos A n c w1 wr (HC.out w1 (Below.refl _ _)).2.2.2.2.1 HDR.out hn1 (by omega)).mono ?_
   rintro e5 w5 ⟨g5, c5, zs, rfl, hnc5, hg5, hkp, hzs, hb5⟩
   have HKP := Lib.hid hkp
   have HZS := Lib.hid hzs
   have HL5 := Lib.hid (HBL.out.keep hb5)
   have HW5 := Lib.hid (HWR.out.trans (Wr.of_below hb5 hsr))
   have HD5 := Lib.hid (HBU.out.trans HW5.out.below)
   have hb5w := hb5
   have HB5 := Lib.hid hb5w
   have hi5 := hkp.inos HD5.out
   rw [hzs] at hi5
   have HI5 := Lib.hid hi5
   clear hkp hzs hb5 hb5w y0 hi5
   go_wp2_with fail
   refine (delnone_any w.heap.size s s.inos _ n c5 w5 (HC.out _ HD5.out).2.2.2.1 HI5.out (by omega) HALL.out).mono ?_
   rintro e6 w6 ⟨rfl, hb6⟩
   have hs5 : w1.heap.size ≤ w5.heap.size := HD5.out.size
   have HL6 := Lib.hid (HL5.out.keep hb6)
   have HW6 := Lib.hid (HW5.out.trans (Wr.of_below hb6 hs5))
   have HD6 := Lib.hid (HBU.out.trans HW6.out.below)
   have HK6 := Lib.hid (HKP.out.below hb6)
   have HB6 := Lib.hid (HB5.out.trans (hb6.mono HB5.out.size))
   have hs6 : w1.heap.size ≤ w6.heap.size := HD6.out.size
   clear hb6
   go_wp2_with fail
   refine (number_any w1.heap.size w1.heap.size l' n w6 HL6.out (by omega) (by omega) hs6).mono ?_
   rintro e7 w7 ⟨rfl, hbl7, hwr7⟩
   have hgb : g5 ≠ w1.heap.size := by
    have := HBL.out.lt
    omega
   have HL7 := Lib.hid hbl7
   have HW7 := Lib.hid (HW6.out.trans hwr7)
   have HK7 := Lib.hid (HK6.out.wr hwr7 hgb)
   have HB7 := Lib.hid hwr7
   have hln := numL_len n
   obtain ⟨P7, hP7⟩ : ∃ P7, l' ++ numL n = P7 := ⟨_, rfl⟩
   have hpl7 : P7.length ≤ 114 := by rw [← hP7, List.length_append]; omega
   rw [hP7] at HL7
   have HP7 := Lib.hid hP7
   clear hbl7 hwr7 hP7 hln
   go_wp2_with fail
   have HD7 := Lib.hid (HBU.out.trans HW7.out.below)
   go_loopw [8, 48] (fun _ i wr => ∃ (q : Nat) (l' : List UInt8), i = .int .i64 q ∧ q ≤ n ∧ Bld w1.heap.size w1.heap.size l' wr ∧ Wr w1.heap.size w1.heap.size w7 wr ∧ l' ++ inosL (s.inos.drop q) = P7 ++ inosL s.inos) (fun _ i _ => n - (intOf i).toNat)
   case atStart => exact ⟨0, P7, rfl, by omega, HL7.out, Wr.refl _ _ _, rfl⟩
   case round =>
    obtain ⟨q, l2, rfl, hq, hbl, hwr, hc⟩ := hrel
    have HBL2 := Lib.hid hbl
    have HWR2 := Lib.hid hwr
    have HDR2 := Lib.hid (HD7.out.trans hwr.below)
    have hsr2 : w1.heap.size ≤ wr.heap.size := HDR2.out.size
    have hll2 : l2.length + (inosL (s.inos.drop q)).length ≤ 114 + (300 * 257 + 40 * 1099511627776) := by
     have h1 := congrArg List.length hc
     rw [List.length_append, List.length_append] at h1
     have := HIL.out
     have := HNL.out
     have := HBE.out
     omega
    clear hbl hwr
    by_cases hlt : q < n
    ·obtain ⟨z, hz⟩ : ∃ z, zs[q]? = some z := ⟨_, List.getElem?_eq_getElem (by have := HK7.out.len; omega)⟩
     obtain ⟨E, m2, d2, hez, hok2, hE2⟩ := HK7.out.ents z (List.mem_of_getElem? hz)
     have hzx : s.inos[q]? = some z.1 := by rw [← HZS.out, List.getElem?_map, hz]; rfl
     have hix := HOK.out.ino HBE.out z.1 (List.mem_of_getElem? hzx)
     have r0 : (0 : Int) ≤ (q : Int) := by omega
     have r1 : (q : Int) < (n : Int) := by omega
     rw [inosL_drop _ _ _ hzx] at hc hll2
     rw [List.length_append] at hll2
     have hxx : ∀ w', Wr w1.heap.size w1.heap.size wr w' → (w'.cell? ⟨g5, q * 4, none⟩ = some (.int .i64 z.1.num) ∧ w'.cell? ⟨g5, q * 4 + 1, none⟩ = some (.bool z.1.dir) ∧ w'.cell? ⟨g5, q * 4 + 2, none⟩ = some (.slice E m2 d2) ∧ w'.cell? ⟨g5, q * 4 + 3, none⟩ = some (.string z.1.data)) ∧ EntsAt none w' E m2 z.1.ents := by
      intro w' hw'
      exact ⟨(HK7.out.wr (HWR2.out.trans hw') hgb).cells hz hez, hE2.below (HDR2.out.trans hw'.below)⟩
     have HXX := Lib.hid hxx
     have HIX := Lib.hid hix
     have HCC2 := Lib.hid hc
     have HLL2 := Lib.hid hll2
     clear hz hez hok2 hE2 hzx hix hc hll2 hxx
     go_wp2_with fail
     refine (inode_any w1.heap.size w1.heap.size g5 (q * 4) l2 z.1 E m2 d2 wr HBL2.out HIX.out (by have := HLL2.out; omega) hsr2 HXX.out).mono ?_
     rintro e8 w8 ⟨rfl, hbl8, hwr8⟩
     have HL8 := Lib.hid hbl8
     have HW8 := Lib.hid (HWR2.out.trans hwr8)
     clear hbl8 hwr8
     go_wp2_with fail
     go_roundw
     case rel => exact ⟨q + 1, _, by go_num, by omega, HL8.out, HW8.out, by have := HCC2.out; simpa [List.append_assoc] using this⟩
     case measure => simp [intOf]; omega
    ·have hnil : s.inos.drop q = [] := List.drop_eq_nil_of_le (by have := HNL.out; omega)
     rw [hnil, inosL, List.append_nil] at hc
     have q2 : decide ((q : Int) < (n : Int)) = false := by rw [decide_eq_false_iff_not]; omega
     have hpl : l2.length ≤ 114 + (300 * 257 + 40 * 1099511627776) := by omega
     have hhead : l2 = headL s.made s.inos := by
      rw [hc, ← HP7.out, HCC.out, ← HP3.out]
      unfold headL
      rw [HKL.out, HNL.out]
     have HHD := Lib.hid hhead
     have hl0 : l2 ≠ [] := by
      rw [hhead]
      unfold headL magicL
      simp
     have HL0 := Lib.hid hl0
     clear hc hnil hll2 hhead hl0
     go_wp2_with fail
     refine (string_any w1.heap.size w1.heap.size l2 wr HBL2.out HL0.out).mono ?_
     rintro e9 w9 ⟨rfl, hbl9, hwr9⟩
     have HL9 := Lib.hid hbl9
     have HW9 := Lib.hid (HWR2.out.trans hwr9)
     have HD9 := Lib.hid (HDR2.out.trans hwr9.below)
     have hs9 : w1.heap.size ≤ w9.heap.size := HD9.out.size
     have hsz9 : (⟨l2.toArray⟩ : ByteArray).size ≤ maxLen := by
      show l2.toArray.size ≤ maxLen
      rw [List.size_toArray]
      unfold maxLen
      omega
     have HS9 := Lib.hid hsz9
     clear hbl9 hwr9 hsz9
     go_wp2_with fail
     refine (sum_any ⟨l2.toArray⟩ w9 HS9.out).mono ?_
     rintro e10 w10 ⟨rfl, rfl⟩
     obtain ⟨H, hH⟩ : ∃ H, sumN (⟨l2.toArray⟩ : ByteArray).data.toList = H := ⟨_, rfl⟩
     have hHlt : H < 18446744073709551616 := by rw [← hH, ← hM_lit]; exact sumN_lt _
     rw [hH]
     have HH := Lib.hid hH
     clear hH
     go_wp2_with fail
     go_loopw [10, 62] (fun _ i wr => ∃ q : Nat, i = .int .i64 q ∧ q ≤ 8 ∧ Bld w1.heap.size w1.heap.size (l2 ++ (eightL H).take q) wr ∧ Wr w1.heap.size w1.heap.size w9 wr) (fun _ i _ => 8 - (intOf i).toNat)
     case atStart => exact ⟨0, rfl, by omega, by simpa using HL9.out, Wr.refl _ _ _⟩
     case round =>
      obtain ⟨q, rfl, hq, hbl, hwr⟩ := hrel
      have HBLz := Lib.hid hbl
      have HWRz := Lib.hid hwr
      have HDz := Lib.hid (HD9.out.trans hwr.below)
      have hsz : w1.heap.size ≤ wr.heap.size := HDz.out.size
      clear hbl hwr
      by_cases hlt : q < 8
      ·have r0 : (0 : Int) ≤ (q : Int) := by omega
       have r1 : (q : Int) < 8 := by omega
       have r2 : decide ((q : Int) < 8) = true := by rw [decide_eq_true_eq]; omega
       have r3 : (0 : Int) ≤ 56 - 8 * (q : Int) := by omega
       have r4 : IntKind.i64.wrap (56 - 8 * (q : Int)) = 56 - 8 * (q : Int) := by rw [IntKind.wrap_i64]; omega
       have r5 : IntKind.i64.wrap (8 * (q : Int)) = 8 * (q : Int) := by rw [IntKind.wrap_i64]; omega
       go_wp2_with fail
       refine wp_region_quiet_tail 9 (by kernel_rfl) (by kernel_rfl) ?_
       simp only [List.take_succ_cons, List.take_zero, List.drop_succ_cons, List.drop_zero]
       repeat (go_big_quiet_step (fail))
       refine wpQuiet_nil ?_
       go_wp2_with fail
       have hdr : Below wr.heap.size wr wr.drew := Below.drew (Below.refl _ _)
       refine (writebyte_any w1.heap.size w1.heap.size (l2 ++ (eightL H).take q) (H / 2 ^ (56 - 8 * q)).toUInt8 _ wr.drew (byte_val H (56 - 8 * q)) (HBLz.out.keep hdr) (by
        rw [List.length_append, List.length_take, eight_len]
        omega) hsz).mono ?_
       rintro e11 w11 ⟨rfl, hbl11, hwr11⟩
       have HL11 := Lib.hid hbl11
       have HW11 := Lib.hid ((HWRz.out.trans Wr.drew).trans hwr11)
       clear hbl11 hwr11 hdr
       go_wp2_with fail
       go_roundw
       case rel => exact ⟨q + 1, by go_num, by omega, by
        have h9 := HL11.out
        rw [List.take_add_one, eight_get H q hlt]
        simpa [List.append_assoc] using h9, HW11.out⟩
       case measure => simp [intOf]; omega
      ·obtain rfl : q = 8 := by omega
       have hbl := HBLz.out
       rw [List.take_of_length_le (by rw [eight_len]; omega)] at hbl
       have HBLy := Lib.hid hbl
       clear hbl
       go_wp2_with fail
       refine (string_any w1.heap.size w1.heap.size (l2 ++ eightL H) wr HBLy.out (by
        intro h9
        exact HL0.out (List.append_eq_nil_iff.1 h9).1)).mono ?_
       rintro e12 w12 ⟨rfl, hbl12, hwr12⟩
       have HD12 := Lib.hid (HDz.out.trans hwr12.below)
       clear hbl12 hwr12
       go_wp2_with fail
       go_ret2
       refine ⟨?_, HWW.out _ HD12.out⟩
       have e2 : sumN l2 = H := by have := HH.out; simpa using this
       rw [HHD.out] at e2
       have e3 : l2 ++ eightL H = sealL (headL s.made s.inos) := by
        unfold sealL
        rw [e2, ← HHD.out]
       exact congrArg (fun z : List UInt8 => Ending.returned (.tuple #[.string ⟨z.toArray⟩, .int .i64 0])) e3
theorem RowAt.slice {B : Nat} {w : World} {e : TypeId} {k : Nat} {v : Value} {n : Nat} {xs : List Value} (h : RowAt B w e k v n xs) : ∃ A c, v = .slice A n c ∧ SlOk A n c := by
 rcases h.2 with ⟨A, rfl, rfl⟩ | ⟨g, cap, cur, rfl, hc, hB, hg, hn, hm, hs, ht⟩
 ·exact ⟨A, 0, rfl, Nat.le_refl _, fun _ => rfl⟩
 ·exact ⟨_, cap, rfl, hn, fun e => by cases e⟩
theorem RowAt.open_ {B : Nat} {w : World} {e : TypeId} {k : Nat} {v : Value} {n : Nat} {xs : List Value} (h : RowAt B w e k v n xs) (hn : 0 < n) : ∃ g c cur, v = .slice (some ⟨g, 0, none⟩) n c ∧ rowBlk v = some g ∧ B ≤ g ∧ g < w.heap.size ∧ w.heap[g]? = some (.cells cur e (0, 0)) ∧ n * k ≤ cur.size ∧ ∀ j u, xs[j]? = some u → w.cell? ⟨g, j, none⟩ = some u := by
 have h0 := h
 rcases h.2 with ⟨A, rfl, rfl⟩ | ⟨g, cap, cur, rfl, hc, hB, hg, hnc, hm, hs, ht⟩
 ·omega
 ·refine ⟨g, cap, cur, rfl, by simp [rowBlk, Nat.ne_of_gt hc], hB, (Array.getElem?_eq_some_iff.1 hg).1, hg, by rw [hs]; exact Nat.mul_le_mul_right _ hnc, fun j u hj => ?_⟩
  have := h0.cellsOf j u hj
  rwa [Addr.add_lit, Nat.zero_add] at this
theorem RowAt.ents {B : Nat} {w : World} {v : Value} {n : Nat} {es : List En} (h : RowAt B w 69 2 v n (es.flatMap enV)) : ∃ A c, v = .slice A n c ∧ SlOk A n c ∧ EntsAt none w A n es := by
 obtain ⟨A, c, hv, hok⟩ := h.slice
 have hl : es.length = n := by
  have h1 := h.1
  rw [flat_len enV 2 (fun x => rfl)] at h1
  omega
 refine ⟨A, c, hv, hok, hl, fun h0 => ?_⟩
 obtain ⟨g, c', cur, hv', _, _, hlt, _, _, hc⟩ := h.open_ h0
 rw [hv] at hv'
 injection hv' with e1 _ _
 refine ⟨g, 0, e1, hlt, Mine.any _ _ _, fun j e he => ?_⟩
 have f := flat_get enV 2 (fun x => rfl) es j e he
 rw [Nat.zero_add]
 exact ⟨hc _ _ (f 0 (by omega)), hc _ _ (f 1 (by omega))⟩
theorem RowAt.descs {B : Nat} {w : World} {v : Value} {n : Nat} {ds : List Ds} (h : RowAt B w 86 3 v n (ds.flatMap dsV)) : ∃ A c, v = .slice A n c ∧ SlOk A n c ∧ DescsAt none w A n ds := by
 obtain ⟨A, c, hv, hok⟩ := h.slice
 have hl : ds.length = n := by
  have h1 := h.1
  rw [flat_len dsV 3 (fun x => rfl)] at h1
  omega
 refine ⟨A, c, hv, hok, hl, fun h0 => ?_⟩
 obtain ⟨g, c', cur, hv', _, _, hlt, _, _, hc⟩ := h.open_ h0
 rw [hv] at hv'
 injection hv' with e1 _ _
 refine ⟨g, 0, e1, hlt, Mine.any _ _ _, fun j e he => ?_⟩
 have f := flat_get dsV 3 (fun x => rfl) ds j e he
 rw [Nat.zero_add]
 exact ⟨hc _ _ (f 0 (by omega)), hc _ _ (f 1 (by omega)), hc _ _ (f 2 (by omega))⟩
def intV (x : Int) : Value := .int .i64 x
theorem RowAt.ints {B : Nat} {w : World} {v : Value} {n : Nat} {xs : List Int} (h : RowAt B w 3 1 v n (xs.map intV)) : ∃ A c, v = .slice A n c ∧ SlOk A n c ∧ IntsAt none w A n xs := by
 obtain ⟨A, c, hv, hok⟩ := h.slice
 have hl : xs.length = n := by have h1 := h.1; simpa using h1
 refine ⟨A, c, hv, hok, hl, fun h0 => ?_⟩
 obtain ⟨g, c', cur, hv', _, _, hlt, _, _, hc⟩ := h.open_ h0
 rw [hv] at hv'
 injection hv' with e1 _ _
 refine ⟨g, 0, e1, hlt, Mine.any _ _ _, fun j e he => ?_⟩
 rw [Nat.zero_add]
 exact hc _ _ (by rw [List.getElem?_map, he]; rfl)
def Apart (zs : List (Ino × Value)) : Prop := ∀ (i j : Nat) (a b : Ino × Value), i ≠ j → zs[i]? = some a → zs[j]? = some b → ∀ g, rowBlk a.2 = some g → rowBlk b.2 ≠ some g
structure Own2 (B : Nat) (w : World) (p : Nat) (s : St) (zs : List (Ino × Value)) (vI vO vM : Value) : Prop where
 hp : B ≤ p
 cell : w.heap[p]? = some (.cells #[vI, vO, vM] 26 (0, 0))
 inos : zs.map Prod.fst = s.inos
 rowI : RowAt B w 42 4 vI zs.length (zs.flatMap inoV)
 ents : ∀ z ∈ zs, RowAt B w 69 2 z.2 z.1.ents.length (z.1.ents.flatMap enV)
 apart : Apart zs
 rowO : RowAt B w 86 3 vO s.opn.length (s.opn.flatMap dsV)
 rowM : RowAt B w 3 1 vM s.made.length (s.made.map intV)
 sized : Sized s
theorem Own2.inosAt {B : Nat} {w : World} {p : Nat} {s : St} {zs : List (Ino × Value)} {vI vO vM : Value} (h : Own2 B w p s zs vI vO vM) : ∃ A c, vI = .slice A s.inos.length c ∧ SlOk A s.inos.length c ∧ InosAt none w A s.inos.length s.inos := by
 have hl : s.inos.length = zs.length := by rw [← h.inos, List.length_map]
 obtain ⟨A, c, hv, hok⟩ := h.rowI.slice
 rw [← hl] at hv hok
 refine ⟨A, c, hv, hok, rfl, fun h0 => ?_⟩
 obtain ⟨g, c', cur, hv', _, _, hlt, _, _, hc⟩ := h.rowI.open_ (by omega)
 rw [hv] at hv'
 injection hv' with e1 _ _
 refine ⟨g, 0, e1, hlt, Mine.any _ _ _, fun j x hx => ?_⟩
 rw [← h.inos, List.getElem?_map] at hx
 obtain ⟨z, hz, rfl⟩ := Option.map_eq_some_iff.1 hx
 have f := flat_get inoV 4 (fun x => rfl) zs j z hz
 obtain ⟨E, m, he, hmd, hE⟩ := (h.ents z (List.mem_of_getElem? hz)).ents
 rw [Nat.zero_add]
 refine ⟨hc _ _ (f 0 (by omega)), hc _ _ (f 1 (by omega)), ⟨E, z.1.ents.length, m, ?_, hmd, hE⟩, hc _ _ (f 3 (by omega))⟩
 rw [← he]
 exact hc _ _ (f 2 (by omega))
theorem Own2.ptr {B : Nat} {w : World} {p : Nat} {s : St} {zs : List (Ino × Value)} {vI vO vM : Value} (h : Own2 B w p s zs vI vO vM) : PtrAt w p s := by
 obtain ⟨A, c, hA, hAo, hAI⟩ := h.inosAt
 obtain ⟨E, d, hE, hEo, hED⟩ := h.rowO.descs
 obtain ⟨M, k, hM, hMo, hMI⟩ := h.rowM.ints
 refine ⟨⟨A, _, c, E, _, d, M, _, k, ?_, hAI, hED, hMI, hAo, hEo, hMo⟩, h.sized⟩
 rw [← hA, ← hE, ← hM]
 exact h.cell
theorem Own2.below {B : Nat} {w w' : World} {p : Nat} {s : St} {zs : List (Ino × Value)} {vI vO vM : Value} (h : Own2 B w p s zs vI vO vM) (hb : Below w.heap.size w w') : Own2 B w' p s zs vI vO vM := by
 have hg : w.grownBy w' none := rw_none hb
 have hn : ∀ (v : Value) (b : Nat), rowBlk v = some b → (none : Option Nat) ≠ some b := fun v b _ => by simp
 exact ⟨h.hp, (hb.block p (Array.getElem?_eq_some_iff.1 h.cell).1).trans h.cell, h.inos, h.rowI.kept hg (hn _), fun z hz => (h.ents z hz).kept hg (hn _), h.apart, h.rowO.kept hg (hn _), h.rowM.kept hg (hn _), h.sized⟩
structure Turns (B p : Nat) (w w' : World) : Prop where
 below : Below B w w'
 keep : ∀ (b : Nat) (cur : Array Value) (t : TypeId), w.heap[b]? = some (.cells cur t (0, 0)) → 42 ≠ t → 69 ≠ t → 86 ≠ t → 3 ≠ t → b ≠ p → w'.heap[b]? = w.heap[b]?
theorem Turns.trans {B p : Nat} {a b c : World} (h : Turns B p a b) (k : Turns B p b c) : Turns B p a c :=
 ⟨h.below.trans k.below, fun x cur t hx h1 h2 h3 h4 h5 => (k.keep x cur t ((h.keep x cur t hx h1 h2 h3 h4 h5).trans hx) h1 h2 h3 h4 h5).trans (h.keep x cur t hx h1 h2 h3 h4 h5)⟩
theorem Turns.of_below {B p : Nat} {w w' : World} (h : Below w.heap.size w w') (hB : B ≤ w.heap.size) : Turns B p w w' :=
 ⟨h.mono hB, fun b cur t hb _ _ _ _ _ => h.block b (Array.getElem?_eq_some_iff.1 hb).1⟩
theorem grown_set {w : World} {b j : Nat} {u : Value} : w.grownBy (w.setCell ⟨b, j, none⟩ u) (some b) :=
 ⟨rfl, rfl, rfl, by simp [World.setCell], fun k hk hne => Below.heap_setCell w ⟨b, j, none⟩ u k (fun e => hne (by rw [e]))⟩
theorem RowAt.set {B : Nat} {w : World} {e : TypeId} {k : Nat} {g n c : Nat} {xs : List Value} (h : RowAt B w e k (.slice (some ⟨g, 0, none⟩) n c) n xs) (j : Nat) (u : Value) (hj : j < n * k) : RowAt B (w.setCell ⟨g, j, none⟩ u) e k (.slice (some ⟨g, 0, none⟩) n c) n (xs.set j u) := by
 refine ⟨by rw [List.length_set]; exact h.1, ?_⟩
 rcases h.2 with ⟨A, hA, rfl⟩ | ⟨g', cap, cur, hv, hc, hB, hg, hnc, hm, hs, ht⟩
 ·omega
 ·injection hv with e1 e2 e3
  injection e1 with e1
  injection e1 with e1
  subst e1 e3
  refine .inr ⟨g, c, cur.setIfInBounds j u, rfl, hc, hB, ?_, hnc, hm, by simpa using hs, ?_⟩
  ·rw [heap_setCell_same w g j _ _ _ hg]
  ·rw [← ht, Array.toList_setIfInBounds, List.take_set]
end Go.Proofs.YthhceopnnappgaaGreat
