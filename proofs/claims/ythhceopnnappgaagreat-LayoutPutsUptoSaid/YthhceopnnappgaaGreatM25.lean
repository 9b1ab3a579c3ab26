/- Parts of the proof, side by side: LaPut2, LaBare0, MoEntry. -/
import Derived.Test.YthhceopnnappgaaGreatM23
import Derived.Test.YthhceopnnappgaaGreatM24
import Derived.Test.YthhceopnnappgaaGreatM02
import Derived.Test.YthhceopnnappgaaGreatM14
import Derived.Test.YthhceopnnappgaaGreatM15
import Derived.Lib.Bytealg
set_option linter.unusedVariables false
set_option linter.unusedSimpArgs false
namespace Go.Proofs.YthhceopnnappgaaGreat
open Go.RowKit
theorem Bld.grown {B b g : Nat} {l : List UInt8} {w w' : World} (h : Bld B b l w) (hg : w.grownBy w' (some g)) (hne : g ≠ b) (hc : ∃ cur, w.heap[g]? = some (.cells cur 42 (0, 0))) : Bld B b l w' := by
 have key : ∀ p, Lib.BuilderAtF 50 5 B b p (Lib.byteCells l) w → Lib.BuilderAtF 50 5 B b p (Lib.byteCells l) w' := by
  intro p hp
  have hlt := hp.lt
  obtain ⟨hB, v, h1, h2, h3⟩ := hp
  refine ⟨hB, v, (hg.block b hlt (fun e => by injection e with e; exact hne e.symm)).trans h1, h2.kept (row := some g) hg (.inr (fun e => ?_)), h3⟩
  obtain ⟨cur, hcur⟩ := hc
  rcases h2.2 with ⟨rfl, _⟩ | ⟨g', cap, cur', fz, rfl, _, hh, _⟩
  ·cases e
  ·have : g' = g := by simpa [Value.ownBlock] using e
   subst this
   rw [hh] at hcur
   injection hcur with hcur
   injection hcur with _ hcur _
   exact absurd hcur (by decide)
 rcases h with h | h
 ·exact .inl (key _ h)
 ·exact .inr (key _ h)
set_option maxRecDepth 100000 in
set_option maxHeartbeats 8000000 in
theorem lput_any (v : Value) (s : St) (w : World) (h : StAt none w v s) (hm : mayV s = true) :
  Calls Tryz.prog 5 #[v] w fun e w' => e = .returned (.tuple #[.string ⟨(putL s).toArray⟩, .int .i64 0]) ∧ Below w.heap.size w w' := by
 obtain ⟨⟨A, n, c, Bz, m, d, D, k, e, rfl, hI, hD, hM, h5, h6, h7⟩, hz⟩ := h
 obtain ⟨W, hW, b0, b1, b2, hal, hlt0⟩ := box_st w A n c Bz m d D k e
 have hrow : W.heap[w.heap.size]? = some (.cells #[.slice A n c, .slice Bz m d, .slice D k e] 26 (0, 0)) := by rw [← hW]; exact heap_alloc_new w _
 have hst : StAt none W (.agg #[.slice A n c, .slice Bz m d, .slice D k e]) s := ⟨⟨A, n, c, Bz, m, d, D, k, e, rfl, hI.below hal, hD.below hal, hM.below hal, h5, h6, h7⟩, hz⟩
 have hp : PtrAt W w.heap.size s := ⟨⟨A, n, c, Bz, m, d, D, k, e, hrow, hI.below hal, hD.below hal, hM.below hal, h5, h6, h7⟩, hz⟩
 have hok := may_facts hm
 have hbig := hz.big
 have hbe : bulkE s.inos ≤ 1099511627776 := by omega
 have hkl := hM.1
 have hnl := hI.1
 have hk8 : k ≤ 8 := by have := hok.made.2.1; omega
 have hn1 : 0 < n := by have := hok.inos; omega
 have hn2 : n ≤ 257 := by have := hok.inos; omega
 have HST := Lib.hid hst
 have HP := Lib.hid hp
 have HAL := Lib.hid hal
 have HM := Lib.hid hm
 have HOK := Lib.hid hok
 have HBE := Lib.hid hbe
 have HI := Lib.hid hI
 have HMD := Lib.hid hM
 have hil := inosL_len s.inos hok.data
 have hml := madeL_len s.made
 have HIL := Lib.hid hil
 have HML := Lib.hid hml
 have HKL := Lib.hid hkl
 have HNL := Lib.hid hnl
 clear hI hD hM hz hst hal hm hrow hp hok hbig hbe hil hml hkl hnl h5 h6 h7
 go_enter Tryz.func5, Tryz.ntmps5
 go_wp2_with fail
 refine (mmay_any _ s _ HST.out).mono ?_
 rintro e1 w1 ⟨rfl, hb1⟩
 rw [HM.out]
 have HB1 := Lib.hid (Cv.next HAL.out hb1)
 have HB1W := Lib.hid hb1
 obtain ⟨U, hU⟩ : ∃ U, w1.alloc (.cells #[.pointer none, .slice none 0 0] 50) = U := ⟨_, rfl⟩
 have hfr : Bld w1.heap.size w1.heap.size [] U := by rw [← hU]; exact Lib.IsBuilderF.of (Lib.fresh_isBuilder _ _ w1)
 have hbu : Below w1.heap.size w1 U := by rw [← hU]; exact (Below.refl _ _).alloc (Nat.le_refl _) _
 have husz : w1.heap.size ≤ U.heap.size := hbu.size
 have HFR := Lib.hid hfr
 have HBU := Lib.hid hbu
 have hcell : ∀ w', Below w1.heap.size w1 w' → w'.cell? ⟨w.heap.size, 0, .none⟩ = some (.slice A n c) ∧ w'.cell? ⟨w.heap.size, 1, .none⟩ = some (.slice Bz m d) ∧ w'.cell? ⟨w.heap.size, 2, .none⟩ = some (.slice D k e) ∧ PtrAt w' w.heap.size s ∧ InosAt none w' A n s.inos ∧ IntsAt none w' D k s.made := by
  intro w' hw'
  have hb : Below W.heap.size W w' := hb1.trans (hw'.mono hb1.size)
  exact ⟨(hb.cell (p := ⟨w.heap.size, 0, .none⟩) hlt0).trans b0, (hb.cell (p := ⟨w.heap.size, 1, .none⟩) hlt0).trans b1, (hb.cell (p := ⟨w.heap.size, 2, .none⟩) hlt0).trans b2, HP.out.below hb, (HI.out.below HAL.out).below hb, (HMD.out.below HAL.out).below hb⟩
 have HC := Lib.hid hcell
 have hww : ∀ w', Below w1.heap.size w1 w' → Below w.heap.size w w' := fun w' hw' => Cv.next HB1.out hw'
 have HWW := Lib.hid hww
 clear hb1 hfr hbu hcell hww b0 b1 b2 hW hlt0
 go_wp2_with fail
 clear hU
 refine (writestring_any w1.heap.size w1.heap.size [] ⟨#[67, 78, 67, 49]⟩ U HFR.out (by decide) husz).mono ?_
 rintro e2 w2 ⟨rfl, hbl2, hwr2⟩
 have HL2 : Hid (Bld w1.heap.size w1.heap.size magicL w2) := Lib.hid hbl2
 have HW2 := Lib.hid hwr2
 have HD2 := Lib.hid (HBU.out.trans hwr2.below)
 have hs2 : w1.heap.size ≤ w2.heap.size := HD2.out.size
 have y2 := (HC.out _ HD2.out).2.2.1
 clear hbl2 hwr2
 go_wp2_with fail
 refine (number_any w1.heap.size w1.heap.size magicL k w2 HL2.out (by omega) (by decide) hs2).mono ?_
 rintro e3 w3 ⟨rfl, hbl3, hwr3⟩
 have HL3 := Lib.hid hbl3
 have HW3 := Lib.hid (HW2.out.trans hwr3)
 have HD3 := Lib.hid (HD2.out.trans hwr3.below)
 have hs3 : w1.heap.size ≤ w3.heap.size := HD3.out.size
 have y3 := (HC.out _ HD3.out).2.2.1
 have hl3 : (magicL ++ numL k).length ≤ 15 := by
  have := numL_len k
  rw [List.length_append]
  have h4 : magicL.length = 4 := rfl
  omega
 obtain ⟨P3, hP3⟩ : ∃ P3, magicL ++ numL k = P3 := ⟨_, rfl⟩
 rw [hP3] at HL3 hl3
 have HP3 := Lib.hid hP3
 clear hbl3 hwr3 y2 hP3
 go_wp2_with fail
 clear y3
 go_loopw [6, 28] (fun _ i wr => ∃ (q : Nat) (l' : List UInt8), i = .int .i64 q ∧ q ≤ k ∧ Bld w1.heap.size w1.heap.size l' wr ∧ Wr w1.heap.size w1.heap.size U wr ∧ l' ++ madeL (s.made.drop q) = P3 ++ madeL s.made) (fun _ i _ => k - (intOf i).toNat)
 case atStart => exact ⟨0, P3, rfl, by omega, HL3.out, HW3.out, rfl⟩
 case round =>
  obtain ⟨q, l', rfl, hq, hbl, hwr, hc⟩ := hrel
  have HBL := Lib.hid hbl
  have HWR := Lib.hid hwr
  have HDR := Lib.hid (HBU.out.trans hwr.below)
  have hsr : w1.heap.size ≤ wr.heap.size := HDR.out.size
  have hll : l'.length + (madeL (s.made.drop q)).length ≤ 15 + 88 := by
   have h1 := congrArg List.length hc
   rw [List.length_append, List.length_append] at h1
   have := HML.out
   have := HKL.out
   omega
  clear hbl hwr
  by_cases hlt : q < k
  ·obtain ⟨g, off, x, rfl, hg, hx, hd, hmem, c0⟩ := (HC.out _ HDR.out).2.2.2.2.2.get q hlt
   have r0 : (0 : Int) ≤ (q : Int) := by omega
   have r1 : (q : Int) < (k : Int) := by omega
   have hxr := HOK.out.made.2.2 x hmem
   rw [madeL_drop _ _ _ hx] at hc
   rw [toNat_val hxr.1] at c0
   obtain ⟨Y, hY⟩ : ∃ Y, x.toNat = Y := ⟨_, rfl⟩
   rw [hY] at c0 hc
   have hY2 : Y ≤ 1099511627776 := by omega
   have hll2 : l'.length ≤ 103 := by omega
   have HCC := Lib.hid hc
   clear hd hmem hx hc hxr hll
   go_wp2_with fail
   refine (number_any w1.heap.size w1.heap.size l' Y wr HBL.out hY2 (by omega) hsr).mono ?_
   rintro e4 w4 ⟨rfl, hbl4, hwr4⟩
   have HL4 := Lib.hid hbl4
   have HW4 := Lib.hid (HWR.out.trans hwr4)
   clear hbl4 hwr4 c0
   go_wp2_with fail
   go_roundw
   case rel => exact ⟨q + 1, _, by go_num, by omega, HL4.out, HW4.out, by have := HCC.out; simpa [List.append_assoc] using this⟩
   case measure => simp [intOf]; omega
  ·have hnil : s.made.drop q = [] := List.drop_eq_nil_of_le (by have := HKL.out; omega)
   rw [hnil, madeL, List.append_nil] at hc
   have q1 : decide ((q : Int) < (k : Int)) = false := by rw [decide_eq_false_iff_not]; omega
   have hpl : l'.length ≤ 103 := by omega
   have HCC := Lib.hid hc
   have y0 := (HC.out _ HDR.out).1
   clear hc hnil hll
   go_wp2_with fail
   refine (cloneinos_any s.inos A n c w1 wr (HC.out w1 (Below.refl _ _)).2.2.2.2.1 HDR.out hn1 (by omega)).mono ?_
   rintro e5 w5 ⟨g5, c5, zs, rfl, hnc5, hg5, hkp, hzs, hb5⟩
   have HKP := Lib.hid hkp
   have HZS := Lib.hid hzs
   have HL5 := Lib.hid (HBL.out.keep hb5)
   have HW5 := Lib.hid (HWR.out.trans (Wr.of_below hb5 hsr))
   have HD5 := Lib.hid (HBU.out.trans HW5.out.below)
   have hb5w := hb5
   have HB5 := Lib.hid hb5w
   have hi5 := hkp.inos HD5.out
   rw [hzs] at hi5
   have HI5 := Lib.hid hi5
   clear hkp hzs hb5 hb5w y0 hi5
   go_wp2_with fail
   refine (delfunc_any w.heap.size s w1 g5 c5 n zs w5 (HC.out w1 (Below.refl _ _)).2.2.2.1 HD5.out (by omega) HKP.out hnc5 (by omega)).mono ?_
   rintro e6 w6 ⟨k6, rfl, hk6, hkk, hgr6⟩
   have hs5 : w1.heap.size ≤ w5.heap.size := HD5.out.size
   have hgb5 : g5 ≠ w1.heap.size := by
    have := HBL.out.lt
    omega
   have HL6 := Lib.hid (HL5.out.grown hgr6 hgb5 (by obtain ⟨cur, h1, _⟩ := HKP.out.row; exact ⟨cur, h1⟩))
   have HD6 := Lib.hid (HD5.out.trans (rw_below hgr6 hs5 (fun k hk => by injection hk with hk; omega)))
   obtain ⟨zf, hzf⟩ : ∃ zf, zs.filter (keepB s) = zf := ⟨_, rfl⟩
   obtain ⟨KI, hKI⟩ : ∃ KI, keptV s = KI := ⟨_, rfl⟩
   have hzk : zf.map Prod.fst = KI := by
    rw [← hzf, ← hKI]
    unfold keptV
    obtain ⟨L, hL⟩ : ∃ L, s.inos = L := ⟨_, rfl⟩
    have hzl : zs.map Prod.fst = L := by rw [← hL]; exact HZS.out
    unfold keepB delB
    rw [hL]
    have e : L.filter (fun x => x.dir || decide (linkI L x.num ≠ 0)) = (zs.map Prod.fst).filter (fun x => x.dir || decide (linkI L x.num ≠ 0)) := by rw [hzl]
    rw [e, List.filter_map]
    refine congrArg (List.map Prod.fst) (List.filter_congr (fun z _ => ?_))
    simp only [Function.comp]
    cases z.1.dir <;> simp
   rw [hzf] at hkk
   have hnk : KI.length = k6 := by rw [← hzk, List.length_map]; exact hkk.len
   have hmk : ∀ x ∈ KI, x ∈ s.inos := fun x hx => by rw [← hKI] at hx; exact (List.mem_filter.1 hx).1
   have hilk := inosL_len KI (fun x hx => HOK.out.data x (hmk x hx))
   have hbk : bulkE KI ≤ 1099511627776 := by
    have h1 := bulk_filter (fun x => x.dir || decide (linkI s.inos x.num ≠ 0)) s.inos
    have h2 := HBE.out
    rw [← hKI]
    unfold keptV
    omega
   have HK6 := Lib.hid hkk
   have HZK := Lib.hid hzk
   have HNK := Lib.hid hnk
   have HMK := Lib.hid hmk
   have HILK := Lib.hid hilk
   have HBK := Lib.hid hbk
   have HKI := Lib.hid hKI
   have hs6 : w1.heap.size ≤ w6.heap.size := HD6.out.size
   clear hkk hzf hzk hnk hmk hilk hbk hKI hgr6
   go_wp2_with fail
   refine (number_any w1.heap.size w1.heap.size l' k6 w6 HL6.out (by omega) (by omega) hs6).mono ?_
   rintro e7 w7 ⟨rfl, hbl7, hwr7⟩
   have hgb : g5 ≠ w1.heap.size := by
    have := HBL.out.lt
    omega
   have HL7 := Lib.hid hbl7
   have HK7 := Lib.hid (HK6.out.wr hwr7 hgb)
   have HD7 := Lib.hid (HD6.out.trans hwr7.below)
   have hln := numL_len k6
   obtain ⟨P7, hP7⟩ : ∃ P7, l' ++ numL k6 = P7 := ⟨_, rfl⟩
   have hpl7 : P7.length ≤ 114 := by rw [← hP7, List.length_append]; omega
   rw [hP7] at HL7
   have HP7 := Lib.hid hP7
   clear hbl7 hwr7 hP7 hln
   go_wp2_with fail
   go_loopw [8, 48] (fun _ i wr => ∃ (q : Nat) (l' : List UInt8), i = .int .i64 q ∧ q ≤ k6 ∧ Bld w1.heap.size w1.heap.size l' wr ∧ Wr w1.heap.size w1.heap.size w7 wr ∧ l' ++ inosL (KI.drop q) = P7 ++ inosL KI) (fun _ i _ => k6 - (intOf i).toNat)
   case atStart => exact ⟨0, P7, rfl, by omega, HL7.out, Wr.refl _ _ _, rfl⟩
   case round =>
    obtain ⟨q, l2, rfl, hq, hbl, hwr, hc⟩ := hrel
    have HBL2 := Lib.hid hbl
    have HWR2 := Lib.hid hwr
    have HDR2 := Lib.hid (HD7.out.trans hwr.below)
    have hsr2 : w1.heap.size ≤ wr.heap.size := HDR2.out.size
    have hll2 : l2.length + (inosL (KI.drop q)).length ≤ 114 + (300 * 257 + 40 * 1099511627776) := by
     have h1 := congrArg List.length hc
     rw [List.length_append, List.length_append] at h1
     have := HILK.out
     have := HNK.out
     have := HBK.out
     omega
    clear hbl hwr
    by_cases hlt : q < k6
    ·obtain ⟨z, hz⟩ : ∃ z, zf[q]? = some z := ⟨_, List.getElem?_eq_getElem (by have := HK7.out.len; omega)⟩
     obtain ⟨E, m2, d2, hez, hok2, hE2⟩ := HK7.out.ents z (List.mem_of_getElem? hz)
     have hzx : KI[q]? = some z.1 := by rw [← HZK.out, List.getElem?_map, hz]; rfl
     have hix := HOK.out.ino HBE.out z.1 (HMK.out _ (List.mem_of_getElem? hzx))
     have r0 : (0 : Int) ≤ (q : Int) := by omega
     have r1 : (q : Int) < (k6 : Int) := by omega
     rw [inosL_drop _ _ _ hzx] at hc hll2
     rw [List.length_append] at hll2
     have hxx : ∀ w', Wr w1.heap.size w1.heap.size wr w' → (w'.cell? ⟨g5, q * 4, none⟩ = some (.int .i64 z.1.num) ∧ w'.cell? ⟨g5, q * 4 + 1, none⟩ = some (.bool z.1.dir) ∧ w'.cell? ⟨g5, q * 4 + 2, none⟩ = some (.slice E m2 d2) ∧ w'.cell? ⟨g5, q * 4 + 3, none⟩ = some (.string z.1.data)) ∧ EntsAt none w' E m2 z.1.ents := by
      intro w' hw'
      exact ⟨(HK7.out.wr (HWR2.out.trans hw') hgb).cells hz hez, hE2.below (HDR2.out.trans hw'.below)⟩
     have HXX := Lib.hid hxx
     have HIX := Lib.hid hix
     have HCC2 := Lib.hid hc
     have HLL2 := Lib.hid hll2
     clear hz hez hok2 hE2 hzx hix hc hll2 hxx
     go_wp2_with fail
     refine (inode_any w1.heap.size w1.heap.size g5 (q * 4) l2 z.1 E m2 d2 wr HBL2.out HIX.out (by have := HLL2.out; omega) hsr2 HXX.out).mono ?_
     rintro e8 w8 ⟨rfl, hbl8, hwr8⟩
     have HL8 := Lib.hid hbl8
     have HW8 := Lib.hid (HWR2.out.trans hwr8)
     clear hbl8 hwr8
     go_wp2_with fail
     go_roundw
     case rel => exact ⟨q + 1, _, by go_num, by omega, HL8.out, HW8.out, by have := HCC2.out; simpa [List.append_assoc] using this⟩
     case measure => simp [intOf]; omega
    ·have hnil : KI.drop q = [] := List.drop_eq_nil_of_le (by have := HNK.out; omega)
     rw [hnil, inosL, List.append_nil] at hc
     have q2 : decide ((q : Int) < (k6 : Int)) = false := by rw [decide_eq_false_iff_not]; omega
     have hpl : l2.length ≤ 114 + (300 * 257 + 40 * 1099511627776) := by omega
     have hhead : l2 = headL s.made KI := by
      rw [hc, ← HP7.out, HCC.out, ← HP3.out]
      unfold headL
      rw [HKL.out, HNK.out]
     have HHD := Lib.hid hhead
     have hl0 : l2 ≠ [] := by
      rw [hhead]
      unfold headL magicL
      simp
     have HL0 := Lib.hid hl0
     clear hc hnil hll2 hhead hl0
     go_wp2_with fail
     refine (string_any w1.heap.size w1.heap.size l2 wr HBL2.out HL0.out).mono ?_
     rintro e9 w9 ⟨rfl, hbl9, hwr9⟩
     have HL9 := Lib.hid hbl9
     have HW9 := Lib.hid (HWR2.out.trans hwr9)
     have HD9 := Lib.hid (HDR2.out.trans hwr9.below)
     have hs9 : w1.heap.size ≤ w9.heap.size := HD9.out.size
     have hsz9 : (⟨l2.toArray⟩ : ByteArray).size ≤ maxLen := by
      show l2.toArray.size ≤ maxLen
      rw [List.size_toArray]
      unfold maxLen
      omega
     have HS9 := Lib.hid hsz9
     clear hbl9 hwr9 hsz9
     go_wp2_with fail
     refine (sum_any ⟨l2.toArray⟩ w9 HS9.out).mono ?_
     rintro e10 w10 ⟨rfl, rfl⟩
     obtain ⟨H, hH⟩ : ∃ H, sumN (⟨l2.toArray⟩ : ByteArray).data.toList = H := ⟨_, rfl⟩
     have hHlt : H < 18446744073709551616 := by rw [← hH, ← hM_lit]; exact sumN_lt _
     rw [hH]
     have HH := Lib.hid hH
     clear hH
     go_wp2_with fail
     go_loopw [10, 62] (fun _ i wr => ∃ q : Nat, i = .int .i64 q ∧ q ≤ 8 ∧ Bld w1.heap.size w1.heap.size (l2 ++ (eightL H).take q) wr ∧ Wr w1.heap.size w1.heap.size w9 wr) (fun _ i _ => 8 - (intOf i).toNat)
     case atStart => exact ⟨0, rfl, by omega, by simpa using HL9.out, Wr.refl _ _ _⟩
     case round =>
      obtain ⟨q, rfl, hq, hbl, hwr⟩ := hrel
      have HBLz := Lib.hid hbl
      have HWRz := Lib.hid hwr
      have HDz := Lib.hid (HD9.out.trans hwr.below)
      have hsz : w1.heap.size ≤ wr.heap.size := HDz.out.size
      clear hbl hwr
      by_cases hlt : q < 8
      ·have r0 : (0 : Int) ≤ (q : Int) := by omega
       have r1 : (q : Int) < 8 := by omega
       have r2 : decide ((q : Int) < 8) = true := by rw [decide_eq_true_eq]; omega
       have r3 : (0 : Int) ≤ 56 - 8 * (q : Int) := by omega
       have r4 : IntKind.i64.wrap (56 - 8 * (q : Int)) = 56 - 8 * (q : Int) := by rw [IntKind.wrap_i64]; omega
       have r5 : IntKind.i64.wrap (8 * (q : Int)) = 8 * (q : Int) := by rw [IntKind.wrap_i64]; omega
       go_wp2_with fail
       refine wp_region_quiet_tail 9 (by kernel_rfl) (by kernel_rfl) ?_
       simp only [List.take_succ_cons, List.take_zero, List.drop_succ_cons, List.drop_zero]
       repeat (go_big_quiet_step (fail))
       refine wpQuiet_nil ?_
       go_wp2_with fail
       have hdr : Below wr.heap.size wr wr.drew := Below.drew (Below.refl _ _)
       refine (writebyte_any w1.heap.size w1.heap.size (l2 ++ (eightL H).take q) (H / 2 ^ (56 - 8 * q)).toUInt8 _ wr.drew (byte_val H (56 - 8 * q)) (HBLz.out.keep hdr) (by
        rw [List.length_append, List.length_take, eight_len]
        omega) hsz).mono ?_
       rintro e11 w11 ⟨rfl, hbl11, hwr11⟩
       have HL11 := Lib.hid hbl11
       have HW11 := Lib.hid ((HWRz.out.trans Wr.drew).trans hwr11)
       clear hbl11 hwr11 hdr
       go_wp2_with fail
       go_roundw
       case rel => exact ⟨q + 1, by go_num, by omega, by
        have h9 := HL11.out
        rw [List.take_add_one, eight_get H q hlt]
        simpa [List.append_assoc] using h9, HW11.out⟩
       case measure => simp [intOf]; omega
      ·obtain rfl : q = 8 := by omega
       have hbl := HBLz.out
       rw [List.take_of_length_le (by rw [eight_len]; omega)] at hbl
       have HBLy := Lib.hid hbl
       clear hbl
       go_wp2_with fail
       refine (string_any w1.heap.size w1.heap.size (l2 ++ eightL H) wr HBLy.out (by
        intro h9
        exact HL0.out (List.append_eq_nil_iff.1 h9).1)).mono ?_
       rintro e12 w12 ⟨rfl, hbl12, hwr12⟩
       have HD12 := Lib.hid (HDz.out.trans hwr12.below)
       clear hbl12 hwr12
       go_wp2_with fail
       go_ret2
       refine ⟨?_, HWW.out _ HD12.out⟩
       have e2 : sumN l2 = H := by have := HH.out; simpa using this
       rw [HHD.out] at e2
       have e3 : l2 ++ eightL H = putL s := by
        unfold putL
        rw [HKI.out]
        unfold sealL
        rw [e2, ← HHD.out]
       exact congrArg (fun z : List UInt8 => Ending.returned (.tuple #[.string ⟨z.toArray⟩, .int .i64 0])) e3
def stays (s : St) (x : Ino) : Bool := x.dir || decide (linkI s.inos x.num ≠ 0)
set_option maxRecDepth 100000 in
set_option maxHeartbeats 2000000 in
theorem kept_any (v : Value) (s : St) (x : Ino) (E : Option Addr) (m d : Nat) (w : World) (h : StAt none w v s) :
  Calls Tryz.prog 56 #[v, .agg #[.int .i64 x.num, .bool x.dir, .slice E m d, .string x.data]] w fun e w' => e = .returned (.bool (stays s x)) ∧ Below w.heap.size w w' := by
 obtain ⟨A2, n2, c2, E2, m2, d2, D2, k2, e2, rfl, _⟩ := h.at_
 obtain ⟨V1, hV1, b0, b1, b2, hal1, hlt1⟩ := box_st w A2 n2 c2 E2 m2 d2 D2 k2 e2
 obtain ⟨V, hV, u0, u1, u2, u3, hal2, hlt2⟩ := box_ino V1 x.num x.dir E m d x.data
 have HST := Lib.hid ((h.below hal1).below hal2)
 have HAL := Lib.hid (Cv.next hal1 hal2)
 have c0 := (hal2.cell (p := ⟨w.heap.size, 0, none⟩) hlt1).trans b0
 have c1 := (hal2.cell (p := ⟨w.heap.size, 1, none⟩) hlt1).trans b1
 have c2' := (hal2.cell (p := ⟨w.heap.size, 2, none⟩) hlt1).trans b2
 have hz1 : V1.heap.size = w.heap.size + 1 := by rw [← hV1]; simp
 rw [hz1] at u0 u1 u2 u3
 unfold stays
 obtain ⟨DX, hDX⟩ : ∃ DX, x.dir = DX := ⟨_, rfl⟩
 rw [hDX] at hV u1 ⊢
 clear h hal1 hal2 hDX b0 b1 b2
 go_enter Tryz.func56, Tryz.ntmps56
 cases DX
 ·go_wp2_with fail
  refine (links_any _ s x.num V HST.out).mono ?_
  rintro e5 w5 ⟨rfl, hb5⟩
  obtain ⟨L, hL⟩ : ∃ L, linkI s.inos x.num = L := ⟨_, rfl⟩
  have HL := Lib.hid hL
  rw [hL]
  clear hL
  have HB5 := Lib.hid (Cv.next HAL.out hb5)
  clear hb5 u0 u1 u2 u3 c0 c1 c2'
  by_cases hz : L = 0
  ·subst hz
   go_wp2_with fail
   go_ret
   exact ⟨Cv.ret_bool (by rw [HL.out]; rfl), HB5.out⟩
  ·have q1 : decide ((0 : Int) < (L : Int)) = true := by rw [decide_eq_true_eq]; omega
   go_wp2_with fail
   go_ret
   exact ⟨Cv.ret_bool (by rw [HL.out, decide_eq_true hz]; simp; omega), HB5.out⟩
 ·go_wp2_with fail
  go_ret
  exact ⟨rfl, HAL.out⟩
def lputR (s : St) : ByteArray × Int := if mayV s = true then (⟨(putL s).toArray⟩, 0) else (⟨#[]⟩, 1902)
theorem lputr_any (v : Value) (s : St) (w : World) (h : StAt none w v s) :
  Calls Tryz.prog 5 #[v] w fun e w' => e = .returned (.tuple #[.string (lputR s).1, .int .i64 (lputR s).2]) ∧ Below w.heap.size w w' := by
 unfold lputR
 cases hm : mayV s
 ·exact put_bad v s w h hm
 ·exact lput_any v s w h hm
theorem size_any (v : Value) (s : St) (w : World) (h : StAt none w v s) :
  Calls Tryz.prog 8 #[v] w fun e w' => e = .returned (.int .i64 ((lputR s).1.size : Nat)) ∧ Below w.heap.size w w' := by
 obtain ⟨P, hP⟩ : ∃ P, lputR s = P := ⟨_, rfl⟩
 have hput := fun v u h => lputr_any v s u h
 simp only [hP] at hput
 rw [hP]
 obtain ⟨A2, n2, c2, E2, m2, d2, D2, k2, e2, rfl, _⟩ := h.at_
 obtain ⟨V1, hV1, b0, b1, b2, hal1, hlt1⟩ := box_st w A2 n2 c2 E2 m2 d2 D2 k2 e2
 have HST := Lib.hid (h.below hal1)
 have HAL := Lib.hid hal1
 have HPUT := Lib.hid hput
 clear h hal1 hput hP
 go_enter Tryz.func8, Tryz.ntmps8
 go_wp2_with fail
 refine (HPUT.out _ V1 HST.out).mono ?_
 rintro e5 w5 ⟨rfl, hb5⟩
 have HB5 := Lib.hid (Cv.next HAL.out hb5)
 clear hb5
 go_wp2_with fail
 go_ret
 exact ⟨rfl, HB5.out⟩
theorem ltB_trans : ∀ (a b c : List UInt8), ltB a b = true → ltB b c = true → ltB a c = true
 | [], [], _, h, _ => by simp [ltB] at h
 | [], _ :: _, [], _, h => by simp [ltB] at h
 | [], _ :: _, _ :: _, _, _ => rfl
 | _ :: _, [], _, h, _ => by simp [ltB] at h
 | _ :: _, _ :: _, [], _, h => by simp [ltB] at h
 | a :: al, b :: bl, c :: cl, h1, h2 => by
  unfold ltB at h1 h2 ⊢
  by_cases e1 : a = b
  ·subst e1
   rw [if_pos rfl] at h1
   by_cases e2 : a = c
   ·subst e2
    rw [if_pos rfl] at h2 ⊢
    exact ltB_trans al bl cl h1 h2
   ·rw [if_neg e2] at h2 ⊢
    exact h2
  ·rw [if_neg e1, decide_eq_true_eq] at h1
   by_cases e2 : b = c
   ·subst e2
    rw [if_neg e1, decide_eq_true_eq]
    exact h1
   ·rw [if_neg e2, decide_eq_true_eq] at h2
    have h3 := UInt8.lt_trans h1 h2
    have e3 : a ≠ c := fun e => by subst e; exact absurd h3 (UInt8.lt_irrefl _)
    rw [if_neg e3, decide_eq_true_eq]
    exact h3
theorem ltN_trans {a b c : ByteArray} (h1 : ltN a b = true) (h2 : ltN b c = true) : ltN a c = true := ltB_trans _ _ _ h1 h2
def RiseE (es : List En) : Prop := ∀ (i j : Nat) (x y : En), i < j → es[i]? = some x → es[j]? = some y → ltN x.name y.name = true
structure EnPos (es : List En) (nm : ByteArray) (i : Nat) (b : Bool) : Prop where
 le : i ≤ es.length
 lo : ∀ (k : Nat) (x : En), k < i → es[k]? = some x → ltN x.name nm = true
 hi : ∀ (k : Nat) (x : En), i ≤ k → es[k]? = some x → ltN x.name nm = false
 is_ : b = true → ∃ e, es[i]? = some e ∧ e.name = nm
 of_ : (∃ e, es[i]? = some e ∧ e.name = nm) → b = true
end Go.Proofs.YthhceopnnappgaaGreat
