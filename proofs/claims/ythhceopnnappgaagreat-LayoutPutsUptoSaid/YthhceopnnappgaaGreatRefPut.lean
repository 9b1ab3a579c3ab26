/- The document's Put: a state's bytes, as the layout's own Put answers them. -/
import Derived.Test.YthhceopnnappgaaGreatRefNum
import Derived.Test.YthhceopnnappgaaGreatFsMayDoc
import Derived.Test.YthhceopnnappgaaGreatM37
import Derived.Test.YthhceopnnappgaaGreatM25
import Derived.Lib.SlBytesConst
set_option linter.unusedVariables false
set_option linter.unusedSimpArgs false
namespace Go.Proofs.YthhceopnnappgaaGreat
open Go.RowKit
theorem refput_yes {s : St} (hm : mayV s = true) : lputR s = (⟨(putL s).toArray⟩, 0) := by unfold lputR; rw [if_pos hm]
theorem refput_no {s : St} (hm : mayV s = false) : lputR s = (⟨#[]⟩, 1902) := by unfold lputR; rw [if_neg (by rw [hm]; decide)]
theorem Grew.below {B : Nat} {w w' : World} {v v' : Value} (h : Grew w w' v v') {l : List UInt8} (hr : ByAt B w v l) (hB : B ≤ w.heap.size) : Below B w w' :=
 rw_below h.grown hB (fun k hk => (hr.1.blk k hk).1)
theorem Grew.stays {w w' : World} {v v' : Value} (h : Grew w w' v v') {X : Nat} (hX : X < w.heap.size) (hne : some X ≠ rowBlk v) : w'.heap[X]? = w.heap[X]? := h.grown.block X hX hne
theorem ByAt.old {B : Nat} {w : World} {v : Value} {l : List UInt8} (h : ByAt B w v l) : some w.heap.size ≠ rowBlk v := fun e => by
 obtain ⟨_, h2, _⟩ := h.1.blk _ e.symm
 omega
theorem ByAt.go {B : Nat} {w w' : World} {v : Value} {l : List UInt8} (h : ByAt B w v l) (hb : Below w.heap.size w w') : ByAt B w' v l := ⟨h.1.kept (r := none) (rw_none hb) (fun b _ => by simp), h.2⟩
theorem Grew.apart {w w' : World} {v v' : Value} (h : Grew w w' v v') {X : Nat} (hX : X < w.heap.size) (hne : some X ≠ rowBlk v) : some X ≠ rowBlk v' := by
 rcases h.blk with h1 | ⟨q, h1, h2⟩
 ·rw [h1]; exact hne
 ·rw [h1]
  intro e
  injection e with e
  omega
theorem ByX.old {B : Nat} {w : World} {v : Value} {l : List UInt8} (h : ByX B w v l) : some w.heap.size ≠ rowBlk v := by
 rcases h with h | ⟨g, cur, fz, rfl, h0, hB, hg, hc⟩
 ·exact h.old
 ·intro e
  have hl : 0 < l.length := List.length_pos_iff.2 h0
  have : g = w.heap.size := by simpa [rowBlk, Nat.ne_of_gt hl] using e.symm
  have := (Array.getElem?_eq_some_iff.1 hg).1
  omega
theorem Grew.belowX {B : Nat} {w w' : World} {v v' : Value} (h : Grew w w' v v') {l : List UInt8} (hr : ByX B w v l) (hB : B ≤ w.heap.size) : Below B w w' := by
 rcases hr with hr | ⟨g, cur, fz, rfl, h0, hB', hg, hc⟩
 ·exact h.below hr hB
 ·refine rw_below h.grown hB (fun k hk => ?_)
  have hl : 0 < l.length := List.length_pos_iff.2 h0
  have : g = k := by simpa [rowBlk, Nat.ne_of_gt hl] using hk
  omega
theorem ByAt.row {B : Nat} {w : World} {v : Value} {l : List UInt8} (h : ByAt B w v l) : ∃ g cap, v = .slice (some ⟨g, 0, none⟩) l.length cap ∧ Cv.ByteRow w g l := by
 have hl : 0 < l.length := List.length_pos_iff.2 h.2
 rcases h.1.2 with ⟨A, rfl, h0⟩ | ⟨g, cap, cur, rfl, hc, hB, hg, hn, hm, hs, ht⟩
 ·omega
 ·refine ⟨g, cap, rfl, (Array.getElem?_eq_some_iff.1 hg).1, fun j hj => ⟨?_, frozen_of_row w g j _ _ hg⟩⟩
  rw [cell_of_row w g j _ _ (0, 0) hg]
  have h1 : (Lib.byteCells l)[j]? = some (.int .u8 ((l.getD j 0).toNat : Int)) := by
   unfold Lib.byteCells
   rw [List.getElem?_map, List.getElem?_eq_getElem hj, List.getD_eq_getElem?_getD, List.getElem?_eq_getElem hj]
   rfl
  rw [← ht, List.getElem?_take, if_pos (by omega)] at h1
  simpa using h1
set_option maxRecDepth 100000 in
set_option maxHeartbeats 8000000 in
theorem refput_any (v : Value) (s : St) (w : World) (h : StAt none w v s) :
  Calls Tryz.prog 6 #[v] w fun e w' => e = .returned (.tuple #[.string (lputR s).1, .int .i64 (lputR s).2]) ∧ Below w.heap.size w w' := by
 obtain ⟨R, hR⟩ : ∃ R, lputR s = R := ⟨_, rfl⟩
 rw [hR]
 have HR := Lib.hid hR
 clear hR
 obtain ⟨A0, n0, c0, E0, m0, d0, D0, k0, g0, rfl, _⟩ := h.at_
 obtain ⟨W, hW, hzW, hoW, hbW⟩ := boxS w (.slice A0 n0 c0) (.slice E0 m0 d0) (.slice D0 k0 g0)
 have HST := Lib.hid (h.below hbW)
 have HO := Lib.hid hoW
 have HB := Lib.hid hbW
 obtain ⟨b0, b1, b2, _⟩ := hoW.get
 clear h hoW hbW
 go_enter Tryz.func6, Tryz.ntmps6
 go_wp2_with fail
 refine (may_doc _ s W HST.out).mono ?_
 rintro e1 w1 ⟨rfl, hb1⟩
 have HST1 := Lib.hid (HST.out.below hb1)
 have HO1 := Lib.hid (HO.out.go hb1)
 have HB1 := Lib.hid (Cv.next HB.out hb1)
 clear hb1 b0 b1 b2
 obtain ⟨b0, b1, b2, _⟩ := HO1.out.get
 cases hm : mayV s
 ·have hr := refput_no hm
  rw [HR.out] at hr
  subst hr
  clear hm HR
  go_wp2_with fail
  go_ret2
  exact ⟨rfl, HB1.out⟩
 ·have HM := Lib.hid hm
  clear hm
  go_wp2_with fail
  refine (bare_any _ s w1 HST1.out).mono ?_
  rintro e2 w2 ⟨v2, rfl, hst2, hb2⟩
  obtain ⟨A, n, c, E, m, d, D, k, g, rfl, hI, hD, hM, -⟩ := hst2.at_
  obtain ⟨V, hV, hzV, hoV, hbV⟩ := boxS w2 (.slice A n c) (.slice E m d) (.slice D k g)
  obtain ⟨P, hP⟩ : ∃ P, w2.heap.size = P := ⟨_, rfl⟩
  obtain ⟨B, hB⟩ : ∃ B, V.heap.size = B := ⟨_, rfl⟩
  rw [hP] at hoV hzV
  have hzB : B = P + 1 := by omega
  have HI := Lib.hid (hI.below hbV)
  have HD := Lib.hid (hM.below hbV)
  have HSZ := Lib.hid hst2.sized
  have HBV := Lib.hid (Cv.next HB1.out (Cv.next hb2 hbV))
  have HOV := Lib.hid hoV
  have hok := may_facts (may_bare HM.out)
  have hbig := hst2.sized.big
  have hbe : bulkE (bareV s).inos ≤ 1099511627776 := by omega
  have hkl := hM.1
  have hnl := hI.1
  have hk8 : k ≤ 8 := by have := hok.made.2.1; omega
  have hn2 : n ≤ 257 := by have := hok.inos; omega
  have hil := inosL_len (bareV s).inos hok.data
  have hml := madeL_len (bareV s).made
  have HOK := Lib.hid hok
  have HBE := Lib.hid hbe
  obtain ⟨HD1, hHD1⟩ : ∃ l, magicL ++ numL k ++ madeL (bareV s).made = l := ⟨_, rfl⟩
  obtain ⟨HD2, hHD2⟩ : ∃ l, HD1 ++ numL n ++ inosL (bareV s).inos = l := ⟨_, rfl⟩
  have hq1 := numL_len k
  have hq2 := numL_len n
  have hh1 : HD1.length ≤ 200 := by rw [← hHD1, List.length_append, List.length_append]; have : magicL.length = 4 := rfl; omega
  have hh2 : HD2.length ≤ 70000000000000 := by rw [← hHD2, List.length_append, List.length_append]; omega
  have hput : putL s = sealL HD2 := by rw [← hHD2, ← hHD1]; unfold putL headL; rw [← hkl, ← hnl]; rfl
  have HPUT := Lib.hid hput
  have HHD1 := Lib.hid hHD1
  have HHD2 := Lib.hid hHD2
  have HNL := Lib.hid hnl
  have HKL := Lib.hid hkl
  obtain ⟨g0, g1, g2, gf⟩ := hoV.get
  obtain ⟨X3, hX3⟩ : ∃ X3, V.alloc (.cells #[.int .u8 67, .int .u8 78, .int .u8 67, .int .u8 49] 5) = X3 := ⟨_, rfl⟩
  obtain ⟨X4, hX4⟩ : ∃ X4, V.alloc (.cells #[.int .u8 67, .int .u8 78, .int .u8 67, .int .u8 49] 5 (4, 5)) = X4 := ⟨_, rfl⟩
  have hcv := Lib.run_convert_bytes_const (P := Tryz.prog) V 46 5 #[.int .u8 67, .int .u8 78, .int .u8 67, .int .u8 49] 4 4 Tryz.underlying46 Tryz.underlying5
  rw [hB, hX3, show V.alloc (.cells #[.int .u8 67, .int .u8 78, .int .u8 67, .int .u8 49] 5 ((#[Value.int .u8 67, .int .u8 78, .int .u8 67, .int .u8 49] : Array Value).size, (#[Value.int .u8 67, .int .u8 78, .int .u8 67, .int .u8 49] : Array Value).size + 1)) = X4 from hX4] at hcv
  have hb3 : Below B V X4 := by rw [← hX4, ← hB]; exact (Below.refl _ _).alloc (Nat.le_refl _) _
  have hz3 : X4.heap.size = B + 1 := by rw [← hX4, ← hB]; simp
  have hrow3 : ByX B X4 (.slice (some ⟨B, 0, none⟩) 4 4) magicL := by
   have hh : X4.heap[B]? = some (.cells #[.int .u8 67, .int .u8 78, .int .u8 67, .int .u8 49] 5 (4, 5)) := by rw [← hX4, ← hB]; exact heap_alloc_new V _
   exact .inr ⟨B, _, _, rfl, by decide, Nat.le_refl _, hh, rfl⟩
  have x0 := (hb3.cell (p := ⟨P, 0, none⟩) (by show P < B; omega)).trans g0
  have x2 := (hb3.cell (p := ⟨P, 2, none⟩) (by show P < B; omega)).trans g2
  have HB3 := Lib.hid hb3
  have HR3 := Lib.hid hrow3
  rw [hzB] at hcv
  have hr := refput_yes HM.out
  rw [HR.out, hput] at hr
  subst hr
  clear HR
  clear hst2 hb2 hI hD hM hbV hoV hok hbig hbe hil hml hput hHD1 hHD2 hkl hnl hb3 hrow3 gf b0 b1 b2 hq1 hq2 g1
  go_wp2_with fail
  subst hzB
  have hkeep : ∀ w', Below (P + 1) V w' → w'.cell? ⟨P, 0, none⟩ = some (.slice A n c) ∧ w'.cell? ⟨P, 2, none⟩ = some (.slice D k g) ∧ Below V.heap.size V w' ∧ P + 1 ≤ w'.heap.size := fun w' hw => ⟨(hw.cell (p := ⟨P, 0, none⟩) (by show P < P + 1; omega)).trans g0, (hw.cell (p := ⟨P, 2, none⟩) (by show P < P + 1; omega)).trans g2, by rw [hB]; exact hw, by have := hw.size; omega⟩
  have HK := Lib.hid hkeep
  clear hkeep g0 g2 hX3 hX4 hcv hV hP
  refine (refnum_any (P + 1) (.slice (some ⟨P + 1, 0, none⟩) 4 4) magicL k X4 HR3.out (by omega) (by omega) (by decide)).mono ?_
  rintro e5 w5 ⟨u5, rfl, hr5, hg5⟩
  have HB5 := Lib.hid (HB3.out.trans (hg5.belowX HR3.out (by omega)))
  have HR5 := Lib.hid hr5
  clear hr5 hg5 x0 x2
  obtain ⟨x0, x2, _, _⟩ := HK.out w5 HB5.out
  go_wp2_with fail
  go_loopw [5, 6] (fun u i wr => ∃ (q : Nat) (b : Value) (l : List UInt8), b = u ∧ i = .int .i64 q ∧ q ≤ k ∧ ByAt (P + 1) wr b l ∧ l ++ madeL ((bareV s).made.drop q) = HD1 ∧ Below (P + 1) V wr) (fun _ i _ => k - (intOf i).toNat)
  case atStart => exact ⟨0, _, magicL ++ numL k, rfl, rfl, by omega, HR5.out, HHD1.out, HB5.out⟩
  case round =>
   obtain ⟨q, b, l, rfl, rfl, hq, hrow, hc, hbel⟩ := hrel
   have HROW := Lib.hid hrow
   have HC := Lib.hid hc
   have HBL := Lib.hid hbel
   have hll : l.length ≤ HD1.length := by rw [← hc, List.length_append]; omega
   clear hrow hc hbel x0 x2
   obtain ⟨x0, x2, hbV, hsz⟩ := HK.out wr HBL.out
   by_cases hlt : q < k
   ·obtain ⟨g', off, x, rfl, hg', hx, hdr, hmem, hcell'⟩ := HD.out.get q hlt
    have hxb := (HOK.out.made.2.2 x hmem)
    obtain ⟨N, rfl⟩ := Int.eq_ofNat_of_zero_le hxb.1
    have hcell := (hbV.cell (p := ⟨g', off + q, none⟩) hg').trans hcell'
    have k0 : (0 : Int) ≤ (q : Int) := by omega
    have k1 : (q : Int) < (k : Int) := by omega
    have HX := Lib.hid hx
    clear hx hdr hmem hcell' hbV
    go_wp2_with fail
    refine (refnum_any (P + 1) b l N wr (.inl HROW.out) hsz (by omega) (by omega)).mono ?_
    rintro e6 w6 ⟨u6, rfl, hr6, hg6⟩
    have HB6 := Lib.hid (HBL.out.trans (hg6.below HROW.out hsz))
    have HR6 := Lib.hid hr6
    clear hr6 hg6
    go_wp2_with fail
    go_roundw
    case rel => exact ⟨q + 1, _, l ++ numL N, rfl, by go_num, by omega, HR6.out, by have h1 := HC.out; rw [madeL_drop _ q _ HX.out] at h1; rw [List.append_assoc]; exact h1, HB6.out⟩
    case measure => simp [intOf]; omega
   ·obtain rfl : q = k := by omega
    have hl1 : l = HD1 := by have h1 := HC.out; rw [List.drop_eq_nil_of_le (by have := HKL.out; omega)] at h1; rw [← h1]; show l = l ++ []; rw [List.append_nil]
    subst hl1
    have k1 : decide ((q : Int) < (q : Int)) = false := by rw [decide_eq_false_iff_not]; omega
    clear HC hll
    go_wp2_with fail
    refine (refnum_any (P + 1) b l n wr (.inl HROW.out) hsz (by omega) (by omega)).mono ?_
    rintro e6 w6 ⟨u6, rfl, hr6, hg6⟩
    have HB6 := Lib.hid (HBL.out.trans (hg6.below HROW.out hsz))
    have HR6 := Lib.hid hr6
    clear hr6 hg6 x0 x2 hbV
    obtain ⟨x0, x2, _, _⟩ := HK.out w6 HB6.out
    go_wp2_with fail
    go_loopw [5, 7] (fun u i wr => ∃ (q : Nat) (b : Value) (l : List UInt8), b = u ∧ i = .int .i64 q ∧ q ≤ n ∧ ByAt (P + 1) wr b l ∧ l ++ inosL ((bareV s).inos.drop q) = HD2 ∧ Below (P + 1) V wr) (fun _ i _ => n - (intOf i).toNat)
    case atStart => exact ⟨0, _, l ++ numL n, rfl, rfl, by omega, HR6.out, HHD2.out, HB6.out⟩
    case round =>
     clear HROW HBL hlt hq k1 HR6 HB6
     obtain ⟨q, b, l, rfl, rfl, hq, hrow, hc, hbel⟩ := hrel
     have HROW := Lib.hid hrow
     have HC := Lib.hid hc
     have HBL := Lib.hid hbel
     have hll : l.length ≤ HD2.length := by rw [← hc, List.length_append]; omega
     clear hrow hc hbel x0 x2
     obtain ⟨x0, x2, hbV, hsz⟩ := HK.out wr HBL.out
     by_cases hlt : q < n
     ·obtain ⟨g', off, x, E3, m3, d3, rfl, hg', hx, hdr, hmem, c0', c1', c2', hmd, hE, c3'⟩ := HI.out.get q hlt
      have hio := HOK.out.ino HBE.out x hmem
      have hda := HOK.out.data x hmem
      obtain ⟨N, hN⟩ := Int.eq_ofNat_of_zero_le hio.num.1
      have hN2 : N ≤ 1099511627776 := by have := hio.num.2; omega
      rw [hN] at c0'
      have c0 := (hbV.cell (p := ⟨g', off + q * 4, none⟩) hg').trans c0'
      have c1 := (hbV.cell (p := ⟨g', off + q * 4 + 1, none⟩) hg').trans c1'
      have c2 := (hbV.cell (p := ⟨g', off + q * 4 + 2, none⟩) hg').trans c2'
      have c3 := (hbV.cell (p := ⟨g', off + q * 4 + 3, none⟩) hg').trans c3'
      have k0 : (0 : Int) ≤ (q : Int) := by omega
      have k1 : (q : Int) < (n : Int) := by omega
      have hcT : l ++ inodeL x ++ inosL ((bareV s).inos.drop (q + 1)) = HD2 := by have h1 := HC.out; rw [inosL_drop _ q _ hx] at h1; rw [List.append_assoc]; exact h1
      have hlT : (l ++ inodeL x).length ≤ HD2.length := by rw [← hcT]; simp only [List.length_append]; omega
      obtain ⟨DX, hDX⟩ : ∃ DX, x.dir = DX := ⟨_, rfl⟩
      have hiL : inodeL x = numL N ++ numL (if DX then 1 else 0) ++ (if DX then numL x.ents.length ++ entsL x.ents else textL x.data) := by unfold inodeL; rw [hDX, hN]; rfl
      rw [hDX] at c1
      rw [hiL] at hcT hlT
      have hel := hE.1
      rw [hel] at hcT hlT
      obtain ⟨X, hX⟩ : ∃ X, wr.heap.size = X := ⟨_, rfl⟩
      obtain ⟨V2, hV2, v0, v1, v2, v3, hal4, hlt4⟩ := box_ino wr (N : Int) DX E3 m3 d3 x.data
      have hNb : V2.heap[X]? = some (.cells #[.int .i64 (N : Int), .bool DX, .slice E3 m3 d3, .string x.data] 42 (0, 0)) := by rw [← hV2, ← hX]; exact heap_alloc_new wr _
      have hrow2 := HROW.out.go hal4
      have hne : some X ≠ rowBlk b := by rw [← hX]; exact HROW.out.old
      have HBL2 := Lib.hid (HBL.out.trans (hal4.mono hsz))
      have hsz2 : P + 1 ≤ V2.heap.size := Nat.le_trans hsz hal4.size
      rw [hX] at v0 v1 v2 v3 hlt4
      have HE := Lib.hid hE
      have HDA := Lib.hid hda
      have HIO := Lib.hid hio
      have HCT := Lib.hid hcT
      have HROW2 := Lib.hid hrow2
      have hm3 : m3 ≤ 1099511627776 := by have := hio.ents.1; omega
      clear hx hdr hmem c0' c1' c2' c3' hmd hE hio hda hcT hiL hDX hN hrow2 hal4 HC hll hbV hel
      simp only [List.length_append] at hlT
      go_wp2_with fail
      refine (refnum_any (P + 1) b l N V2 (.inl HROW2.out) hsz2 hN2 (by omega)).mono ?_
      rintro e7 w7 ⟨u7, rfl, hr7, hg7⟩
      have HB7 := Lib.hid (HBL2.out.trans (hg7.below HROW2.out hsz2))
      have hX7 := (hg7.stays hlt4 hne).trans hNb
      have hne7 := hg7.apart hlt4 hne
      have hs7 : P + 1 ≤ w7.heap.size := Nat.le_trans hsz2 hg7.grown.size
      have hl7 : X < w7.heap.size := Nat.lt_of_lt_of_le hlt4 hg7.grown.size
      have HR7 := Lib.hid hr7
      clear hr7 hg7 v0 v1 v2 v3 c0 c1 c2 c3 x0 x2
      have v1 : w7.cell? ⟨X, 1, none⟩ = some (.bool DX) := by rw [cell_of_row w7 X _ _ _ (0, 0) hX7]; rfl
      cases DX
      ·simp only [Bool.false_eq_true, if_false] at hlT
       go_wp2_with fail
       refine (refnum_any (P + 1) u7 (l ++ numL N) 0 w7 (.inl HR7.out) hs7 (by omega) (by rw [List.length_append]; omega)).mono ?_
       rintro e8 w8 ⟨u8, rfl, hr8, hg8⟩
       have HB8 := Lib.hid (HB7.out.trans (hg8.below HR7.out hs7))
       have hX8 := (hg8.stays hl7 hne7).trans hX7
       have hs8 : P + 1 ≤ w8.heap.size := Nat.le_trans hs7 hg8.grown.size
       have HR8 := Lib.hid hr8
       have v3 : w8.cell? ⟨X, 3, none⟩ = some (.string x.data) := by rw [cell_of_row w8 X _ _ _ (0, 0) hX8]; rfl
       have hds := textL_ge x.data
       clear hr8 hg8 v1
       go_wp2_with fail
       refine (reftext_any (P + 1) u8 (l ++ numL N ++ numL 0) x.data w8 HR8.out hs8 (by have := HDA.out.1; omega) (by rw [List.length_append, List.length_append]; omega)).mono ?_
       rintro e9 w9 ⟨u9, rfl, hr9, hg9⟩
       have HB9 := Lib.hid (HB8.out.trans (hg9.below HR8.out hs8))
       have HR9 := Lib.hid hr9
       clear hr9 hg9
       go_wp2_with fail
       go_roundw
       case rel => exact ⟨q + 1, _, l ++ numL N ++ numL 0 ++ textL x.data, rfl, by go_num, by omega, HR9.out, by have h1 := HCT.out; simpa [List.append_assoc] using h1, HB9.out⟩
       case measure => simp [intOf]; omega
      ·simp only [if_true, List.length_append] at hlT
       go_wp2_with fail
       refine (refnum_any (P + 1) u7 (l ++ numL N) 1 w7 (.inl HR7.out) hs7 (by omega) (by rw [List.length_append]; omega)).mono ?_
       rintro e8 w8 ⟨u8, rfl, hr8, hg8⟩
       have HB8 := Lib.hid (HB7.out.trans (hg8.below HR7.out hs7))
       have hX8 := (hg8.stays hl7 hne7).trans hX7
       have hne8 := hg8.apart hl7 hne7
       have hs8 : P + 1 ≤ w8.heap.size := Nat.le_trans hs7 hg8.grown.size
       have hl8 : X < w8.heap.size := Nat.lt_of_lt_of_le hl7 hg8.grown.size
       have HR8 := Lib.hid hr8
       have v2 : w8.cell? ⟨X, 2, none⟩ = some (.slice E3 m3 d3) := by rw [cell_of_row w8 X _ _ _ (0, 0) hX8]; rfl
       clear hr8 hg8 v1
       go_wp2_with fail
       refine (refnum_any (P + 1) u8 (l ++ numL N ++ numL 1) m3 w8 (.inl HR8.out) hs8 hm3 (by rw [List.length_append, List.length_append]; omega)).mono ?_
       rintro e9 w9 ⟨u9, rfl, hr9, hg9⟩
       have HB9 := Lib.hid (HB8.out.trans (hg9.below HR8.out hs8))
       have hX9 := (hg9.stays hl8 hne8).trans hX8
       have hne9 := hg9.apart hl8 hne8
       have HR9 := Lib.hid hr9
       clear v2
       have v2 : w9.cell? ⟨X, 2, none⟩ = some (.slice E3 m3 d3) := by rw [cell_of_row w9 X _ _ _ (0, 0) hX9]; rfl
       obtain ⟨L0, hL0⟩ : ∃ L0, l ++ numL N ++ numL 1 ++ numL m3 ++ entsL x.ents = L0 := ⟨_, rfl⟩
       have hL1 : L0.length ≤ HD2.length := by rw [← hL0]; simp only [List.length_append]; omega
       have hL2 : L0 ++ inosL ((bareV s).inos.drop (q + 1)) = HD2 := by have h1 := HCT.out; rw [← hL0]; simpa [List.append_assoc] using h1
       have HL0 := Lib.hid hL0
       have HL2 := Lib.hid hL2
       have HX9 := Lib.hid hX9
       have HN9 := Lib.hid hne9
       clear hr9 hg9 hX9 hne9 hX8 hne8 hX7 hne7 hNb hne hL0 hL2 HCT hlT
       go_wp2_with fail
       go_loopw [5, 9] (fun u i wr => ∃ (r : Nat) (b : Value) (l : List UInt8), b = u ∧ i = .int .i64 r ∧ r ≤ m3 ∧ ByAt (P + 1) wr b l ∧ l ++ entsL (x.ents.drop r) = L0 ∧ Below (P + 1) V wr ∧ wr.heap[X]? = some (.cells #[.int .i64 (N : Int), .bool true, .slice E3 m3 d3, .string x.data] 42 (0, 0)) ∧ some X ≠ rowBlk b) (fun _ i _ => m3 - (intOf i).toNat)
       case atStart => exact ⟨0, _, l ++ numL N ++ numL 1 ++ numL m3, rfl, rfl, by omega, HR9.out, HL0.out, HB9.out, HX9.out, HN9.out⟩
       case round =>
        clear HROW HBL HROW2 HBL2 HB7 HR7 HB8 HR8 HB9 HR9 HX9 HN9 v2 hs7 hs8 hl7 hl8 hsz hsz2 hlt4 k0 k1
        obtain ⟨r, b, l, rfl, rfl, hr, hrow, hc, hbel, hXr, hner⟩ := hrel
        have HROW := Lib.hid hrow
        have HC := Lib.hid hc
        have HBL := Lib.hid hbel
        have hll : l.length ≤ L0.length := by rw [← hc, List.length_append]; omega
        have hXl : X < wr.heap.size := (Array.getElem?_eq_some_iff.1 hXr).1
        have v2 : wr.cell? ⟨X, 2, none⟩ = some (.slice E3 m3 d3) := by rw [cell_of_row wr X _ _ _ (0, 0) hXr]; rfl
        clear hrow hc hbel
        obtain ⟨_, _, hbV, hsz⟩ := HK.out wr HBL.out
        have hq0 : q < n := hlt
        by_cases hlt : r < m3
        ·obtain ⟨g5, off5, y, rfl, hg5, hy, hdr, hmem, d0', d1'⟩ := HE.out.get r hlt
         have hye := HIO.out.ents.2 y hmem
         have hyn := HDA.out.2 y hmem
         obtain ⟨M, hM⟩ := Int.eq_ofNat_of_zero_le hye.1
         have hM2 : M ≤ 1099511627776 := by have := hye.2.1; omega
         rw [hM] at d1'
         have d0 := (hbV.cell (p := ⟨g5, off5 + r * 2, none⟩) hg5).trans d0'
         have k0 : (0 : Int) ≤ (r : Int) := by omega
         have k1 : (r : Int) < (m3 : Int) := by omega
         have hcT : l ++ textL y.name ++ numL M ++ entsL (x.ents.drop (r + 1)) = L0 := by have h1 := HC.out; rw [entsL_drop _ r _ hy] at h1; unfold entL at h1; rw [hM] at h1; simpa [List.append_assoc] using h1
         have hlT : (l ++ textL y.name ++ numL M).length ≤ L0.length := by rw [← hcT]; simp only [List.length_append]; omega
         simp only [List.length_append] at hlT
         have HCT := Lib.hid hcT
         have hge := textL_ge y.name
         clear hy hdr hmem d0' hye hM hcT HC hll hbV
         go_wp2_with fail
         refine (reftext_any (P + 1) b l y.name wr HROW.out hsz (by omega) (by omega)).mono ?_
         rintro e5 w5 ⟨u5, rfl, hr5, hg5'⟩
         have HB5 := Lib.hid (HBL.out.trans (hg5'.below HROW.out hsz))
         have hX5 := (hg5'.stays hXl hner).trans hXr
         have hne5 := hg5'.apart hXl hner
         have hl5 : X < w5.heap.size := Nat.lt_of_lt_of_le hXl hg5'.grown.size
         have HR5 := Lib.hid hr5
         clear v2 d0
         obtain ⟨_, _, hbV5, hsz5⟩ := HK.out w5 HB5.out
         have v2 : w5.cell? ⟨X, 2, none⟩ = some (.slice (some ⟨g5, off5, none⟩) m3 d3) := by rw [cell_of_row w5 X _ _ _ (0, 0) hX5]; rfl
         have d1 := (hbV5.cell (p := ⟨g5, off5 + r * 2 + 1, none⟩) hg5).trans d1'
         clear hr5 hg5' hXr hner d1' hbV5
         go_wp2_with fail
         refine (refnum_any (P + 1) u5 (l ++ textL y.name) M w5 (.inl HR5.out) hsz5 hM2 (by rw [List.length_append]; omega)).mono ?_
         rintro e6 w6 ⟨u6, rfl, hr6, hg6⟩
         have HB6 := Lib.hid (HB5.out.trans (hg6.below HR5.out hsz5))
         have HX6 := Lib.hid ((hg6.stays hl5 hne5).trans hX5)
         have HN6 := Lib.hid (hg6.apart hl5 hne5)
         have HR6 := Lib.hid hr6
         clear hr6 hg6 hX5 hne5 d1 v2
         go_wp2_with fail
         go_roundw
         case rel => exact ⟨r + 1, _, l ++ textL y.name ++ numL M, rfl, by go_num, by omega, HR6.out, HCT.out, HB6.out, HX6.out, HN6.out⟩
         case measure => simp [intOf]; omega
        ·obtain rfl : r = m3 := by omega
         have hl1 : l = L0 := by have h1 := HC.out; rw [List.drop_eq_nil_of_le (by have := HE.out.1; omega)] at h1; rw [← h1]; show l = l ++ []; rw [List.append_nil]
         subst hl1
         have k1 : decide ((r : Int) < (r : Int)) = false := by rw [decide_eq_false_iff_not]; omega
         clear HC hll hXr hner hbV
         go_wp2_with fail
         go_roundw
         case rel => exact ⟨q + 1, _, l, rfl, by go_num, by omega, HROW.out, HL2.out, HBL.out⟩
         case measure => simp [intOf]; omega
     ·obtain rfl : q = n := by omega
      have hl1 : l = HD2 := by have h1 := HC.out; rw [List.drop_eq_nil_of_le (by have := HNL.out; omega)] at h1; rw [← h1]; show l = l ++ []; rw [List.append_nil]
      subst hl1
      have k1 : decide ((q : Int) < (q : Int)) = false := by rw [decide_eq_false_iff_not]; omega
      obtain ⟨gb, cb, rfl, hbr⟩ := HROW.out.row
      have hcv := Cv.back_of hbr l.length cb rfl
      have hls : (⟨l.toArray⟩ : ByteArray).size ≤ 140737488355328 := by show l.toArray.size ≤ _; rw [List.size_toArray]; omega
      have HBW := Lib.hid (show Below w.heap.size w wr from Cv.next HBV.out hbV)
      clear HC hll hbr hbV
      go_wp2_with fail
      refine (seal_any ⟨l.toArray⟩ wr hls).mono ?_
      rintro e8 w8 ⟨rfl, hb8⟩
      have HB8 := Lib.hid (Cv.next HBW.out hb8)
      clear hb8
      go_wp2_with fail
      go_ret2
      exact ⟨rfl, HB8.out⟩
end Go.Proofs.YthhceopnnappgaaGreat
