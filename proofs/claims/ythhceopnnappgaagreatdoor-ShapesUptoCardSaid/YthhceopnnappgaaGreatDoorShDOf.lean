/- The document's Files. -/
import Derived.Test.YthhceopnnappgaaGreatDoorShDLines
import Derived.Test.YthhceopnnappgaaGreatDoorShOf
import Derived.Test.YthhceopnnappgaaGreatDoorFsMayDoc
import Derived.Test.YthhceopnnappgaaGreatDoorM02
set_option linter.unusedVariables false
set_option linter.unusedSimpArgs false
namespace Go.Proofs.YthhceopnnappgaaGreatDoor
open Go.RowKit
set_option maxRecDepth 100000 in
set_option maxHeartbeats 4000000 in
theorem dfiles_any (v : Value) (s : St) (w : World) (h : StAt none w v s) :
  Calls Tryz.prog 10 #[v] w fun e w' => e = .returned (.tuple #[.string (txt (filesO s)), .int .i64 (codeO s)]) ∧ Below w.heap.size w w' := by
 obtain ⟨A, n, c, B, m, d, D, k, e, rfl⟩ : ∃ A n c B m d D k e, v = .agg #[.slice A n c, .slice B m d, .slice D k e] := by
  obtain ⟨⟨A, n, c, B, m, d, D, k, e, hv, _⟩, _⟩ := h
  exact ⟨A, n, c, B, m, d, D, k, e, hv⟩
 obtain ⟨W, hW, b0, b1, b2, hal, hlt0⟩ := box_st w A n c B m d D k e
 have HS := Lib.hid (h.below hal)
 have HAL := Lib.hid hal
 have HB0 := Lib.hid (And.intro b0 (And.intro b1 b2))
 clear h hal
 go_enter Tryz.func10, Tryz.ntmps10
 go_wp2_with fail
 refine (may_doc _ s _ HS.out).mono ?_
 rintro e5 w5 ⟨rfl, hb5⟩
 have y0 := (hb5.cell (p := ⟨w.heap.size, 0, none⟩) hlt0).trans HB0.out.1
 have y1 := (hb5.cell (p := ⟨w.heap.size, 1, none⟩) hlt0).trans HB0.out.2.1
 have y2 := (hb5.cell (p := ⟨w.heap.size, 2, none⟩) hlt0).trans HB0.out.2.2
 have HB5 := Lib.hid hb5
 clear hb5 b0 b1 b2
 by_cases hm : mayV s = true
 ·have hG := (good_iff s).1 hm
  rw [hm]
  have hfo : filesO s = filesL s := by unfold filesO; rw [if_pos hm]
  have hco : codeO s = 0 := by unfold codeO; rw [if_pos hm]
  have HFO := Lib.hid hfo
  have HCO := Lib.hid hco
  have hl : Calls Tryz.prog 35 #[.agg #[.slice A n c, .slice B m d, .slice D k e], .int .i64 1, .string ⟨#[47]⟩] w5 fun e w' => e = .returned (.string (txt (filesL s))) ∧ Below w5.heap.size w5 w' :=
   dlines_any s hG (topD s) 1 [] ⟨#[47]⟩ _ w5 (HS.out.below HB5.out) hG.top rfl (by simp) hG.files_len
  have HL := Lib.hid hl
  clear hm hG hfo hco hl
  go_wp2_with fail
  refine HL.out.mono ?_
  rintro e6 w6 ⟨rfl, hb6⟩
  have HB6 := Lib.hid ((Cv.next HAL.out HB5.out).trans (hb6.mono (Cv.next HAL.out HB5.out).size))
  clear hb6
  go_wp2_with fail
  go_ret2
  exact ⟨by rw [HFO.out, HCO.out]; rfl, HB6.out⟩
 ·have hm' : mayV s = false := by simpa using hm
  rw [hm']
  have hfo : filesO s = [] := by unfold filesO; rw [hm']; rfl
  have hco : codeO s = 1400 := by unfold codeO; rw [hm']; rfl
  have HFO := Lib.hid hfo
  have HCO := Lib.hid hco
  clear hm hm' hfo hco
  go_wp2_with fail
  go_ret2
  exact ⟨by rw [HFO.out, HCO.out]; rfl, Cv.next HAL.out HB5.out⟩
set_option maxRecDepth 100000 in
set_option maxHeartbeats 8000000 in
theorem dof_any (v : Value) (s : St) (w : World) (h : StAt none w v s) :
  Calls Tryz.prog 8 #[v] w fun e w' => e = .returned (.tuple #[.string (txt (ofO s)), .int .i64 (codeO s)]) ∧ Below w.heap.size w w' := by
 obtain ⟨A, n, c, B, m, d, D, k, e, rfl⟩ : ∃ A n c B m d D k e, v = .agg #[.slice A n c, .slice B m d, .slice D k e] := by
  obtain ⟨⟨A, n, c, B, m, d, D, k, e, hv, _⟩, _⟩ := h
  exact ⟨A, n, c, B, m, d, D, k, e, hv⟩
 obtain ⟨W, hW, b0, b1, b2, hal, hlt0⟩ := box_st w A n c B m d D k e
 have HS := Lib.hid (h.below hal)
 have HAL := Lib.hid hal
 obtain ⟨FO, hFO⟩ : ∃ FO, txt (filesO s) = FO := ⟨_, rfl⟩
 obtain ⟨CO, hCO⟩ : ∃ CO, codeO s = CO := ⟨_, rfl⟩
 have hfiles := dfiles_any _ s W (h.below hal)
 rw [hFO, hCO] at hfiles
 have HF := Lib.hid hfiles
 have HFO := Lib.hid hFO
 have HCO := Lib.hid hCO
 have HBX := Lib.hid (And.intro b0 (And.intro b1 b2))
 clear h hal hfiles hFO hCO
 go_enter Tryz.func8, Tryz.ntmps8
 go_wp2_with fail
 refine HF.out.mono ?_
 rintro e5 w5 ⟨rfl, hb5⟩
 have HB5 := Lib.hid hb5
 have HB05 := Lib.hid (Cv.next HAL.out hb5)
 have HLT : w.heap.size < w5.heap.size := Nat.lt_of_lt_of_le hlt0 hb5.size
 have d0 := (hb5.cell (p := ⟨w.heap.size, 0, none⟩) hlt0).trans HBX.out.1
 have d1 := (hb5.cell (p := ⟨w.heap.size, 1, none⟩) hlt0).trans HBX.out.2.1
 have d2 := (hb5.cell (p := ⟨w.heap.size, 2, none⟩) hlt0).trans HBX.out.2.2
 clear hb5 b0 b1 b2
 by_cases hm : mayV s = true
 rotate_left
 ·have hm' : mayV s = false := by simpa using hm
  have hco : CO = 1400 := by rw [← HCO.out]; unfold codeO; rw [hm']; rfl
  subst hco
  have hof : ofO s = [] := by unfold ofO; rw [hm']; rfl
  have HOF := Lib.hid hof
  clear hm hm' hof
  go_wp2_with fail
  go_ret2
  exact ⟨by rw [HOF.out, HCO.out]; rfl, HB05.out⟩
 ·have hG := (good_iff s).1 hm
  have hco : CO = 0 := by rw [← HCO.out]; unfold codeO; rw [hm]; rfl
  subst hco
  have hof : ofO s = ofL s := by unfold ofO; rw [if_pos hm]
  have hfo : filesO s = filesL s := by unfold filesO; rw [if_pos hm]
  have HOF := Lib.hid hof
  have hfl : FO.data.toList = filesL s := by rw [← HFO.out, hfo, txt_listSh]
  have HFL := Lib.hid hfl
  have HG := Lib.hid hG
  have hS5 := HS.out.below HB5.out
  obtain ⟨hI, hD, hM⟩ : InosAt none w5 A n s.inos ∧ DescsAt none w5 B m s.opn ∧ IntsAt none w5 D k s.made := by
   obtain ⟨⟨A', n', c', B', m', d', D', k', e', hv, h1, h2, h3, _⟩, _⟩ := hS5
   cases hv
   exact ⟨h1, h2, h3⟩
  have hn : n ≤ 1000 := by have := hI.1; have := hG.len; omega
  have hmm : m ≤ 1000 := by have := hD.1; have := hG.opn_len; omega
  have hk : k ≤ 1000 := by have := hM.1; have := hG.m8; omega
  have HI := Lib.hid hI
  have HD := Lib.hid hD
  have HM := Lib.hid hM
  have HS5 := Lib.hid hS5
  have hfln := hG.files_len
  have HFLN := Lib.hid hfln
  clear hm hG hof hfo hfl hS5 hI hD hM hfln
  go_wp2_with fail
  go_loopw [4, 6] (fun o v wr => ∃ (q : Nat) (O : ByteArray), v = .int .i64 q ∧ o = .string O ∧ q ≤ n ∧ O.data.toList = filesL s ++ (s.inos.take q).flatMap (fU s) ∧ Below w5.heap.size w5 wr) (fun _ v _ => n - (intOf v).toNat)
  case atStart => exact ⟨0, FO, rfl, rfl, by omega, by rw [List.take_zero, List.flatMap_nil, List.append_nil]; exact HFL.out, Below.refl _ _⟩
  case round =>
   obtain ⟨q, O, rfl, rfl, hq, hO, hbr⟩ := hrel
   have HO := Lib.hid hO
   have HBR := Lib.hid hbr
   have hbl0 : w5.heap.size ≤ wr.heap.size := hbr.size
   have y0 := (hbr.cell (p := ⟨w.heap.size, 0, none⟩) HLT).trans d0
   have y1 := (hbr.cell (p := ⟨w.heap.size, 1, none⟩) HLT).trans d1
   have y2 := (hbr.cell (p := ⟨w.heap.size, 2, none⟩) HLT).trans d2
   by_cases hlt : q < n
   ·have hIr := HI.out.below hbr
    obtain ⟨g, off, x, E, mx, dx, rfl, hg, hx, hd, hmem, c0, c1, c2, hok, hE, c3⟩ := hIr.get q hlt
    obtain ⟨V2, hV2, v0, v1, v2, v3, hal4, hlt4⟩ := box_ino wr x.num x.dir E mx dx x.data
    have hVr : Below w5.heap.size w5 V2 := hbr.trans (hal4.mono hbr.size)
    have hxm := HG.out.num_mem hmem
    have hxd := HG.out.data_mem hmem
    have htk := flat_takeSh (fU s) s.inos q x hx
    have z0 := (hVr.cell (p := ⟨w.heap.size, 0, none⟩) HLT).trans d0
    have z1 := (hVr.cell (p := ⟨w.heap.size, 1, none⟩) HLT).trans d1
    have z2 := (hVr.cell (p := ⟨w.heap.size, 2, none⟩) HLT).trans d2
    have HVR := Lib.hid hVr
    have HTK := Lib.hid htk
    have hlenq := take_le (fU s) s.inos q 1000 (fun a ha => HG.out.fU_len ha) (by have := HG.out.len; omega)
    have hos : O.size ≤ 17180469184 := by
     have h2 : O.data.toList.length = O.size := Array.length_toList
     have h3 := HFLN.out
     rw [hO, List.length_append] at h2
     omega
    have k0 : (0 : Int) ≤ (q : Int) := by omega
    have hH5 : w.heap.size < V2.heap.size := Nat.lt_of_lt_of_le HLT hVr.size
    clear hIr hx hd hmem hok hE hal4 hVr htk hlenq hbr hO
    cases hdir : x.dir
    ·rw [hdir] at c1 v1 hV2
     obtain ⟨LK, hLK⟩ : ∃ LK : Nat, linkI s.inos x.num = LK := ⟨_, rfl⟩
     have hlinks := links_any _ s x.num V2 (HS5.out.below HVR.out)
     rw [hLK] at hlinks
     obtain ⟨DN, hDN⟩ : ∃ DN, txt (decN x.num) = DN := ⟨_, rfl⟩
     obtain ⟨HX, hHX⟩ : ∃ HX, txt (hexT x.data.data.toList) = HX := ⟨_, rfl⟩
     have hdl : DN.data.toList = decN x.num := by rw [← hDN, txt_listSh]
     have hxl : HX.data.toList = hexT x.data.data.toList := by rw [← hHX, txt_listSh]
     have hdns : DN.size ≤ 3 := by
      have h1 : DN.data.toList.length = DN.size := Array.length_toList
      have h2 : (decN x.num).length ≤ 3 := decN_len (by omega)
      rw [hdl] at h1
      omega
     have hhxs : HX.size ≤ 600 := by
      have h1 : HX.data.toList.length = HX.size := Array.length_toList
      have h5 := hexT_len x.data.data.toList
      have h6 : x.data.data.toList.length = x.data.size := Array.length_toList
      rw [hxl] at h1
      omega
     have hit : ∀ W, Calls Tryz.prog 31 #[.int .i64 x.num] W fun e w' => e = .returned (.string DN) ∧ Below W.heap.size W w' := fun W => by
      rw [← hDN]
      exact ddec_any x.num (by omega) (by omega) W
     have hhx : ∀ W, Calls Tryz.prog 32 #[.string x.data] W fun e w' => e = .returned (.string HX) ∧ Below W.heap.size W w' := fun W => by
      rw [← hHX]
      exact dhex_any x.data W (by omega)
     have hO2 : LK = 0 → (((((O ++ ⟨#[117, 32]⟩) ++ DN) ++ ⟨#[32]⟩) ++ HX) ++ ⟨#[10]⟩).data.toList = filesL s ++ (s.inos.take (q + 1)).flatMap (fU s) := fun h0 => by
      have hfu : fU s x = lineU x := by
       unfold fU
       rw [hdir, hLK, h0]
       rfl
      rw [HTK.out, hfu, ← List.append_assoc, ← HO.out]
      unfold lineU
      simp [hdl, hxl]
     have f1 : ¬ 9223372036854775807 < O.size + 2 := by omega
     have f2 : ¬ 9223372036854775807 < O.size + 2 + DN.size := by omega
     have f3 : ¬ 9223372036854775807 < O.size + 2 + DN.size + 1 := by omega
     have f4 : ¬ 9223372036854775807 < O.size + 2 + DN.size + 1 + HX.size := by omega
     have f5 : ¬ 9223372036854775807 < O.size + 2 + DN.size + 1 + HX.size + 1 := by omega
     have HLINKS := Lib.hid hlinks
     have HLK := Lib.hid hLK
     have HDIR := Lib.hid hdir
     have HIT := Lib.hid hit
     have HHX := Lib.hid hhx
     have HO2 := Lib.hid hO2
     have HV0 := Lib.hid (And.intro v0 v3)
     clear hlinks hLK hdir hit hhx hO2 hDN hHX hdl hxl
     go_wp2_with fail
     refine HLINKS.out.mono ?_
     rintro e6 w6 ⟨rfl, hb6⟩
     have u0 := (hb6.cell (p := ⟨wr.heap.size, 0, none⟩) hlt4).trans HV0.out.1
     have u3 := (hb6.cell (p := ⟨wr.heap.size, 3, none⟩) hlt4).trans HV0.out.2
     have HB6 := Lib.hid (HVR.out.trans (hb6.mono HVR.out.size))
     clear hb6 v0 v1 v2 v3 z0 z1 z2 y0 y1 y2 c0 c1 c2 c3
     by_cases hz : LK = 0
     ·have HZ := Lib.hid hz
      subst hz
      go_wp2_with fail
      go_region_held3 (fun w' => w'.cell? ⟨wr.heap.size, 0, none⟩ = some (.int .i64 x.num) ∧ w'.cell? ⟨wr.heap.size, 3, none⟩ = some (.string x.data))
       (first
        | go_keep
        | (go_split_ands; refine ⟨?_, ?_⟩ <;> exact cell_later hb7 (by assumption))
        | (go_split_ands; refine ⟨?_, ?_⟩ <;> exact cell_later hb8 (by assumption))
        | (go_split_ands; refine ⟨?_, ?_⟩ <;> go_keep))
       (first
        | (go_at_call 31; refine (HIT.out _).mono ?_; rintro e7 w7 ⟨rfl, hb7⟩)
        | (go_at_call 32; refine (HHX.out w7).mono ?_; rintro e8 w8 ⟨rfl, hb8⟩))
      have hb9 : Below w6.heap.size w6 w8 := ((Below.drew (Below.refl w6.heap.size w6)).trans hb7).trans (hb8.mono hb7.size)
      have HB8 := Lib.hid (HB6.out.trans (hb9.mono HB6.out.size))
      clear hb7 hb8 hb9 u0 u3
      go_wp2_with fail
      go_roundw
      case rel => exact ⟨q + 1, _, by go_num, rfl, by omega, HO2.out (by first | trivial | rfl), HB8.out⟩
      case measure => simp [intOf]; omega
     ·have hq0 : ((LK : Int) == 0) = false := by rw [beq_eq_false_iff_ne]; omega
      have hfu : O.data.toList = filesL s ++ (s.inos.take (q + 1)).flatMap (fU s) := by
       have : fU s x = [] := by
        unfold fU
        rw [HDIR.out, HLK.out, decide_eq_false hz]
        rfl
       rw [HTK.out, this, List.append_nil]
       exact HO.out
      have HFU := Lib.hid hfu
      clear hfu hz
      go_wp2_with fail
      go_roundw
      case rel => exact ⟨q + 1, O, by go_num, rfl, by omega, HFU.out, HB6.out⟩
      case measure => simp [intOf]; omega
    ·rw [hdir] at c1 v1 hV2
     have hfu : O.data.toList = filesL s ++ (s.inos.take (q + 1)).flatMap (fU s) := by
      have : fU s x = [] := by
       unfold fU
       rw [hdir]
       rfl
      rw [HTK.out, this, List.append_nil]
      exact HO.out
     have HFU := Lib.hid hfu
     clear hfu hdir
     go_wp2_with fail
     go_roundw
     case rel => exact ⟨q + 1, O, by go_num, rfl, by omega, HFU.out, HVR.out⟩
     case measure => simp [intOf]; omega
   ·have hall : s.inos.take q = s.inos := List.take_of_length_le (by have := HI.out.1; omega)
    have hulen := take_le (fU s) s.inos s.inos.length 257 (fun a ha => HG.out.fU_len ha) HG.out.len
    rw [List.take_length] at hulen
    obtain ⟨UL, hUL⟩ : ∃ UL, s.inos.flatMap (fU s) = UL := ⟨_, rfl⟩
    rw [hall, hUL] at hO
    rw [hUL] at hulen
    have HO1 := Lib.hid hO
    have HULN := Lib.hid hulen
    have HUL := Lib.hid hUL
    clear hall hO hulen hUL hbr
    go_wp2_with fail
    go_loopw [4, 8] (fun o v wr => ∃ (q : Nat) (O : ByteArray), v = .int .i64 q ∧ o = .string O ∧ q ≤ m ∧ O.data.toList = filesL s ++ UL ++ (s.opn.take q).flatMap lineO ∧ Below w5.heap.size w5 wr) (fun _ v _ => m - (intOf v).toNat)
    case atStart => exact ⟨0, O, rfl, rfl, by omega, by rw [List.take_zero, List.flatMap_nil, List.append_nil]; exact HO1.out, HBR.out⟩
    case round =>
     obtain ⟨j, O, rfl, rfl, hj, hO, hbr⟩ := hrel
     have HO := Lib.hid hO
     have HBR := Lib.hid hbr
     have y1 := (hbr.cell (p := ⟨w.heap.size, 1, none⟩) HLT).trans d1
     have y2 := (hbr.cell (p := ⟨w.heap.size, 2, none⟩) HLT).trans d2
     by_cases hlt2 : j < m
     ·have hDr := HD.out.below hbr
      obtain ⟨g2, off2, y, rfl, hg2, hy, hd, hmem, c0, c1, c2⟩ := hDr.get j hlt2
      obtain ⟨yc, yf, yn⟩ := y
      dsimp only at c0 c1 c2
      obtain ⟨V2, hV2, v0, v1, v2, hal4, hlt4⟩ := box_ds wr yc yf yn
      have hVr : Below w5.heap.size w5 V2 := hbr.trans (hal4.mono hbr.size)
      have hdm := HG.out.desc_mem hmem
      dsimp only at hdm
      have htk := flat_takeSh lineO s.opn j ⟨yc, yf, yn⟩ hy
      have hlenq := take_le lineO s.opn j 32 (fun a ha => HG.out.fO_len ha) HG.out.opn_len
      have hos : O.size ≤ 17181069184 := by
       have h2 : O.data.toList.length = O.size := Array.length_toList
       have h3 := HFLN.out
       have h4 := HULN.out
       rw [hO, List.length_append, List.length_append] at h2
       omega
      have small : ∀ z : Int, z < 1000 → (txt (decN z)).size ≤ 3 := fun z hz => by
       have h1 : (txt (decN z)).data.toList.length = (txt (decN z)).size := Array.length_toList
       have h2 : (decN z).length ≤ 3 := decN_len hz
       rw [txt_listSh] at h1
       omega
      have sc := small yc (by omega)
      have sf := small yf (by omega)
      have sm := small yn (by omega)
      have hdec : ∀ (z : Int) (W : World), 0 ≤ z → z < 1000 → Calls Tryz.prog 31 #[.int .i64 z] W fun e w' => e = .returned (.string (txt (decN z))) ∧ Below W.heap.size W w' := fun z W h0 h1 => ddec_any z h0 h1 W
      have hO2 : (((((((O ++ ⟨#[111, 32]⟩) ++ txt (decN yc)) ++ ⟨#[32]⟩) ++ txt (decN yf)) ++ ⟨#[32]⟩) ++ txt (decN yn)) ++ ⟨#[10]⟩).data.toList = filesL s ++ UL ++ (s.opn.take (j + 1)).flatMap lineO := by
       rw [htk, ← List.append_assoc, ← hO]
       unfold lineO
       simp [txt_listSh]
      have f1 : ¬ 9223372036854775807 < O.size + 2 := by omega
      have f2 : ¬ 9223372036854775807 < O.size + 2 + (txt (decN yc)).size := by omega
      have f3 : ¬ 9223372036854775807 < O.size + 2 + (txt (decN yc)).size + 1 := by omega
      have f4 : ¬ 9223372036854775807 < O.size + 2 + (txt (decN yc)).size + 1 + (txt (decN yf)).size := by omega
      have f5 : ¬ 9223372036854775807 < O.size + 2 + (txt (decN yc)).size + 1 + (txt (decN yf)).size + 1 := by omega
      have f6 : ¬ 9223372036854775807 < O.size + 2 + (txt (decN yc)).size + 1 + (txt (decN yf)).size + 1 + (txt (decN yn)).size := by omega
      have f7 : ¬ 9223372036854775807 < O.size + 2 + (txt (decN yc)).size + 1 + (txt (decN yf)).size + 1 + (txt (decN yn)).size + 1 := by omega
      have HVR := Lib.hid hVr
      have HDEC := Lib.hid hdec
      have HO2 := Lib.hid hO2
      have k0 : (0 : Int) ≤ (j : Int) := by omega
      have hacc : Below V2.heap.size V2 V2.drew := Below.drew (Below.refl _ _)
      clear hDr hy hd hmem hal4 hVr htk hlenq hbr hdec hO2 hO y2 small
      go_wp2_with fail
      go_region_held3 (fun w' => w'.cell? ⟨wr.heap.size, 0, none⟩ = some (.int .i64 yc) ∧ w'.cell? ⟨wr.heap.size, 1, none⟩ = some (.int .i64 yf) ∧ w'.cell? ⟨wr.heap.size, 2, none⟩ = some (.int .i64 yn))
       (first
        | go_keep
        | (go_split_ands; refine ⟨?_, ?_, ?_⟩ <;> exact cell_later hb7 (by assumption))
        | (go_split_ands; refine ⟨?_, ?_, ?_⟩ <;> go_keep))
       ((go_at_call 31; refine (HDEC.out _ _ (by omega) (by omega)).mono ?_; rintro e7 w7 ⟨rfl, hb7⟩; replace hacc := hacc.trans (hb7.mono hacc.size)))
      have HB9 := Lib.hid (HVR.out.trans (hacc.mono HVR.out.size))
      clear hacc hb7 v0 v1 v2
      go_wp2_with fail
      go_roundw
      case rel => exact ⟨j + 1, _, by go_num, rfl, by omega, HO2.out, HB9.out⟩
      case measure => simp [intOf]; omega
     ·have hall : s.opn.take j = s.opn := List.take_of_length_le (by have := HD.out.1; omega)
      have holen := take_le lineO s.opn s.opn.length 32 (fun a ha => HG.out.fO_len ha) HG.out.opn_len
      rw [List.take_length] at holen
      obtain ⟨OL, hOL⟩ : ∃ OL, s.opn.flatMap lineO = OL := ⟨_, rfl⟩
      rw [hall, hOL] at hO
      rw [hOL] at holen
      have hO1 : (O ++ ⟨#[109]⟩).data.toList = (filesL s ++ UL ++ OL ++ [109]) ++ madeSh (s.made.take 0) := by
       rw [List.take_zero]
       simp [hO, madeSh]
      have hos : O.size ≤ 17181069184 := by
       have h2 : O.data.toList.length = O.size := Array.length_toList
       have h3 := HFLN.out
       have h4 := HULN.out
       rw [hO, List.length_append, List.length_append] at h2
       omega
      have f0 : ¬ 9223372036854775807 < O.size + 1 := by omega
      have HO1 := Lib.hid hO1
      have HOLN := Lib.hid holen
      have HOL := Lib.hid hOL
      clear hall hO holen hOL hO1 hbr
      go_wp2_with fail
      go_loopw [4, 10] (fun o v wr => ∃ (q : Nat) (O : ByteArray), v = .int .i64 q ∧ o = .string O ∧ q ≤ k ∧ O.data.toList = (filesL s ++ UL ++ OL ++ [109]) ++ madeSh (s.made.take q) ∧ Below w5.heap.size w5 wr) (fun _ v _ => k - (intOf v).toNat)
      case atStart => exact ⟨0, _, rfl, rfl, by omega, HO1.out, HBR.out⟩
      case round =>
       obtain ⟨i, O, rfl, rfl, hi, hO, hbr⟩ := hrel
       have HO := Lib.hid hO
       have HBR := Lib.hid hbr
       have y2 := (hbr.cell (p := ⟨w.heap.size, 2, none⟩) HLT).trans d2
       have hmq := take_le (fun m : Int => (32 : UInt8) :: decN m) s.made i 8 (fun a ha => HG.out.fM_len ha) HG.out.m8
       have hmq2 : (madeSh (s.made.take i)).length ≤ 8 * 600 := hmq
       have hos : O.size ≤ 17182069184 := by
        have h2 : O.data.toList.length = O.size := Array.length_toList
        have h3 := HFLN.out
        have h4 := HULN.out
        have h5 := HOLN.out
        rw [hO] at h2
        simp only [List.length_append, List.length_cons, List.length_nil] at h2
        omega
       by_cases hlt3 : i < k
       ·have hMr := HM.out.below hbr
        obtain ⟨g3, off3, rfl, hg3, hcm⟩ := hMr.2 (by omega)
        have hjl : i < s.made.length := by have := hMr.1; omega
        obtain ⟨z, hz⟩ : ∃ z, s.made[i] = z := ⟨_, rfl⟩
        have hz2 : s.made[i]? = some z := by rw [List.getElem?_eq_getElem hjl, hz]
        have cz := hcm.2 i z hz2
        have hzr := HG.out.mr z (List.mem_of_getElem? hz2)
        have htk : madeSh (s.made.take (i + 1)) = madeSh (s.made.take i) ++ 32 :: decN z := flat_takeSh (fun m : Int => (32 : UInt8) :: decN m) s.made i z hz2
        have hds : (txt (decN z)).size ≤ 3 := by
         have h1 : (txt (decN z)).data.toList.length = (txt (decN z)).size := Array.length_toList
         have h2 : (decN z).length ≤ 3 := decN_len (by omega)
         rw [txt_listSh] at h1
         omega
        have hO2 : ((O ++ ⟨#[32]⟩) ++ txt (decN z)).data.toList = (filesL s ++ UL ++ OL ++ [109]) ++ madeSh (s.made.take (i + 1)) := by
         rw [htk, ← List.append_assoc, ← hO]
         simp [txt_listSh]
        have hdec : ∀ (W : World), Calls Tryz.prog 31 #[.int .i64 z] W fun e w' => e = .returned (.string (txt (decN z))) ∧ Below W.heap.size W w' := fun W => ddec_any z (by omega) (by omega) W
        have HDEC := Lib.hid hdec
        have HO2 := Lib.hid hO2
        have f1 : ¬ 9223372036854775807 < O.size + 1 := by omega
        have f2 : ¬ 9223372036854775807 < O.size + 1 + (txt (decN z)).size := by omega
        have k0 : (0 : Int) ≤ (i : Int) := by omega
        clear hMr hcm hz hz2 hzr htk hO2 hdec hbr hjl hO hmq hmq2
        go_wp2_with fail
        refine (HDEC.out _).mono ?_
        rintro e7 w7 ⟨rfl, hb7⟩
        have HB7 := Lib.hid (HBR.out.trans (hb7.mono HBR.out.size))
        clear hb7
        go_wp2_with fail
        go_roundw
        case rel => exact ⟨i + 1, _, by go_num, rfl, by omega, HO2.out, HB7.out⟩
        case measure => simp [intOf]; omega
       ·have hall : s.made.take i = s.made := List.take_of_length_le (by have := HM.out.1; omega)
        rw [hall] at hO
        have hfin : O ++ ⟨#[10]⟩ = txt (ofL s) := by
         apply data_eq2
         rw [txt_listSh]
         unfold ofL restL opnL
         rw [HOL.out]
         have hu : unlL s s.inos = UL := HUL.out
         rw [hu]
         simp [hO]
        have HFIN := Lib.hid hfin
        have f1 : ¬ 9223372036854775807 < O.size + 1 := by omega
        clear hall hO hfin hmq hmq2 hbr
        go_wp2_with fail
        go_ret2
        exact ⟨by rw [HCO.out, HOF.out, ← HFIN.out]; rfl, HB05.out.trans (HBR.out.mono HB05.out.size)⟩
end Go.Proofs.YthhceopnnappgaaGreatDoor
