/- link of the document: by its contract (wip/gen_names.py). -/
import Derived.Test.YthhceopnnappgaaGreatDoorM13
import Derived.Test.YthhceopnnappgaaGreatDoorFsOpened
set_option linter.unusedVariables false
set_option linter.unusedSimpArgs false
namespace Go.Proofs.YthhceopnnappgaaGreatDoor
open Go.RowKit
set_option maxRecDepth 100000 in
set_option maxHeartbeats 16000000 in
theorem link_any (B p : Nat) (s : St) (c : Ca) (w : World) (h : Own B w p s) (hB : B ≤ w.heap.size) (hw : Whole s.inos) (hpz : c.path.size ≤ 140737488355328) (hpz2 : c.path2.size ≤ 140737488355328) (hns : (parentV s.inos c.path2).2.1.size ≤ 140737488355328)
  (hz : Sized (linkV s c).1) :
  Calls Tryz.prog 94 #[.pointer (some ⟨p, 0, .none⟩), caV c] w fun e w' => e = .returned (resV (linkV s c).2) ∧ Own B w' p (linkV s c).1 ∧ Below B w w' ∧ Aside p w w' := by
 obtain ⟨LV, hLV⟩ : ∃ LV, linkV s c = LV := ⟨_, rfl⟩
 obtain ⟨⟨N1, C1⟩, hFI⟩ : ∃ x, findV s.inos c.path = x := ⟨_, rfl⟩
 obtain ⟨⟨DR, NM, C2⟩, hPA⟩ : ∃ x, parentV s.inos c.path2 = x := ⟨_, rfl⟩
 have hat0 := findV_at hw c.path
 have hdr0 := parentV_dir s.inos c.path2
 rw [hLV] at hz ⊢
 unfold linkV at hLV
 rw [hFI] at hLV hat0
 rw [hPA] at hLV hns hdr0
 dsimp only at hLV hns hat0 hdr0
 obtain ⟨W, W2, hW, hW2, hsz1, hfr⟩ := Fr.start h hB c
 have HF := Lib.hid hfr
 clear h hfr
 obtain ⟨A, n, cp, E, m, d, D, k, e, hp, hcl, p0, p1, p2, pf, hst, hI, hn, c0, c1, c2, c3, c4, c5, c6, c7⟩ := HF.out.vals
 have HST := Lib.hid hst
 have HI := Lib.hid hI
 clear hst hI pf
 have HLV := Lib.hid hLV
 have HFI := Lib.hid hFI
 have HPA := Lib.hid hPA
 have HW := Lib.hid hw
 have HZ := Lib.hid hz
 have HAT0 := Lib.hid hat0
 have HDR0 := Lib.hid hdr0
 clear hLV hFI hPA hw hz hat0 hdr0
 unfold caV
 go_enter Tryz.func94, Tryz.ntmps94
 go_wp2_with fail
 clear hW hW2
 have hX := @Ext.cell W2
 refine wre ?_
 repeat (go_big_quiet_step (first | (go_at_call 89; rename_i X; exact Calls.ext_of (by have := find_any _ s c.path _ (HST.out.below X.bel) HW.out hpz; rw [HFI.out] at this; dsimp only at this; exact this))))
 refine wpQuiet_nil ?_
 rintro w7 ⟨X, rfl⟩
 generalize hZe : X.w = Z1
 have hZ2 := hZe ▸ X.bel
 have HF1 := Lib.hid (HF.out.below hZ2)
 clear hZe X hX hZ2
 clear p0 p1 p2 c0 c1 c2 c3 c4 c5 c6 c7
 obtain ⟨A1, n1, cp1, E1, m1, d1, D1, k1, e1, hp1, hcl1, p01, p11, p21, pf1, hst1, hI1, hn1, c01, c11, c21, c31, c41, c51, c61, c71⟩ := HF1.out.vals
 have HST1 := Lib.hid hst1
 have HI1 := Lib.hid hI1
 clear hst1 hI1 pf1
 by_cases hcd : C1 = 0
 rotate_left
 ·have q0 : (C1 == 0) = false := by rw [beq_eq_false_iff_ne]; exact hcd
  have q1 : (C1 != 0) = true := by rw [bne_iff_ne]; exact hcd
  have hr := HLV.out
  rw [if_pos hcd] at hr
  have HR9 := Lib.hid hr
  clear hr hcd
  go_wp2_with fail
  have hX := @Ext.cell Z1
  refine wre ?_
  repeat (go_big_quiet_step (fail))
  refine wpQuiet_nil ?_
  rintro w7 ⟨X, rfl⟩
  generalize hZe : X.w = Z2
  have hZ2 := hZe ▸ X.bel
  have HF2 := Lib.hid (HF1.out.below hZ2)
  clear hZe X hX hZ2
  clear p01 p11 p21 c01 c11 c21 c31 c41 c51 c61 c71
  go_wp2_with fail
  refine (fail_any C1 _).mono ?_
  rintro e10 w10 ⟨rfl, hb10⟩
  obtain ⟨g0, g1', g2', g3, g4, g5, gf, W9, hW9, HR5, HOF, HBF, HAS⟩ := HF2.out.fin hb10 (.int .i64 C1) (.int .i64 0) (.int .i64 0) (.bool false) (.string ⟨#[]⟩) (.slice none 0 0)
  clear hb10
  go_wp2_with fail
  (try simp only [Exit.inBlock, Exit.then])
  refine ret_res rfl HR5.out rfl rfl ?_
  exact ⟨by rw [← HR9.out]; rfl, by rw [← HR9.out]; exact HOF.out, HBF.out, HAS.out⟩
 ·subst hcd
  have hlv := HLV.out
  rw [if_neg (by decide)] at hlv
  obtain ⟨i, x, hat, hx, hxn⟩ := atV_some (HAT0.out rfl)
  have hda : dirAt s.inos N1 = x.dir := by unfold dirAt; rw [hat, inoAt_nat, hx]
  rw [hda] at hlv
  have hin : i < n1 := by have := (List.getElem?_eq_some_iff.1 hx).1; have := HI1.out.1; omega
  obtain ⟨g, og, x', E3, m3, d3, hA1, hg, hx', _, hmem, e0, e1, e2, _, _, e3⟩ := HI1.out.get i hin
  subst hA1
  have ex : x' = x := by rw [hx] at hx'; exact (Option.some.inj hx').symm
  subst ex
  have i0 : (0 : Int) ≤ (i : Int) := by omega
  have i1 : (i : Int) < (n1 : Int) := by omega
  have HLV2 := Lib.hid hlv
  have HAT := Lib.hid hat
  obtain ⟨DX, hDX⟩ : ∃ DX, x'.dir = DX := ⟨_, rfl⟩
  rw [hDX] at e1 HLV2
  clear hlv hat hx hx' hmem hda hDX
  cases DX
  ·have hr := HLV2.out
   rw [if_neg (by decide)] at hr
   have HR9 := Lib.hid hr
   clear hr
   go_wp2_with fail
   have hX := @Ext.cell Z1
   refine wre ?_
   repeat (go_big_quiet_step (first | (go_at_call 57; rename_i X; exact Calls.ext_of (by have := at_any _ s N1 _ (HST1.out.below X.bel); rw [HAT.out] at this; exact this))))
   refine wpQuiet_nil ?_
   rintro w7 ⟨X, rfl⟩
   generalize hZe : X.w = Z2
   have hZ2 := hZe ▸ X.bel
   have HF2 := Lib.hid (HF1.out.below hZ2)
   clear hZe X hX hZ2
   clear p01 p11 p21 c01 c11 c21 c31 c41 c51 c61 c71
   clear e0 e1 e2 e3
   obtain ⟨A2, n2, cp2, E2, m2, d2, D2, k2, e2, hp2, hcl2, p02, p12, p22, pf2, hst2, hI2, hn2, c02, c12, c22, c32, c42, c52, c62, c72⟩ := HF2.out.vals
   have HST2 := Lib.hid hst2
   have HI2 := Lib.hid hI2
   clear hst2 hI2 pf2
   go_wp2_with fail
   have hX := @Ext.cell Z2
   refine wre ?_
   repeat (go_big_quiet_step (first | (go_at_call 85; rename_i X; exact Calls.ext_of (by have := parent_any _ s c.path2 _ (HST2.out.below X.bel) HW.out hpz2; rw [HPA.out] at this; dsimp only at this; exact this))))
   refine wpQuiet_nil ?_
   rintro w7 ⟨X, rfl⟩
   generalize hZe : X.w = Z3
   have hZ2 := hZe ▸ X.bel
   have HF3 := Lib.hid (HF2.out.below hZ2)
   clear hZe X hX hZ2
   clear p02 p12 p22 c02 c12 c22 c32 c42 c52 c62 c72
   obtain ⟨A3, n3, cp3, E3, m3, d3, D3, k3, e3, hp3, hcl3, p03, p13, p23, pf3, hst3, hI3, hn3, c03, c13, c23, c33, c43, c53, c63, c73⟩ := HF3.out.vals
   have HST3 := Lib.hid hst3
   have HI3 := Lib.hid hI3
   clear hst3 hI3 pf3
   by_cases hc2 : C2 = 0
   rotate_left
   ·have q1 : (C2 != 0) = true := by rw [bne_iff_ne]; exact hc2
    have hr := HR9.out
    rw [if_pos hc2] at hr
    have HR8 := Lib.hid hr
    clear hr hc2
    go_wp2_with fail
    refine (fail_any C2 _).mono ?_
    rintro e10 w10 ⟨rfl, hb10⟩
    obtain ⟨g0, g1', g2', g3, g4, g5, gf, W9, hW9, HR5, HOF, HBF, HAS⟩ := HF3.out.fin hb10 (.int .i64 C2) (.int .i64 0) (.int .i64 0) (.bool false) (.string ⟨#[]⟩) (.slice none 0 0)
    clear hb10
    go_wp2_with fail
    (try simp only [Exit.inBlock, Exit.then])
    refine ret_res rfl HR5.out rfl rfl ?_
    exact ⟨by rw [← HR8.out]; rfl, by rw [← HR8.out]; exact HOF.out, HBF.out, HAS.out⟩
   ·subst hc2
    have hdr := HDR0.out rfl
    have hr := HR9.out
    rw [if_neg (by decide)] at hr
    obtain ⟨EV, hEV⟩ : ∃ EV, entV s.inos DR NM = EV := ⟨_, rfl⟩
    obtain ⟨FV, hFV⟩ : ∃ FV, fullV s.inos DR NM (txt []) = FV := ⟨_, rfl⟩
    rw [hEV, hFV] at hr
    have HR8 := Lib.hid hr
    have HEV := Lib.hid hEV
    have HFV : Hid (fullV s.inos DR NM ⟨#[]⟩ = FV) := Lib.hid hFV
    clear hr hEV hFV
    go_wp2_with fail
    refine (entry_any _ s DR NM _ HST3.out).mono ?_
    rintro ex Z4 ⟨rfl, hbx⟩
    have HF4 := Lib.hid (HF3.out.below hbx)
    clear hbx
    clear p03 p13 p23 c03 c13 c23 c33 c43 c53 c63 c73
    obtain ⟨A4, n4, cp4, E4, m4, d4, D4, k4, e4, hp4, hcl4, p04, p14, p24, pf4, hst4, hI4, hn4, c04, c14, c24, c34, c44, c54, c64, c74⟩ := HF4.out.vals
    have HST4 := Lib.hid hst4
    have HI4 := Lib.hid hI4
    clear hst4 hI4 pf4
    rw [HEV.out]
    by_cases hev : EV = 0
    rotate_left
    ·have q1 : (EV != 0) = true := by rw [bne_iff_ne]; exact hev
     have hr := HR8.out
     rw [if_pos hev] at hr
     have HR7 := Lib.hid hr
     clear hr hev
     go_wp2_with fail
     refine (fail_any 2 _).mono ?_
     rintro e10 w10 ⟨rfl, hb10⟩
     obtain ⟨g0, g1', g2', g3, g4, g5, gf, W9, hW9, HR5, HOF, HBF, HAS⟩ := HF4.out.fin hb10 (.int .i64 2) (.int .i64 0) (.int .i64 0) (.bool false) (.string ⟨#[]⟩) (.slice none 0 0)
     clear hb10
     go_wp2_with fail
     (try simp only [Exit.inBlock, Exit.then])
     refine ret_res rfl HR5.out rfl rfl ?_
     exact ⟨by rw [← HR7.out]; rfl, by rw [← HR7.out]; exact HOF.out, HBF.out, HAS.out⟩
    ·subst hev
     have hr := HR8.out
     rw [if_neg (by simp)] at hr
     have HR7 := Lib.hid hr
     clear hr
     go_wp2_with fail
     refine (full_any _ s DR NM ⟨#[]⟩ _ HST4.out hdr hns).mono ?_
     rintro ex Z5 ⟨rfl, hbx⟩
     have HF5 := Lib.hid (HF4.out.below hbx)
     clear hbx
     clear p04 p14 p24 c04 c14 c24 c34 c44 c54 c64 c74
     obtain ⟨A5, n5, cp5, E5, m5, d5, D5, k5, e5, hp5, hcl5, p05, p15, p25, pf5, hst5, hI5, hn5, c05, c15, c25, c35, c45, c55, c65, c75⟩ := HF5.out.vals
     have HST5 := Lib.hid hst5
     have HI5 := Lib.hid hI5
     clear hst5 hI5 pf5
     rw [HFV.out]
     cases FV
     ·have hr := HR7.out
      rw [if_neg (by decide)] at hr
      have HR6 := Lib.hid hr
      have hzz := HZ.out
      rw [← hr] at hzz
      have HZZ := Lib.hid hzz
      clear hr hzz
      go_wp2_with fail
      refine (put_any B p s DR NM N1 Z5 HF5.out.own (by have := HF5.out.size; omega) hdr hns HZZ.out).mono ?_
      rintro ex Z6 ⟨rfl, hox, hbx, hax⟩
      have HF6 := Lib.hid (HF5.out.step hox hbx hax)
      clear hox hbx hax
      clear p05 p15 p25 c05 c15 c25 c35 c45 c55 c65 c75
      go_wp2_with fail
      refine (fail_any 0 _).mono ?_
      rintro e10 w10 ⟨rfl, hb10⟩
      obtain ⟨g0, g1', g2', g3, g4, g5, gf, W9, hW9, HR5, HOF, HBF, HAS⟩ := HF6.out.fin hb10 (.int .i64 0) (.int .i64 0) (.int .i64 0) (.bool false) (.string ⟨#[]⟩) (.slice none 0 0)
      clear hb10
      go_wp2_with fail
      (try simp only [Exit.inBlock, Exit.then])
      refine ret_res rfl HR5.out rfl rfl ?_
      exact ⟨by rw [← HR6.out]; rfl, by rw [← HR6.out]; exact HOF.out, HBF.out, HAS.out⟩
     ·have hr := HR7.out
      rw [if_pos rfl] at hr
      have HR6 := Lib.hid hr
      clear hr
      go_wp2_with fail
      refine (fail_any 5 _).mono ?_
      rintro e10 w10 ⟨rfl, hb10⟩
      obtain ⟨g0, g1', g2', g3, g4, g5, gf, W9, hW9, HR5, HOF, HBF, HAS⟩ := HF5.out.fin hb10 (.int .i64 5) (.int .i64 0) (.int .i64 0) (.bool false) (.string ⟨#[]⟩) (.slice none 0 0)
      clear hb10
      go_wp2_with fail
      (try simp only [Exit.inBlock, Exit.then])
      refine ret_res rfl HR5.out rfl rfl ?_
      exact ⟨by rw [← HR6.out]; rfl, by rw [← HR6.out]; exact HOF.out, HBF.out, HAS.out⟩
  ·have hr := HLV2.out
   rw [if_pos rfl] at hr
   have HR9 := Lib.hid hr
   clear hr
   go_wp2_with fail
   have hX := @Ext.cell Z1
   refine wre ?_
   repeat (go_big_quiet_step (first | (go_at_call 57; rename_i X; exact Calls.ext_of (by have := at_any _ s N1 _ (HST1.out.below X.bel); rw [HAT.out] at this; exact this))))
   refine wpQuiet_nil ?_
   rintro w7 ⟨X, rfl⟩
   generalize hZe : X.w = Z2
   have hZ2 := hZe ▸ X.bel
   have HF2 := Lib.hid (HF1.out.below hZ2)
   clear hZe X hX hZ2
   clear p01 p11 p21 c01 c11 c21 c31 c41 c51 c61 c71
   clear e0 e1 e2 e3
   go_wp2_with fail
   refine (fail_any 8 _).mono ?_
   rintro e10 w10 ⟨rfl, hb10⟩
   obtain ⟨g0, g1', g2', g3, g4, g5, gf, W9, hW9, HR5, HOF, HBF, HAS⟩ := HF2.out.fin hb10 (.int .i64 8) (.int .i64 0) (.int .i64 0) (.bool false) (.string ⟨#[]⟩) (.slice none 0 0)
   clear hb10
   go_wp2_with fail
   (try simp only [Exit.inBlock, Exit.then])
   refine ret_res rfl HR5.out rfl rfl ?_
   exact ⟨by rw [← HR9.out]; rfl, by rw [← HR9.out]; exact HOF.out, HBF.out, HAS.out⟩
end Go.Proofs.YthhceopnnappgaaGreatDoor
