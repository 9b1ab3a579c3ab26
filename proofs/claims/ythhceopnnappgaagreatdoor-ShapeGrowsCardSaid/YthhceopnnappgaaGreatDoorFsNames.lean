/- names of the document (Link, Unlink, Rmdir, Rename): by its contract (wip/gen_names.py). -/
import Derived.Test.YthhceopnnappgaaGreatDoorM18
import Derived.Test.YthhceopnnappgaaGreatDoorFsLink
import Derived.Deep.RegionHeld3
set_option linter.unusedVariables false
set_option linter.unusedSimpArgs false
namespace Go.Proofs.YthhceopnnappgaaGreatDoor
open Go.RowKit
set_option maxRecDepth 100000 in
set_option maxHeartbeats 16000000 in
theorem names_any (B p : Nat) (s : St) (c : Ca) (w : World) (h : Own B w p s) (hB : B ≤ w.heap.size) (hw : Whole s.inos) (hpz : c.path.size ≤ 140737488355328) (hpz2 : c.path2.size ≤ 140737488355328) (hns : (parentV s.inos c.path2).2.1.size ≤ 140737488355328)
  (hdeep : ∀ num, dirAt s.inos num = true → Deep s.inos (1 + s.inos.length) num) (hz : Sized (namesV s c).1) (hk : c.kind = 8 ∨ c.kind = 9 ∨ c.kind = 10 ∨ c.kind = 11) :
  Calls Tryz.prog 69 #[.pointer (some ⟨p, 0, .none⟩), caV c] w fun e w' => e = .returned (resV (namesV s c).2) ∧ Own B w' p (namesV s c).1 ∧ Below B w w' ∧ Aside p w w' := by
 obtain ⟨LV, hLV⟩ : ∃ LV, namesV s c = LV := ⟨_, rfl⟩
 obtain ⟨⟨DR, NM, C2⟩, hPA⟩ : ∃ x, parentV s.inos c.path = x := ⟨_, rfl⟩
 have hdr0 := parentV_dir s.inos c.path
 rw [hLV] at hz ⊢
 unfold namesV at hLV
 rw [hPA] at hLV hdr0
 dsimp only at hLV hdr0
 obtain ⟨W, W2, hW, hW2, hsz1, hfr⟩ := Fr.start h hB c
 have HF := Lib.hid hfr
 clear h hfr
 obtain ⟨A, n, cp, E, m, d, D, k, e, hp, hcl, p0, p1, p2, pf, hst, hI, hn, c0, c1, c2, c3, c4, c5, c6, c7⟩ := HF.out.vals
 have HST := Lib.hid hst
 have HI := Lib.hid hI
 clear hst hI pf
 have HLV := Lib.hid hLV
 have HPA := Lib.hid hPA
 have HW := Lib.hid hw
 have HZ := Lib.hid hz
 have HDR0 := Lib.hid hdr0
 have HDEEP := Lib.hid hdeep
 have hps : p < w.heap.size := HF.out.hp
 have hwsz : w.heap.size + 2 ≤ W2.heap.size := HF.out.size
 clear hLV hPA hw hz hdr0 hdeep
 obtain ⟨KD, hKD⟩ : ∃ KD, c.kind = KD := ⟨_, rfl⟩
 have HKD := Lib.hid hKD
 rw [hKD] at c0 hk
 unfold caV
 rw [hKD]
 rw [hKD] at hW
 clear hKD
 rcases hk with hk | hk | hk | hk
 ·subst hk
  have hr := HLV.out
  rw [if_pos HKD.out] at hr
  have HR := Lib.hid hr
  have hzz := HZ.out
  rw [← hr] at hzz
  have HZZ := Lib.hid hzz
  clear hr hzz
  go_enter Tryz.func69, Tryz.ntmps69
  go_wp2_with fail
  clear hW hW2
  have hlk := link_any B p s c W2 HF.out.own (by have := HF.out.hB; omega) HW.out hpz hpz2 hns HZZ.out
  unfold caV at hlk
  rw [HKD.out] at hlk
  refine hlk.mono ?_
  clear hlk
  rintro ex Z3 ⟨rfl, hox, hbx, hax⟩
  have HF3 := Lib.hid (HF.out.step hox hbx hax)
  unfold resV
  clear hox hbx hax p0 p1 p2 c0 c1 c2 c3 c4 c5 c6 c7
  obtain ⟨g0, g1', g2', g3, g4, g5, gf, W9, hW9, HR5, HOF, HBF, HAS⟩ := HF3.out.fin (Below.refl _ _) (.int .i64 (linkV s c).2.code) (.int .i64 (linkV s c).2.fd) (.int .i64 (linkV s c).2.num) (.bool (linkV s c).2.dir) (.string (linkV s c).2.data) (.slice none 0 0)
  go_wp2_with fail
  (try simp only [Exit.inBlock, Exit.then])
  refine ret_res rfl HR5.out rfl rfl ?_
  exact ⟨by rw [← HR.out]; rfl, by rw [← HR.out]; exact HOF.out, HBF.out, HAS.out⟩
 ·subst hk
  have hr := HLV.out
  rw [if_neg (by rw [HKD.out]; decide)] at hr
  have HR := Lib.hid hr
  clear hr
  go_enter Tryz.func69, Tryz.ntmps69
  go_wp2_with fail
  clear hW hW2
  have hX := @Ext.cell W2
  refine wre ?_
  repeat (go_big_quiet_step (first | (go_at_call 85; rename_i X; exact Calls.ext_of (by have := parent_any _ s c.path _ (HST.out.below X.bel) HW.out hpz; rw [HPA.out] at this; dsimp only at this; exact this))))
  refine wpQuiet_nil ?_
  rintro w7 ⟨X, rfl⟩
  generalize hZe : X.w = Z1
  have hZ2 := hZe ▸ X.bel
  have HF1 := Lib.hid (HF.out.below hZ2)
  clear hZe X hX hZ2
  clear p0 p1 p2 c0 c1 c2 c3 c4 c5 c6 c7
  obtain ⟨A1, n1, cp1, E1, m1, d1, D1, k1, e1, hp1, hcl1, p01, p11, p21, pf1, hst1, hI1, hn1, c01, c11, c21, c31, c41, c51, c61, c71⟩ := HF1.out.vals
  have HST1 := Lib.hid hst1
  have HI1 := Lib.hid hI1
  clear hst1 hI1 pf1
  rw [HKD.out] at c01
  by_cases hc2 : C2 = 0
  rotate_left
  ·have q1 : (C2 != 0) = true := by rw [bne_iff_ne]; exact hc2
   have hr := HR.out
   rw [if_pos hc2] at hr
   have HR8 := Lib.hid hr
   clear hr hc2
   go_wp2_with fail
   refine (fail_any C2 _).mono ?_
   rintro e10 w10 ⟨rfl, hb10⟩
   obtain ⟨g0, g1', g2', g3, g4, g5, gf, W9, hW9, HR5, HOF, HBF, HAS⟩ := HF1.out.fin hb10 (.int .i64 C2) (.int .i64 0) (.int .i64 0) (.bool false) (.string ⟨#[]⟩) (.slice none 0 0)
   clear hb10
   go_wp2_with fail
   (try simp only [Exit.inBlock, Exit.then])
   refine ret_res rfl HR5.out rfl rfl ?_
   exact ⟨by rw [← HR8.out]; rfl, by rw [← HR8.out]; exact HOF.out, HBF.out, HAS.out⟩
  ·subst hc2
   have hdr := HDR0.out rfl
   have hr := HR.out
   rw [if_neg (by decide)] at hr
   obtain ⟨EV, hEV⟩ : ∃ EV, entV s.inos DR NM = EV := ⟨_, rfl⟩
   rw [hEV] at hr
   have HR8 := Lib.hid hr
   have HEV := Lib.hid hEV
   have hew : EV ≠ 0 → 0 ≤ atV s.inos EV := by rw [← hEV]; exact fun h => entV_whole HW.out h
   have HEW := Lib.hid hew
   clear hr hEV hew
   go_wp2_with fail
   refine (entry_any _ s DR NM _ HST1.out).mono ?_
   rintro ex Z4 ⟨rfl, hbx⟩
   have HF4 := Lib.hid (HF1.out.below hbx)
   clear hbx
   clear p01 p11 p21 c01 c11 c21 c31 c41 c51 c61 c71
   obtain ⟨A4, n4, cp4, E4, m4, d4, D4, k4, e4, hp4, hcl4, p04, p14, p24, pf4, hst4, hI4, hn4, c04, c14, c24, c34, c44, c54, c64, c74⟩ := HF4.out.vals
   have HST4 := Lib.hid hst4
   have HI4 := Lib.hid hI4
   clear hst4 hI4 pf4
   rw [HKD.out] at c04
   rw [HEV.out]
   by_cases hev : EV = 0
   ·subst hev
    have hr := HR8.out
    rw [if_pos rfl] at hr
    have HR7 := Lib.hid hr
    clear hr
    go_wp2_with fail
    refine (fail_any 1 _).mono ?_
    rintro e10 w10 ⟨rfl, hb10⟩
    obtain ⟨g0, g1', g2', g3, g4, g5, gf, W9, hW9, HR5, HOF, HBF, HAS⟩ := HF4.out.fin hb10 (.int .i64 1) (.int .i64 0) (.int .i64 0) (.bool false) (.string ⟨#[]⟩) (.slice none 0 0)
    clear hb10
    go_wp2_with fail
    (try simp only [Exit.inBlock, Exit.then])
    refine ret_res rfl HR5.out rfl rfl ?_
    exact ⟨by rw [← HR7.out]; rfl, by rw [← HR7.out]; exact HOF.out, HBF.out, HAS.out⟩
   ·have q1 : (EV == 0) = false := by rw [beq_eq_false_iff_ne]; exact hev
    obtain ⟨i, x, hat, hx, hxn⟩ := atV_some (HEW.out hev)
    have hda : dirAt s.inos EV = x.dir := by unfold dirAt; rw [hat, inoAt_nat, hx]
    have hen : entsOf s.inos EV = x.ents := by unfold entsOf; rw [hat, inoAt_nat, hx]
    have hr := HR8.out
    rw [if_neg hev, hda, hen] at hr
    have HR7 := Lib.hid hr
    have HAT := Lib.hid hat
    have hin : i < n4 := by have := (List.getElem?_eq_some_iff.1 hx).1; have := HI4.out.1; omega
    obtain ⟨g, og, x', E3, m3, d3, hA1, hg, hx', _, hmem, e0, e1, e2, hok3, hE3, e3⟩ := HI4.out.get i hin
    subst hA1
    have ex : x' = x := by rw [hx] at hx'; exact (Option.some.inj hx').symm
    subst ex
    have i0 : (0 : Int) ≤ (i : Int) := by omega
    have i1 : (i : Int) < (n4 : Int) := by omega
    have hml := hE3.1
    clear hr hat hx hx' hmem hda hen hok3 hE3 hev hxn
    have hX : True := trivial
    go_upto_region 9 with fail
    go_cut [9] (fun pv wx => ∃ b, pv = .pointer (some ⟨b, 0, .none⟩) ∧ wx.heap[b]? = some (.cells #[.int .i64 x'.num, .bool x'.dir, .slice E3 m3 d3, .string x'.data] 52 (0, 0)) ∧ Below Z4.heap.size Z4 wx)
    case first =>
     have nA : Z4.heap.size ≠ p := by omega
     have nB : Z4.heap.size ≠ g := by omega
     go_region_held3 (fun w' => w'.cell? ⟨p, 0, none⟩ = some (.slice (some ⟨g, og, none⟩) n4 cp4) ∧ w'.cell? ⟨p, 1, none⟩ = some (.slice E4 m4 d4) ∧ w'.cell? ⟨p, 2, none⟩ = some (.slice D4 k4 e4) ∧ w'.cell? ⟨g, og + i * 4, none⟩ = some (.int .i64 x'.num) ∧ w'.cell? ⟨g, og + i * 4 + 1, none⟩ = some (.bool x'.dir) ∧ w'.cell? ⟨g, og + i * 4 + 2, none⟩ = some (.slice E3 m3 d3) ∧ w'.cell? ⟨g, og + i * 4 + 3, none⟩ = some (.string x'.data))
      (go_keep)
      ((go_at_call 57; refine (at_any _ s EV _ (HST4.out.below (by first | exact Cv.drewN_below (Below.refl _ _) 1 | exact (Cv.drewN_below (Below.refl _ _) 1).alloc (by simp) _))).mono ?_; rintro e5 w5 ⟨rfl, hb5⟩; rw [HAT.out]; have hbw5 : Below Z4.heap.size Z4 w5 := (by first | exact Cv.next (Cv.drewN_below (Below.refl _ _) 1) hb5 | exact Cv.next ((Cv.drewN_below (Below.refl _ _) 1).alloc (by simp) _) hb5); have z0 := (hbw5.cell (p := ⟨p, 0, none⟩) hp4).trans p04; have z1 := (hbw5.cell (p := ⟨p, 1, none⟩) hp4).trans p14; have z2 := (hbw5.cell (p := ⟨p, 2, none⟩) hp4).trans p24; have f0 := (hbw5.cell (p := ⟨g, og + i * 4, none⟩) hg).trans e0; have f1 := (hbw5.cell (p := ⟨g, og + i * 4 + 1, none⟩) hg).trans e1; have f2 := (hbw5.cell (p := ⟨g, og + i * 4 + 2, none⟩) hg).trans e2; have f3 := (hbw5.cell (p := ⟨g, og + i * 4 + 3, none⟩) hg).trans e3; have hz5 := hbw5.size; have nC : w5.heap.size ≠ p := (by omega); have nD : w5.heap.size ≠ g := (by omega); (first | (have am := row_kept hb5 (al1 Z4 (.cells #[.int .i64 0, .bool false, .slice none 0 0, .string ⟨#[]⟩] 52)); obtain ⟨m0, m1, m2', m3', mf⟩ := row4 am; have HAM := Lib.hid am; clear am) | skip)))
     all_goals (
      go_wp2_with fail
      go_meet)
     ·exact ⟨w5.heap.size, rfl, row_new w5 _ _ rfl, hbw5.alloc hz5 _⟩
     ·exact ⟨Z4.heap.size, rfl, heap_setCell_same _ _ 3 _ _ _ (heap_setCell_same _ _ 2 _ _ _ (heap_setCell_same _ _ 1 _ _ _ (heap_setCell_same _ _ 0 _ _ _ HAM.out))), (((hbw5.setCell (Nat.le_refl _) _).setCell (Nat.le_refl _) _).setCell (Nat.le_refl _) _).setCell (Nat.le_refl _) _⟩
    case rest =>
     obtain ⟨bx, rfl, hbx, hbb⟩ := hcut
     obtain ⟨b0, b1, b2, b3, _⟩ := row4 hbx
     generalize wc = Z5 at *
     have HF5 := Lib.hid (HF4.out.below hbb)
     clear hX hbx hbb e0 e1 e2 e3
     obtain ⟨A5, n5, cp5, E5, m5, d5, D5, k5, e5, hp5, hcl5, p05, p15, p25, pf5, hst5, hI5, hn5, c05, c15, c25, c35, c45, c55, c65, c75⟩ := HF5.out.vals
     have HST5 := Lib.hid hst5
     have HI5 := Lib.hid hI5
     clear hst5 hI5 pf5
     rw [HKD.out] at c05
     obtain ⟨DXX, hDXX⟩ : ∃ DXX, x'.dir = DXX := ⟨_, rfl⟩
     rw [hDXX] at HR7 b1
     clear hDXX
     cases DXX
     ·have hr := HR7.out
      rw [if_neg (by rw [HKD.out]; decide), if_neg (by simp), if_neg (fun h => by rw [HKD.out] at h; exact absurd h.1 (by decide)), if_neg (fun h => by rw [HKD.out] at h; exact absurd h.1 (by decide))] at hr
      have HR6 := Lib.hid hr
      clear hr
      go_wp2_with fail
      refine (drop_any B p s DR NM Z5 HF5.out.own (by have := HF5.out.hB; have := HF5.out.size; omega) hdr (HF5.out.own.sized.dropE DR NM)).mono ?_
      rintro ex Z6 ⟨rfl, hox, hbx, hax⟩
      have HF6 := Lib.hid (HF5.out.step hox hbx hax)
      clear hox hbx hax
      clear p05 p15 p25 c05 c15 c25 c35 c45 c55 c65 c75
      go_wp2_with fail
      refine (sweep_any B p _ EV Z6 HF6.out.own (by have := HF6.out.hB; have := HF6.out.size; omega)).mono ?_
      rintro ex Z7 ⟨rfl, hox, hbx, hax⟩
      have HF7 := Lib.hid (HF6.out.step hox hbx hax)
      clear hox hbx hax
      go_wp2_with fail
      refine (fail_any 0 _).mono ?_
      rintro e10 w10 ⟨rfl, hb10⟩
      obtain ⟨g0, g1', g2', g3, g4, g5, gf, W9, hW9, HR5, HOF, HBF, HAS⟩ := HF7.out.fin hb10 (.int .i64 0) (.int .i64 0) (.int .i64 0) (.bool false) (.string ⟨#[]⟩) (.slice none 0 0)
      clear hb10
      go_wp2_with fail
      (try simp only [Exit.inBlock, Exit.then])
      refine ret_res rfl HR5.out rfl rfl ?_
      exact ⟨by rw [← HR6.out]; rfl, by rw [← HR6.out]; exact HOF.out, HBF.out, HAS.out⟩
     ·have hr := HR7.out
      rw [if_neg (by rw [HKD.out]; decide), if_pos ⟨HKD.out, rfl⟩] at hr
      have HR6 := Lib.hid hr
      clear hr
      go_wp2_with fail
      refine (fail_any 8 _).mono ?_
      rintro e10 w10 ⟨rfl, hb10⟩
      obtain ⟨g0, g1', g2', g3, g4, g5, gf, W9, hW9, HR5, HOF, HBF, HAS⟩ := HF5.out.fin hb10 (.int .i64 8) (.int .i64 0) (.int .i64 0) (.bool false) (.string ⟨#[]⟩) (.slice none 0 0)
      clear hb10
      go_wp2_with fail
      (try simp only [Exit.inBlock, Exit.then])
      refine ret_res rfl HR5.out rfl rfl ?_
      exact ⟨by rw [← HR6.out]; rfl, by rw [← HR6.out]; exact HOF.out, HBF.out, HAS.out⟩
 ·subst hk
  have hr := HLV.out
  rw [if_neg (by rw [HKD.out]; decide)] at hr
  have HR := Lib.hid hr
  clear hr
  go_enter Tryz.func69, Tryz.ntmps69
  go_wp2_with fail
  clear hW hW2
  have hX := @Ext.cell W2
  refine wre ?_
  repeat (go_big_quiet_step (first | (go_at_call 85; rename_i X; exact Calls.ext_of (by have := parent_any _ s c.path _ (HST.out.below X.bel) HW.out hpz; rw [HPA.out] at this; dsimp only at this; exact this))))
  refine wpQuiet_nil ?_
  rintro w7 ⟨X, rfl⟩
  generalize hZe : X.w = Z1
  have hZ2 := hZe ▸ X.bel
  have HF1 := Lib.hid (HF.out.below hZ2)
  clear hZe X hX hZ2
  clear p0 p1 p2 c0 c1 c2 c3 c4 c5 c6 c7
  obtain ⟨A1, n1, cp1, E1, m1, d1, D1, k1, e1, hp1, hcl1, p01, p11, p21, pf1, hst1, hI1, hn1, c01, c11, c21, c31, c41, c51, c61, c71⟩ := HF1.out.vals
  have HST1 := Lib.hid hst1
  have HI1 := Lib.hid hI1
  clear hst1 hI1 pf1
  rw [HKD.out] at c01
  by_cases hc2 : C2 = 0
  rotate_left
  ·have q1 : (C2 != 0) = true := by rw [bne_iff_ne]; exact hc2
   have hr := HR.out
   rw [if_pos hc2] at hr
   have HR8 := Lib.hid hr
   clear hr hc2
   go_wp2_with fail
   refine (fail_any C2 _).mono ?_
   rintro e10 w10 ⟨rfl, hb10⟩
   obtain ⟨g0, g1', g2', g3, g4, g5, gf, W9, hW9, HR5, HOF, HBF, HAS⟩ := HF1.out.fin hb10 (.int .i64 C2) (.int .i64 0) (.int .i64 0) (.bool false) (.string ⟨#[]⟩) (.slice none 0 0)
   clear hb10
   go_wp2_with fail
   (try simp only [Exit.inBlock, Exit.then])
   refine ret_res rfl HR5.out rfl rfl ?_
   exact ⟨by rw [← HR8.out]; rfl, by rw [← HR8.out]; exact HOF.out, HBF.out, HAS.out⟩
  ·subst hc2
   have hdr := HDR0.out rfl
   have hr := HR.out
   rw [if_neg (by decide)] at hr
   obtain ⟨EV, hEV⟩ : ∃ EV, entV s.inos DR NM = EV := ⟨_, rfl⟩
   rw [hEV] at hr
   have HR8 := Lib.hid hr
   have HEV := Lib.hid hEV
   have hew : EV ≠ 0 → 0 ≤ atV s.inos EV := by rw [← hEV]; exact fun h => entV_whole HW.out h
   have HEW := Lib.hid hew
   clear hr hEV hew
   go_wp2_with fail
   refine (entry_any _ s DR NM _ HST1.out).mono ?_
   rintro ex Z4 ⟨rfl, hbx⟩
   have HF4 := Lib.hid (HF1.out.below hbx)
   clear hbx
   clear p01 p11 p21 c01 c11 c21 c31 c41 c51 c61 c71
   obtain ⟨A4, n4, cp4, E4, m4, d4, D4, k4, e4, hp4, hcl4, p04, p14, p24, pf4, hst4, hI4, hn4, c04, c14, c24, c34, c44, c54, c64, c74⟩ := HF4.out.vals
   have HST4 := Lib.hid hst4
   have HI4 := Lib.hid hI4
   clear hst4 hI4 pf4
   rw [HKD.out] at c04
   rw [HEV.out]
   by_cases hev : EV = 0
   ·subst hev
    have hr := HR8.out
    rw [if_pos rfl] at hr
    have HR7 := Lib.hid hr
    clear hr
    go_wp2_with fail
    refine (fail_any 1 _).mono ?_
    rintro e10 w10 ⟨rfl, hb10⟩
    obtain ⟨g0, g1', g2', g3, g4, g5, gf, W9, hW9, HR5, HOF, HBF, HAS⟩ := HF4.out.fin hb10 (.int .i64 1) (.int .i64 0) (.int .i64 0) (.bool false) (.string ⟨#[]⟩) (.slice none 0 0)
    clear hb10
    go_wp2_with fail
    (try simp only [Exit.inBlock, Exit.then])
    refine ret_res rfl HR5.out rfl rfl ?_
    exact ⟨by rw [← HR7.out]; rfl, by rw [← HR7.out]; exact HOF.out, HBF.out, HAS.out⟩
   ·have q1 : (EV == 0) = false := by rw [beq_eq_false_iff_ne]; exact hev
    obtain ⟨i, x, hat, hx, hxn⟩ := atV_some (HEW.out hev)
    have hda : dirAt s.inos EV = x.dir := by unfold dirAt; rw [hat, inoAt_nat, hx]
    have hen : entsOf s.inos EV = x.ents := by unfold entsOf; rw [hat, inoAt_nat, hx]
    have hr := HR8.out
    rw [if_neg hev, hda, hen] at hr
    have HR7 := Lib.hid hr
    have HAT := Lib.hid hat
    have hin : i < n4 := by have := (List.getElem?_eq_some_iff.1 hx).1; have := HI4.out.1; omega
    obtain ⟨g, og, x', E3, m3, d3, hA1, hg, hx', _, hmem, e0, e1, e2, hok3, hE3, e3⟩ := HI4.out.get i hin
    subst hA1
    have ex : x' = x := by rw [hx] at hx'; exact (Option.some.inj hx').symm
    subst ex
    have i0 : (0 : Int) ≤ (i : Int) := by omega
    have i1 : (i : Int) < (n4 : Int) := by omega
    have hml := hE3.1
    clear hr hat hx hx' hmem hda hen hok3 hE3 hev hxn
    have hX : True := trivial
    go_upto_region 9 with fail
    go_cut [9] (fun pv wx => ∃ b, pv = .pointer (some ⟨b, 0, .none⟩) ∧ wx.heap[b]? = some (.cells #[.int .i64 x'.num, .bool x'.dir, .slice E3 m3 d3, .string x'.data] 52 (0, 0)) ∧ Below Z4.heap.size Z4 wx)
    case first =>
     have nA : Z4.heap.size ≠ p := by omega
     have nB : Z4.heap.size ≠ g := by omega
     go_region_held3 (fun w' => w'.cell? ⟨p, 0, none⟩ = some (.slice (some ⟨g, og, none⟩) n4 cp4) ∧ w'.cell? ⟨p, 1, none⟩ = some (.slice E4 m4 d4) ∧ w'.cell? ⟨p, 2, none⟩ = some (.slice D4 k4 e4) ∧ w'.cell? ⟨g, og + i * 4, none⟩ = some (.int .i64 x'.num) ∧ w'.cell? ⟨g, og + i * 4 + 1, none⟩ = some (.bool x'.dir) ∧ w'.cell? ⟨g, og + i * 4 + 2, none⟩ = some (.slice E3 m3 d3) ∧ w'.cell? ⟨g, og + i * 4 + 3, none⟩ = some (.string x'.data))
      (go_keep)
      ((go_at_call 57; refine (at_any _ s EV _ (HST4.out.below (by first | exact Cv.drewN_below (Below.refl _ _) 1 | exact (Cv.drewN_below (Below.refl _ _) 1).alloc (by simp) _))).mono ?_; rintro e5 w5 ⟨rfl, hb5⟩; rw [HAT.out]; have hbw5 : Below Z4.heap.size Z4 w5 := (by first | exact Cv.next (Cv.drewN_below (Below.refl _ _) 1) hb5 | exact Cv.next ((Cv.drewN_below (Below.refl _ _) 1).alloc (by simp) _) hb5); have z0 := (hbw5.cell (p := ⟨p, 0, none⟩) hp4).trans p04; have z1 := (hbw5.cell (p := ⟨p, 1, none⟩) hp4).trans p14; have z2 := (hbw5.cell (p := ⟨p, 2, none⟩) hp4).trans p24; have f0 := (hbw5.cell (p := ⟨g, og + i * 4, none⟩) hg).trans e0; have f1 := (hbw5.cell (p := ⟨g, og + i * 4 + 1, none⟩) hg).trans e1; have f2 := (hbw5.cell (p := ⟨g, og + i * 4 + 2, none⟩) hg).trans e2; have f3 := (hbw5.cell (p := ⟨g, og + i * 4 + 3, none⟩) hg).trans e3; have hz5 := hbw5.size; have nC : w5.heap.size ≠ p := (by omega); have nD : w5.heap.size ≠ g := (by omega); (first | (have am := row_kept hb5 (al1 Z4 (.cells #[.int .i64 0, .bool false, .slice none 0 0, .string ⟨#[]⟩] 52)); obtain ⟨m0, m1, m2', m3', mf⟩ := row4 am; have HAM := Lib.hid am; clear am) | skip)))
     all_goals (
      go_wp2_with fail
      go_meet)
     ·exact ⟨w5.heap.size, rfl, row_new w5 _ _ rfl, hbw5.alloc hz5 _⟩
     ·exact ⟨Z4.heap.size, rfl, heap_setCell_same _ _ 3 _ _ _ (heap_setCell_same _ _ 2 _ _ _ (heap_setCell_same _ _ 1 _ _ _ (heap_setCell_same _ _ 0 _ _ _ HAM.out))), (((hbw5.setCell (Nat.le_refl _) _).setCell (Nat.le_refl _) _).setCell (Nat.le_refl _) _).setCell (Nat.le_refl _) _⟩
    case rest =>
     obtain ⟨bx, rfl, hbx, hbb⟩ := hcut
     obtain ⟨b0, b1, b2, b3, _⟩ := row4 hbx
     generalize wc = Z5 at *
     have HF5 := Lib.hid (HF4.out.below hbb)
     clear hX hbx hbb e0 e1 e2 e3
     obtain ⟨A5, n5, cp5, E5, m5, d5, D5, k5, e5, hp5, hcl5, p05, p15, p25, pf5, hst5, hI5, hn5, c05, c15, c25, c35, c45, c55, c65, c75⟩ := HF5.out.vals
     have HST5 := Lib.hid hst5
     have HI5 := Lib.hid hI5
     clear hst5 hI5 pf5
     rw [HKD.out] at c05
     obtain ⟨DXX, hDXX⟩ : ∃ DXX, x'.dir = DXX := ⟨_, rfl⟩
     rw [hDXX] at HR7 b1
     clear hDXX
     cases DXX
     ·have hr := HR7.out
      rw [if_neg (by rw [HKD.out]; decide), if_neg (by simp), if_pos ⟨HKD.out, rfl⟩] at hr
      have HR6 := Lib.hid hr
      clear hr
      go_wp2_with fail
      refine (fail_any 7 _).mono ?_
      rintro e10 w10 ⟨rfl, hb10⟩
      obtain ⟨g0, g1', g2', g3, g4, g5, gf, W9, hW9, HR5, HOF, HBF, HAS⟩ := HF5.out.fin hb10 (.int .i64 7) (.int .i64 0) (.int .i64 0) (.bool false) (.string ⟨#[]⟩) (.slice none 0 0)
      clear hb10
      go_wp2_with fail
      (try simp only [Exit.inBlock, Exit.then])
      refine ret_res rfl HR5.out rfl rfl ?_
      exact ⟨by rw [← HR6.out]; rfl, by rw [← HR6.out]; exact HOF.out, HBF.out, HAS.out⟩
     ·by_cases hem : m3 = 0
      ·subst hem
       have hr := HR7.out
       rw [if_neg (by rw [HKD.out]; decide), if_neg (fun h => by rw [HKD.out] at h; exact absurd h.1 (by decide)), if_neg (by simp), if_neg (fun h => h.2 (List.eq_nil_of_length_eq_zero hml))] at hr
       have HR6 := Lib.hid hr
       clear hr
       go_wp2_with fail
       refine (drop_any B p s DR NM Z5 HF5.out.own (by have := HF5.out.hB; have := HF5.out.size; omega) hdr (HF5.out.own.sized.dropE DR NM)).mono ?_
       rintro ex Z6 ⟨rfl, hox, hbx, hax⟩
       have HF6 := Lib.hid (HF5.out.step hox hbx hax)
       clear hox hbx hax
       clear p05 p15 p25 c05 c15 c25 c35 c45 c55 c65 c75
       go_wp2_with fail
       refine (sweep_any B p _ EV Z6 HF6.out.own (by have := HF6.out.hB; have := HF6.out.size; omega)).mono ?_
       rintro ex Z7 ⟨rfl, hox, hbx, hax⟩
       have HF7 := Lib.hid (HF6.out.step hox hbx hax)
       clear hox hbx hax
       go_wp2_with fail
       refine (fail_any 0 _).mono ?_
       rintro e10 w10 ⟨rfl, hb10⟩
       obtain ⟨g0, g1', g2', g3, g4, g5, gf, W9, hW9, HR5, HOF, HBF, HAS⟩ := HF7.out.fin hb10 (.int .i64 0) (.int .i64 0) (.int .i64 0) (.bool false) (.string ⟨#[]⟩) (.slice none 0 0)
       clear hb10
       go_wp2_with fail
       (try simp only [Exit.inBlock, Exit.then])
       refine ret_res rfl HR5.out rfl rfl ?_
       exact ⟨by rw [← HR6.out]; rfl, by rw [← HR6.out]; exact HOF.out, HBF.out, HAS.out⟩
      ·have q5 : decide ((0 : Int) < (m3 : Int)) = true := by rw [decide_eq_true_eq]; omega
       have q6 : decide (0 < m3) = true := by rw [decide_eq_true_eq]; omega
       have hne : x'.ents ≠ [] := fun h => by rw [h] at hml; exact hem hml.symm
       have HNE := Lib.hid hne
       clear hem hne
       have hr := HR7.out
       rw [if_neg (by rw [HKD.out]; decide), if_neg (fun h => by rw [HKD.out] at h; exact absurd h.1 (by decide)), if_neg (by simp), if_pos ⟨HKD.out, HNE.out⟩] at hr
       have HR6 := Lib.hid hr
       clear hr
       go_wp2_with fail
       refine (fail_any 3 _).mono ?_
       rintro e10 w10 ⟨rfl, hb10⟩
       obtain ⟨g0, g1', g2', g3, g4, g5, gf, W9, hW9, HR5, HOF, HBF, HAS⟩ := HF5.out.fin hb10 (.int .i64 3) (.int .i64 0) (.int .i64 0) (.bool false) (.string ⟨#[]⟩) (.slice none 0 0)
       clear hb10
       go_wp2_with fail
       (try simp only [Exit.inBlock, Exit.then])
       refine ret_res rfl HR5.out rfl rfl ?_
       exact ⟨by rw [← HR6.out]; rfl, by rw [← HR6.out]; exact HOF.out, HBF.out, HAS.out⟩
 ·subst hk
  have hr := HLV.out
  rw [if_neg (by rw [HKD.out]; decide)] at hr
  have HR := Lib.hid hr
  clear hr
  go_enter Tryz.func69, Tryz.ntmps69
  go_wp2_with fail
  clear hW hW2
  have hX := @Ext.cell W2
  refine wre ?_
  repeat (go_big_quiet_step (first | (go_at_call 85; rename_i X; exact Calls.ext_of (by have := parent_any _ s c.path _ (HST.out.below X.bel) HW.out hpz; rw [HPA.out] at this; dsimp only at this; exact this))))
  refine wpQuiet_nil ?_
  rintro w7 ⟨X, rfl⟩
  generalize hZe : X.w = Z1
  have hZ2 := hZe ▸ X.bel
  have HF1 := Lib.hid (HF.out.below hZ2)
  clear hZe X hX hZ2
  clear p0 p1 p2 c0 c1 c2 c3 c4 c5 c6 c7
  obtain ⟨A1, n1, cp1, E1, m1, d1, D1, k1, e1, hp1, hcl1, p01, p11, p21, pf1, hst1, hI1, hn1, c01, c11, c21, c31, c41, c51, c61, c71⟩ := HF1.out.vals
  have HST1 := Lib.hid hst1
  have HI1 := Lib.hid hI1
  clear hst1 hI1 pf1
  rw [HKD.out] at c01
  by_cases hc2 : C2 = 0
  rotate_left
  ·have q1 : (C2 != 0) = true := by rw [bne_iff_ne]; exact hc2
   have hr := HR.out
   rw [if_pos hc2] at hr
   have HR8 := Lib.hid hr
   clear hr hc2
   go_wp2_with fail
   refine (fail_any C2 _).mono ?_
   rintro e10 w10 ⟨rfl, hb10⟩
   obtain ⟨g0, g1', g2', g3, g4, g5, gf, W9, hW9, HR5, HOF, HBF, HAS⟩ := HF1.out.fin hb10 (.int .i64 C2) (.int .i64 0) (.int .i64 0) (.bool false) (.string ⟨#[]⟩) (.slice none 0 0)
   clear hb10
   go_wp2_with fail
   (try simp only [Exit.inBlock, Exit.then])
   refine ret_res rfl HR5.out rfl rfl ?_
   exact ⟨by rw [← HR8.out]; rfl, by rw [← HR8.out]; exact HOF.out, HBF.out, HAS.out⟩
  ·subst hc2
   have hdr := HDR0.out rfl
   have hr := HR.out
   rw [if_neg (by decide)] at hr
   obtain ⟨EV, hEV⟩ : ∃ EV, entV s.inos DR NM = EV := ⟨_, rfl⟩
   rw [hEV] at hr
   have HR8 := Lib.hid hr
   have HEV := Lib.hid hEV
   have hew : EV ≠ 0 → 0 ≤ atV s.inos EV := by rw [← hEV]; exact fun h => entV_whole HW.out h
   have HEW := Lib.hid hew
   clear hr hEV hew
   go_wp2_with fail
   refine (entry_any _ s DR NM _ HST1.out).mono ?_
   rintro ex Z4 ⟨rfl, hbx⟩
   have HF4 := Lib.hid (HF1.out.below hbx)
   clear hbx
   clear p01 p11 p21 c01 c11 c21 c31 c41 c51 c61 c71
   obtain ⟨A4, n4, cp4, E4, m4, d4, D4, k4, e4, hp4, hcl4, p04, p14, p24, pf4, hst4, hI4, hn4, c04, c14, c24, c34, c44, c54, c64, c74⟩ := HF4.out.vals
   have HST4 := Lib.hid hst4
   have HI4 := Lib.hid hI4
   clear hst4 hI4 pf4
   rw [HKD.out] at c04
   rw [HEV.out]
   by_cases hev : EV = 0
   ·subst hev
    have hr := HR8.out
    rw [if_pos rfl] at hr
    have HR7 := Lib.hid hr
    clear hr
    go_wp2_with fail
    refine (fail_any 1 _).mono ?_
    rintro e10 w10 ⟨rfl, hb10⟩
    obtain ⟨g0, g1', g2', g3, g4, g5, gf, W9, hW9, HR5, HOF, HBF, HAS⟩ := HF4.out.fin hb10 (.int .i64 1) (.int .i64 0) (.int .i64 0) (.bool false) (.string ⟨#[]⟩) (.slice none 0 0)
    clear hb10
    go_wp2_with fail
    (try simp only [Exit.inBlock, Exit.then])
    refine ret_res rfl HR5.out rfl rfl ?_
    exact ⟨by rw [← HR7.out]; rfl, by rw [← HR7.out]; exact HOF.out, HBF.out, HAS.out⟩
   ·have q1 : (EV == 0) = false := by rw [beq_eq_false_iff_ne]; exact hev
    obtain ⟨i, x, hat, hx, hxn⟩ := atV_some (HEW.out hev)
    have hda : dirAt s.inos EV = x.dir := by unfold dirAt; rw [hat, inoAt_nat, hx]
    have hen : entsOf s.inos EV = x.ents := by unfold entsOf; rw [hat, inoAt_nat, hx]
    have hr := HR8.out
    rw [if_neg hev, hda, hen] at hr
    have HR7 := Lib.hid hr
    have HAT := Lib.hid hat
    have hin : i < n4 := by have := (List.getElem?_eq_some_iff.1 hx).1; have := HI4.out.1; omega
    obtain ⟨g, og, x', E3, m3, d3, hA1, hg, hx', _, hmem, e0, e1, e2, hok3, hE3, e3⟩ := HI4.out.get i hin
    subst hA1
    have ex : x' = x := by rw [hx] at hx'; exact (Option.some.inj hx').symm
    subst ex
    have i0 : (0 : Int) ≤ (i : Int) := by omega
    have i1 : (i : Int) < (n4 : Int) := by omega
    have hml := hE3.1
    clear hr hat hx hx' hmem hda hen hok3 hE3 hev hxn
    have hX : True := trivial
    go_upto_region 9 with fail
    go_cut [9] (fun pv wx => ∃ b, pv = .pointer (some ⟨b, 0, .none⟩) ∧ wx.heap[b]? = some (.cells #[.int .i64 x'.num, .bool x'.dir, .slice E3 m3 d3, .string x'.data] 52 (0, 0)) ∧ Below Z4.heap.size Z4 wx)
    case first =>
     have nA : Z4.heap.size ≠ p := by omega
     have nB : Z4.heap.size ≠ g := by omega
     go_region_held3 (fun w' => w'.cell? ⟨p, 0, none⟩ = some (.slice (some ⟨g, og, none⟩) n4 cp4) ∧ w'.cell? ⟨p, 1, none⟩ = some (.slice E4 m4 d4) ∧ w'.cell? ⟨p, 2, none⟩ = some (.slice D4 k4 e4) ∧ w'.cell? ⟨g, og + i * 4, none⟩ = some (.int .i64 x'.num) ∧ w'.cell? ⟨g, og + i * 4 + 1, none⟩ = some (.bool x'.dir) ∧ w'.cell? ⟨g, og + i * 4 + 2, none⟩ = some (.slice E3 m3 d3) ∧ w'.cell? ⟨g, og + i * 4 + 3, none⟩ = some (.string x'.data))
      (go_keep)
      ((go_at_call 57; refine (at_any _ s EV _ (HST4.out.below (by first | exact Cv.drewN_below (Below.refl _ _) 1 | exact (Cv.drewN_below (Below.refl _ _) 1).alloc (by simp) _))).mono ?_; rintro e5 w5 ⟨rfl, hb5⟩; rw [HAT.out]; have hbw5 : Below Z4.heap.size Z4 w5 := (by first | exact Cv.next (Cv.drewN_below (Below.refl _ _) 1) hb5 | exact Cv.next ((Cv.drewN_below (Below.refl _ _) 1).alloc (by simp) _) hb5); have z0 := (hbw5.cell (p := ⟨p, 0, none⟩) hp4).trans p04; have z1 := (hbw5.cell (p := ⟨p, 1, none⟩) hp4).trans p14; have z2 := (hbw5.cell (p := ⟨p, 2, none⟩) hp4).trans p24; have f0 := (hbw5.cell (p := ⟨g, og + i * 4, none⟩) hg).trans e0; have f1 := (hbw5.cell (p := ⟨g, og + i * 4 + 1, none⟩) hg).trans e1; have f2 := (hbw5.cell (p := ⟨g, og + i * 4 + 2, none⟩) hg).trans e2; have f3 := (hbw5.cell (p := ⟨g, og + i * 4 + 3, none⟩) hg).trans e3; have hz5 := hbw5.size; have nC : w5.heap.size ≠ p := (by omega); have nD : w5.heap.size ≠ g := (by omega); (first | (have am := row_kept hb5 (al1 Z4 (.cells #[.int .i64 0, .bool false, .slice none 0 0, .string ⟨#[]⟩] 52)); obtain ⟨m0, m1, m2', m3', mf⟩ := row4 am; have HAM := Lib.hid am; clear am) | skip)))
     all_goals (
      go_wp2_with fail
      go_meet)
     ·exact ⟨w5.heap.size, rfl, row_new w5 _ _ rfl, hbw5.alloc hz5 _⟩
     ·exact ⟨Z4.heap.size, rfl, heap_setCell_same _ _ 3 _ _ _ (heap_setCell_same _ _ 2 _ _ _ (heap_setCell_same _ _ 1 _ _ _ (heap_setCell_same _ _ 0 _ _ _ HAM.out))), (((hbw5.setCell (Nat.le_refl _) _).setCell (Nat.le_refl _) _).setCell (Nat.le_refl _) _).setCell (Nat.le_refl _) _⟩
    case rest =>
     obtain ⟨bx, rfl, hbx, hbb⟩ := hcut
     obtain ⟨b0, b1, b2, b3, _⟩ := row4 hbx
     generalize wc = Z5 at *
     have HF5 := Lib.hid (HF4.out.below hbb)
     clear hX hbx hbb e0 e1 e2 e3
     obtain ⟨A5, n5, cp5, E5, m5, d5, D5, k5, e5, hp5, hcl5, p05, p15, p25, pf5, hst5, hI5, hn5, c05, c15, c25, c35, c45, c55, c65, c75⟩ := HF5.out.vals
     have HST5 := Lib.hid hst5
     have HI5 := Lib.hid hI5
     clear hst5 hI5 pf5
     rw [HKD.out] at c05
     obtain ⟨DXX, hDXX⟩ : ∃ DXX, x'.dir = DXX := ⟨_, rfl⟩
     have hr := HR7.out
     rw [if_pos HKD.out] at hr
     have HR6 := Lib.hid hr
     have hzz := HZ.out
     rw [← hr] at hzz
     have HZZ := Lib.hid hzz
     clear hr hzz hDXX
     go_wp2_with fail
     have hlk := rename_any B p s c DR NM EV Z5 HF5.out.own (by have := HF5.out.hB; have := HF5.out.size; omega) HW.out hpz2 hns hdr (by rw [HAT.out]; omega) (HDEEP.out EV) HZZ.out
     unfold caV at hlk
     rw [HKD.out] at hlk
     refine hlk.mono ?_
     clear hlk
     rintro ex Z6 ⟨rfl, hox, hbx, hax⟩
     have HF6 := Lib.hid (HF5.out.step hox hbx hax)
     unfold resV
     clear hox hbx hax
     clear p05 p15 p25 c05 c15 c25 c35 c45 c55 c65 c75
     obtain ⟨g0, g1', g2', g3, g4, g5, gf, W9, hW9, HR5, HOF, HBF, HAS⟩ := HF6.out.fin (Below.refl _ _) (.int .i64 (renameV s c DR NM EV).2.code) (.int .i64 (renameV s c DR NM EV).2.fd) (.int .i64 (renameV s c DR NM EV).2.num) (.bool (renameV s c DR NM EV).2.dir) (.string (renameV s c DR NM EV).2.data) (.slice none 0 0)
     go_wp2_with fail
     (try simp only [Exit.inBlock, Exit.then])
     refine ret_res rfl HR5.out rfl rfl ?_
     exact ⟨by rw [← HR6.out]; rfl, by rw [← HR6.out]; exact HOF.out, HBF.out, HAS.out⟩
end Go.Proofs.YthhceopnnappgaaGreatDoor
