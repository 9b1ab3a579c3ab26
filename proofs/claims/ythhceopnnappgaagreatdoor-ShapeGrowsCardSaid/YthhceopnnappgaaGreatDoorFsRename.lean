/- rename of the document: by its contract (wip/gen_names.py). -/
import Derived.Test.YthhceopnnappgaaGreatDoorM13
set_option linter.unusedVariables false
set_option linter.unusedSimpArgs false
namespace Go.Proofs.YthhceopnnappgaaGreatDoor
open Go.RowKit
theorem atG_map (f : Ino → Ino) (hf : ∀ x, (f x).num = x.num) (num : Int) : ∀ (is : List Ino) (i k : Nat), atG (is.modify i f) num k = atG is num k
 | [], i, k => by simp
 | x :: xs, 0, k => by
  show atG (f x :: xs) num k = atG (x :: xs) num k
  unfold atG
  rw [hf]
 | x :: xs, i + 1, k => by
  show atG (x :: xs.modify i f) num k = atG (x :: xs) num k
  unfold atG
  rw [atG_map f hf num xs i (k + 1)]
theorem atV_setEnts (is : List Ino) (d : Int) (f : List En → List En) (num : Int) : atV (setEnts is d f) num = atV is num := atG_map (fun x => { x with ents := f x.ents }) (fun _ => rfl) num is _ 0
theorem bulkE_modify (f : List En → List En) (hf : ∀ es, (f es).length ≤ es.length) : ∀ (is : List Ino) (i : Nat), bulkE (is.modify i fun x => { x with ents := f x.ents }) ≤ bulkE is
 | [], _ => by simp
 | x :: xs, 0 => by
  have := hf x.ents
  show (f x.ents).length + bulkE xs ≤ x.ents.length + bulkE xs
  omega
 | x :: xs, i + 1 => by
  have := bulkE_modify f hf xs i
  show x.ents.length + bulkE (xs.modify i _) ≤ x.ents.length + bulkE xs
  omega
theorem modify_mem {α : Type} (f : α → α) : ∀ (l : List α) (i : Nat) (y : α), y ∈ l.modify i f → y ∈ l ∨ ∃ x ∈ l, y = f x
 | [], _, _, h => by simp at h
 | x :: xs, 0, y, h => by
  have h2 : y ∈ f x :: xs := h
  rcases List.mem_cons.1 h2 with rfl | h2
  ·exact .inr ⟨x, List.mem_cons_self, rfl⟩
  ·exact .inl (List.mem_cons_of_mem _ h2)
 | x :: xs, i + 1, y, h => by
  have h2 : y ∈ x :: xs.modify i f := h
  rcases List.mem_cons.1 h2 with rfl | h2
  ·exact .inl List.mem_cons_self
  ·rcases modify_mem f xs i y h2 with h3 | ⟨z, h3, h4⟩
   ·exact .inl (List.mem_cons_of_mem _ h3)
   ·exact .inr ⟨z, List.mem_cons_of_mem _ h3, h4⟩
theorem dropE_mem : ∀ (es : List En) (name : ByteArray) (e : En), e ∈ dropE es name → e ∈ es
 | [], _, _, h => by simp [dropE] at h
 | y :: es, name, e, h => by
  unfold dropE at h
  split at h
  ·exact List.mem_cons_of_mem _ (dropE_mem es name e h)
  ·rcases List.mem_cons.1 h with rfl | h
   ·exact List.mem_cons_self
   ·exact List.mem_cons_of_mem _ (dropE_mem es name e h)
theorem Sized.dropE {s : St} (h : Sized s) (dir : Int) (name : ByteArray) : Sized { s with inos := setEnts s.inos dir fun es => Go.Proofs.YthhceopnnappgaaGreatDoor.dropE es name } := by
 refine ⟨?_, fun x hx => ?_, ⟨fun x hx => ?_, h.nums.2⟩⟩
 ·have h1 := bulkE_modify (fun es => Go.Proofs.YthhceopnnappgaaGreatDoor.dropE es name) (fun es => dropE_len es name) s.inos (atV s.inos dir).toNat
  have := h.big
  have h2 : (setEnts s.inos dir fun es => Go.Proofs.YthhceopnnappgaaGreatDoor.dropE es name).length = s.inos.length := by unfold setEnts; rw [List.length_modify]
  have h3 : bulkE (setEnts s.inos dir fun es => Go.Proofs.YthhceopnnappgaaGreatDoor.dropE es name) ≤ bulkE s.inos := h1
  show (setEnts s.inos dir fun es => Go.Proofs.YthhceopnnappgaaGreatDoor.dropE es name).length + bulkE (setEnts s.inos dir fun es => Go.Proofs.YthhceopnnappgaaGreatDoor.dropE es name) + s.opn.length + s.made.length ≤ _
  omega
 ·rcases modify_mem _ _ _ _ hx with hx | ⟨z, hz, rfl⟩
  ·exact h.text x hx
  ·exact ⟨(h.text z hz).1, fun e he => (h.text z hz).2 e (dropE_mem _ _ _ he)⟩
 ·rcases modify_mem _ _ _ _ hx with hx | ⟨z, hz, rfl⟩
  ·exact h.nums.1 x hx
  ·exact ⟨(h.nums.1 z hz).1, (h.nums.1 z hz).2.1, fun e he => (h.nums.1 z hz).2.2 e (dropE_mem _ _ _ he)⟩
set_option maxRecDepth 100000 in
set_option maxHeartbeats 16000000 in
theorem rename_any (B p : Nat) (s : St) (c : Ca) (dir : Int) (name : ByteArray) (num : Int) (w : World) (h : Own B w p s) (hB : B ≤ w.heap.size) (hw : Whole s.inos) (hpz2 : c.path2.size ≤ 140737488355328) (hns : (parentV s.inos c.path2).2.1.size ≤ 140737488355328)
  (hdir : 0 ≤ atV s.inos dir) (hnum : 0 ≤ atV s.inos num) (hdeep : dirAt s.inos num = true → Deep s.inos (1 + s.inos.length) num) (hz : Sized (renameV s c dir name num).1) :
  Calls Tryz.prog 95 #[.pointer (some ⟨p, 0, .none⟩), caV c, .int .i64 dir, .string name, .int .i64 num] w fun e w' => e = .returned (resV (renameV s c dir name num).2) ∧ Own B w' p (renameV s c dir name num).1 ∧ Below B w w' ∧ Aside p w w' := by
 obtain ⟨LV, hLV⟩ : ∃ LV, renameV s c dir name num = LV := ⟨_, rfl⟩
 obtain ⟨⟨DR, NM, C2⟩, hPA⟩ : ∃ x, parentV s.inos c.path2 = x := ⟨_, rfl⟩
 obtain ⟨BT, hBT⟩ : ∃ BT, (if DR = dir then name else txt []) = BT := ⟨_, rfl⟩
 have hdr0 := parentV_dir s.inos c.path2
 rw [hLV] at hz ⊢
 unfold renameV at hLV
 rw [hPA] at hLV hns hdr0
 dsimp only at hLV hns hdr0
 rw [hBT] at hLV
 obtain ⟨i, x, hat, hx, hxn⟩ := atV_some hnum
 have hda : dirAt s.inos num = x.dir := by unfold dirAt; rw [hat, inoAt_nat, hx]
 rw [hda] at hLV hdeep
 obtain ⟨DX, hDX⟩ : ∃ DX, x.dir = DX := ⟨_, rfl⟩
 rw [hDX] at hLV hdeep
 obtain ⟨W, W2, hW, hW2, hsz1, hfr⟩ := Fr.start h hB c
 have HF := Lib.hid hfr
 clear h hfr
 obtain ⟨A, n, cp, E, m, d, D, k, e, hp, hcl, p0, p1, p2, pf, hst, hI, hn, c0, c1, c2, c3, c4, c5, c6, c7⟩ := HF.out.vals
 have HST := Lib.hid hst
 have HI := Lib.hid hI
 clear hst hI pf
 have HLV := Lib.hid hLV
 have HPA := Lib.hid hPA
 have HW := Lib.hid hw
 have HZ := Lib.hid hz
 have HDR0 := Lib.hid hdr0
 have HDIR := Lib.hid hdir
 have HNUM := Lib.hid hnum
 have HAT := Lib.hid hat
 have HX := Lib.hid hx
 have HDX := Lib.hid hDX
 have HDEEP := Lib.hid hdeep
 have HBT := Lib.hid hBT
 clear hLV hPA hw hz hdr0 hdir hnum hat hx hDX hdeep hda hBT hxn
 unfold caV
 go_enter Tryz.func95, Tryz.ntmps95
 go_wp2_with fail
 clear hW hW2
 have hX := @Ext.cell W2
 refine wre ?_
 repeat (go_big_quiet_step (first | (go_at_call 85; rename_i X; exact Calls.ext_of (by have := parent_any _ s c.path2 _ (HST.out.below X.bel) HW.out hpz2; rw [HPA.out] at this; dsimp only at this; exact this))))
 refine wpQuiet_nil ?_
 rintro w7 ⟨X, rfl⟩
 generalize hZe : X.w = Z1
 have hZ2 := hZe ▸ X.bel
 have HF1 := Lib.hid (HF.out.below hZ2)
 clear hZe X hX hZ2
 clear p0 p1 p2 c0 c1 c2 c3 c4 c5 c6 c7
 obtain ⟨A1, n1, cp1, E1, m1, d1, D1, k1, e1, hp1, hcl1, p01, p11, p21, pf1, hst1, hI1, hn1, c01, c11, c21, c31, c41, c51, c61, c71⟩ := HF1.out.vals
 have HST1 := Lib.hid hst1
 have HI1 := Lib.hid hI1
 clear hst1 hI1 pf1
 by_cases hdd : DR = dir
 ·have qd : (DR == dir) = true := by rw [beq_iff_eq]; exact hdd
  have hbt : name = BT := by rw [← HBT.out, if_pos hdd]
  subst hbt
  clear hdd
  by_cases hc2 : C2 = 0
  rotate_left
  ·have q1 : (C2 != 0) = true := by rw [bne_iff_ne]; exact hc2
   have hr := HLV.out
   rw [if_pos hc2] at hr
   have HR8 := Lib.hid hr
   clear hr hc2
   go_wp2_with fail
   refine (fail_any C2 _).mono ?_
   rintro e10 w10 ⟨rfl, hb10⟩
   obtain ⟨g0, g1', g2', g3, g4, g5, gf, W9, hW9, HR5, HOF, HBF, HAS⟩ := HF1.out.fin hb10 (.int .i64 C2) (.int .i64 0) (.int .i64 0) (.bool false) (.string ⟨#[]⟩) (.slice none 0 0)
   clear hb10
   go_wp2_with fail
   (try simp only [Exit.inBlock, Exit.then])
   refine ret_res rfl HR5.out rfl rfl ?_
   exact ⟨by rw [← HR8.out]; rfl, by rw [← HR8.out]; exact HOF.out, HBF.out, HAS.out⟩
  ·subst hc2
   have hdr := HDR0.out rfl
   have hr := HLV.out
   rw [if_neg (by decide)] at hr
   have hin : i < n1 := by have := (List.getElem?_eq_some_iff.1 HX.out).1; have := HI1.out.1; omega
   obtain ⟨g, og, x', E3, m3, d3, hA1, hg, hx', _, hmem, e0, e1, e2, _, _, e3⟩ := HI1.out.get i hin
   subst hA1
   have ex : x' = x := by have h1 := HX.out; rw [hx'] at h1; exact Option.some.inj h1
   subst ex
   rw [HDX.out] at e1
   have i0 : (0 : Int) ≤ (i : Int) := by omega
   have i1 : (i : Int) < (n1 : Int) := by omega
   obtain ⟨EV, hEV⟩ : ∃ EV, entV s.inos DR NM = EV := ⟨_, rfl⟩
   obtain ⟨FV, hFV⟩ : ∃ FV, fullV s.inos DR NM name = FV := ⟨_, rfl⟩
   obtain ⟨WI, hWI⟩ : ∃ WI, withinV s.inos DR num = WI := ⟨_, rfl⟩
   rw [hEV, hFV, hWI] at hr
   have HR := Lib.hid hr
   have HEV := Lib.hid hEV
   have HFV := Lib.hid hFV
   have HWI : Hid (withinF s.inos DR (1 + s.inos.length) num = WI) := Lib.hid hWI
   clear hr hEV hFV hWI hx' hmem
   cases DX
   ·go_wp2_with fail
    have hX := @Ext.cell Z1
    refine wre ?_
    repeat (go_big_quiet_step (first | (go_at_call 57; rename_i X; exact Calls.ext_of (by have := at_any _ s num _ (HST1.out.below X.bel); rw [HAT.out] at this; exact this))))
    refine wpQuiet_nil ?_
    rintro w7 ⟨X, rfl⟩
    generalize hZe : X.w = Z2
    have hZ2 := hZe ▸ X.bel
    have HF2 := Lib.hid (HF1.out.below hZ2)
    clear hZe X hX hZ2
    clear p01 p11 p21 c01 c11 c21 c31 c41 c51 c61 c71
    clear e0 e1 e2 e3
    obtain ⟨A2, n2, cp2, E2, m2, d2, D2, k2, e2, hp2, hcl2, p02, p12, p22, pf2, hst2, hI2, hn2, c02, c12, c22, c32, c42, c52, c62, c72⟩ := HF2.out.vals
    have HST2 := Lib.hid hst2
    have HI2 := Lib.hid hI2
    clear hst2 hI2 pf2
    go_wp2_with fail
    refine (entry_any _ s DR NM _ HST2.out).mono ?_
    rintro ex Z4 ⟨rfl, hbx⟩
    have HF4 := Lib.hid (HF2.out.below hbx)
    clear hbx
    clear p02 p12 p22 c02 c12 c22 c32 c42 c52 c62 c72
    obtain ⟨A4, n4, cp4, E4, m4, d4, D4, k4, e4, hp4, hcl4, p04, p14, p24, pf4, hst4, hI4, hn4, c04, c14, c24, c34, c44, c54, c64, c74⟩ := HF4.out.vals
    have HST4 := Lib.hid hst4
    have HI4 := Lib.hid hI4
    clear hst4 hI4 pf4
    rw [HEV.out]
    by_cases hev : EV = 0
    rotate_left
    ·have q1 : (EV != 0) = true := by rw [bne_iff_ne]; exact hev
     have hr := HR.out
     rw [if_neg (by simp), if_pos hev] at hr
     have HR7 := Lib.hid hr
     clear hr hev
     go_wp2_with fail
     refine (fail_any 2 _).mono ?_
     rintro e10 w10 ⟨rfl, hb10⟩
     obtain ⟨g0, g1', g2', g3, g4, g5, gf, W9, hW9, HR5, HOF, HBF, HAS⟩ := HF4.out.fin hb10 (.int .i64 2) (.int .i64 0) (.int .i64 0) (.bool false) (.string ⟨#[]⟩) (.slice none 0 0)
     clear hb10
     go_wp2_with fail
     (try simp only [Exit.inBlock, Exit.then])
     refine ret_res rfl HR5.out rfl rfl ?_
     exact ⟨by rw [← HR7.out]; rfl, by rw [← HR7.out]; exact HOF.out, HBF.out, HAS.out⟩
    ·subst hev
     have hr := HR.out
     rw [if_neg (by simp), if_neg (by simp)] at hr
     have HR7 := Lib.hid hr
     clear hr
     go_wp2_with fail
     refine (full_any _ s DR NM _ _ HST4.out hdr hns).mono ?_
     rintro ex Z5 ⟨rfl, hbx⟩
     have HF5 := Lib.hid (HF4.out.below hbx)
     clear hbx
     clear p04 p14 p24 c04 c14 c24 c34 c44 c54 c64 c74
     obtain ⟨A5, n5, cp5, E5, m5, d5, D5, k5, e5, hp5, hcl5, p05, p15, p25, pf5, hst5, hI5, hn5, c05, c15, c25, c35, c45, c55, c65, c75⟩ := HF5.out.vals
     have HST5 := Lib.hid hst5
     have HI5 := Lib.hid hI5
     clear hst5 hI5 pf5
     rw [show fullV s.inos DR NM name = FV from HFV.out]
     cases FV
     ·have hr := HR7.out
      rw [if_neg (by decide)] at hr
      have HR6 := Lib.hid hr
      have hzz := HZ.out
      rw [← hr] at hzz
      have HZZ := Lib.hid hzz
      have hdr2 : 0 ≤ atV (setEnts s.inos dir fun es => dropE es name) DR := by rw [atV_setEnts]; exact hdr
      have HDR2 := Lib.hid hdr2
      clear hr hzz hdr2
      go_wp2_with fail
      refine (drop_any B p s dir name Z5 HF5.out.own (by have := HF5.out.size; omega) HDIR.out (HF5.out.own.sized.dropE dir name)).mono ?_
      rintro ex Z6 ⟨rfl, hox, hbx, hax⟩
      have HF6 := Lib.hid (HF5.out.step hox hbx hax)
      clear hox hbx hax
      clear p05 p15 p25 c05 c15 c25 c35 c45 c55 c65 c75
      go_wp2_with fail
      refine (put_any B p _ DR NM num Z6 HF6.out.own (by have := HF6.out.size; omega) HDR2.out hns HZZ.out).mono ?_
      rintro ex Z7 ⟨rfl, hox, hbx, hax⟩
      have HF7 := Lib.hid (HF6.out.step hox hbx hax)
      clear hox hbx hax
      go_wp2_with fail
      refine (fail_any 0 _).mono ?_
      rintro e10 w10 ⟨rfl, hb10⟩
      obtain ⟨g0, g1', g2', g3, g4, g5, gf, W9, hW9, HR5, HOF, HBF, HAS⟩ := HF7.out.fin hb10 (.int .i64 0) (.int .i64 0) (.int .i64 0) (.bool false) (.string ⟨#[]⟩) (.slice none 0 0)
      clear hb10
      go_wp2_with fail
      (try simp only [Exit.inBlock, Exit.then])
      refine ret_res rfl HR5.out rfl rfl ?_
      exact ⟨by rw [← HR6.out]; rfl, by rw [← HR6.out]; exact HOF.out, HBF.out, HAS.out⟩
     ·have hr := HR7.out
      rw [if_pos rfl] at hr
      have HR6 := Lib.hid hr
      clear hr
      go_wp2_with fail
      refine (fail_any 5 _).mono ?_
      rintro e10 w10 ⟨rfl, hb10⟩
      obtain ⟨g0, g1', g2', g3, g4, g5, gf, W9, hW9, HR5, HOF, HBF, HAS⟩ := HF5.out.fin hb10 (.int .i64 5) (.int .i64 0) (.int .i64 0) (.bool false) (.string ⟨#[]⟩) (.slice none 0 0)
      clear hb10
      go_wp2_with fail
      (try simp only [Exit.inBlock, Exit.then])
      refine ret_res rfl HR5.out rfl rfl ?_
      exact ⟨by rw [← HR6.out]; rfl, by rw [← HR6.out]; exact HOF.out, HBF.out, HAS.out⟩
   ·have HDP := Lib.hid (HDEEP.out rfl)
    clear HDEEP
    go_wp2_with fail
    have hX := @Ext.cell Z1
    refine wre ?_
    repeat (go_big_quiet_step (first | (go_at_call 57; rename_i X; exact Calls.ext_of (by have := at_any _ s num _ (HST1.out.below X.bel); rw [HAT.out] at this; exact this)) | (go_at_call 114; rename_i X; exact Calls.ext_of (by have := within_deep s HW.out DR _ num _ _ (HST1.out.below X.bel) HNUM.out HDP.out; rw [HWI.out] at this; exact this))))
    refine wpQuiet_nil ?_
    rintro w7 ⟨X, rfl⟩
    generalize hZe : X.w = Z2
    have hZ2 := hZe ▸ X.bel
    have HF2 := Lib.hid (HF1.out.below hZ2)
    clear hZe X hX hZ2
    clear p01 p11 p21 c01 c11 c21 c31 c41 c51 c61 c71
    cases WI
    ·clear e0 e1 e2 e3
     obtain ⟨A2, n2, cp2, E2, m2, d2, D2, k2, e2, hp2, hcl2, p02, p12, p22, pf2, hst2, hI2, hn2, c02, c12, c22, c32, c42, c52, c62, c72⟩ := HF2.out.vals
     have HST2 := Lib.hid hst2
     have HI2 := Lib.hid hI2
     clear hst2 hI2 pf2
     go_wp2_with fail
     refine (entry_any _ s DR NM _ HST2.out).mono ?_
     rintro ex Z4 ⟨rfl, hbx⟩
     have HF4 := Lib.hid (HF2.out.below hbx)
     clear hbx
     clear p02 p12 p22 c02 c12 c22 c32 c42 c52 c62 c72
     obtain ⟨A4, n4, cp4, E4, m4, d4, D4, k4, e4, hp4, hcl4, p04, p14, p24, pf4, hst4, hI4, hn4, c04, c14, c24, c34, c44, c54, c64, c74⟩ := HF4.out.vals
     have HST4 := Lib.hid hst4
     have HI4 := Lib.hid hI4
     clear hst4 hI4 pf4
     rw [HEV.out]
     by_cases hev : EV = 0
     rotate_left
     ·have q1 : (EV != 0) = true := by rw [bne_iff_ne]; exact hev
      have hr := HR.out
      rw [if_neg (by simp), if_pos hev] at hr
      have HR7 := Lib.hid hr
      clear hr hev
      go_wp2_with fail
      refine (fail_any 2 _).mono ?_
      rintro e10 w10 ⟨rfl, hb10⟩
      obtain ⟨g0, g1', g2', g3, g4, g5, gf, W9, hW9, HR5, HOF, HBF, HAS⟩ := HF4.out.fin hb10 (.int .i64 2) (.int .i64 0) (.int .i64 0) (.bool false) (.string ⟨#[]⟩) (.slice none 0 0)
      clear hb10
      go_wp2_with fail
      (try simp only [Exit.inBlock, Exit.then])
      refine ret_res rfl HR5.out rfl rfl ?_
      exact ⟨by rw [← HR7.out]; rfl, by rw [← HR7.out]; exact HOF.out, HBF.out, HAS.out⟩
     ·subst hev
      have hr := HR.out
      rw [if_neg (by simp), if_neg (by simp)] at hr
      have HR7 := Lib.hid hr
      clear hr
      go_wp2_with fail
      refine (full_any _ s DR NM _ _ HST4.out hdr hns).mono ?_
      rintro ex Z5 ⟨rfl, hbx⟩
      have HF5 := Lib.hid (HF4.out.below hbx)
      clear hbx
      clear p04 p14 p24 c04 c14 c24 c34 c44 c54 c64 c74
      obtain ⟨A5, n5, cp5, E5, m5, d5, D5, k5, e5, hp5, hcl5, p05, p15, p25, pf5, hst5, hI5, hn5, c05, c15, c25, c35, c45, c55, c65, c75⟩ := HF5.out.vals
      have HST5 := Lib.hid hst5
      have HI5 := Lib.hid hI5
      clear hst5 hI5 pf5
      rw [show fullV s.inos DR NM name = FV from HFV.out]
      cases FV
      ·have hr := HR7.out
       rw [if_neg (by decide)] at hr
       have HR6 := Lib.hid hr
       have hzz := HZ.out
       rw [← hr] at hzz
       have HZZ := Lib.hid hzz
       have hdr2 : 0 ≤ atV (setEnts s.inos dir fun es => dropE es name) DR := by rw [atV_setEnts]; exact hdr
       have HDR2 := Lib.hid hdr2
       clear hr hzz hdr2
       go_wp2_with fail
       refine (drop_any B p s dir name Z5 HF5.out.own (by have := HF5.out.size; omega) HDIR.out (HF5.out.own.sized.dropE dir name)).mono ?_
       rintro ex Z6 ⟨rfl, hox, hbx, hax⟩
       have HF6 := Lib.hid (HF5.out.step hox hbx hax)
       clear hox hbx hax
       clear p05 p15 p25 c05 c15 c25 c35 c45 c55 c65 c75
       go_wp2_with fail
       refine (put_any B p _ DR NM num Z6 HF6.out.own (by have := HF6.out.size; omega) HDR2.out hns HZZ.out).mono ?_
       rintro ex Z7 ⟨rfl, hox, hbx, hax⟩
       have HF7 := Lib.hid (HF6.out.step hox hbx hax)
       clear hox hbx hax
       go_wp2_with fail
       refine (fail_any 0 _).mono ?_
       rintro e10 w10 ⟨rfl, hb10⟩
       obtain ⟨g0, g1', g2', g3, g4, g5, gf, W9, hW9, HR5, HOF, HBF, HAS⟩ := HF7.out.fin hb10 (.int .i64 0) (.int .i64 0) (.int .i64 0) (.bool false) (.string ⟨#[]⟩) (.slice none 0 0)
       clear hb10
       go_wp2_with fail
       (try simp only [Exit.inBlock, Exit.then])
       refine ret_res rfl HR5.out rfl rfl ?_
       exact ⟨by rw [← HR6.out]; rfl, by rw [← HR6.out]; exact HOF.out, HBF.out, HAS.out⟩
      ·have hr := HR7.out
       rw [if_pos rfl] at hr
       have HR6 := Lib.hid hr
       clear hr
       go_wp2_with fail
       refine (fail_any 5 _).mono ?_
       rintro e10 w10 ⟨rfl, hb10⟩
       obtain ⟨g0, g1', g2', g3, g4, g5, gf, W9, hW9, HR5, HOF, HBF, HAS⟩ := HF5.out.fin hb10 (.int .i64 5) (.int .i64 0) (.int .i64 0) (.bool false) (.string ⟨#[]⟩) (.slice none 0 0)
       clear hb10
       go_wp2_with fail
       (try simp only [Exit.inBlock, Exit.then])
       refine ret_res rfl HR5.out rfl rfl ?_
       exact ⟨by rw [← HR6.out]; rfl, by rw [← HR6.out]; exact HOF.out, HBF.out, HAS.out⟩
    ·have hr := HR.out
     rw [if_pos (by simp)] at hr
     have HR7 := Lib.hid hr
     clear hr e0 e1 e2 e3
     go_wp2_with fail
     refine (fail_any 9 _).mono ?_
     rintro e10 w10 ⟨rfl, hb10⟩
     obtain ⟨g0, g1', g2', g3, g4, g5, gf, W9, hW9, HR5, HOF, HBF, HAS⟩ := HF2.out.fin hb10 (.int .i64 9) (.int .i64 0) (.int .i64 0) (.bool false) (.string ⟨#[]⟩) (.slice none 0 0)
     clear hb10
     go_wp2_with fail
     (try simp only [Exit.inBlock, Exit.then])
     refine ret_res rfl HR5.out rfl rfl ?_
     exact ⟨by rw [← HR7.out]; rfl, by rw [← HR7.out]; exact HOF.out, HBF.out, HAS.out⟩
 ·have qd : (DR == dir) = false := by rw [beq_eq_false_iff_ne]; exact hdd
  have hbt : BT = ⟨#[]⟩ := by rw [← HBT.out, if_neg hdd]; rfl
  subst hbt
  clear hdd
  by_cases hc2 : C2 = 0
  rotate_left
  ·have q1 : (C2 != 0) = true := by rw [bne_iff_ne]; exact hc2
   have hr := HLV.out
   rw [if_pos hc2] at hr
   have HR8 := Lib.hid hr
   clear hr hc2
   go_wp2_with fail
   refine (fail_any C2 _).mono ?_
   rintro e10 w10 ⟨rfl, hb10⟩
   obtain ⟨g0, g1', g2', g3, g4, g5, gf, W9, hW9, HR5, HOF, HBF, HAS⟩ := HF1.out.fin hb10 (.int .i64 C2) (.int .i64 0) (.int .i64 0) (.bool false) (.string ⟨#[]⟩) (.slice none 0 0)
   clear hb10
   go_wp2_with fail
   (try simp only [Exit.inBlock, Exit.then])
   refine ret_res rfl HR5.out rfl rfl ?_
   exact ⟨by rw [← HR8.out]; rfl, by rw [← HR8.out]; exact HOF.out, HBF.out, HAS.out⟩
  ·subst hc2
   have hdr := HDR0.out rfl
   have hr := HLV.out
   rw [if_neg (by decide)] at hr
   have hin : i < n1 := by have := (List.getElem?_eq_some_iff.1 HX.out).1; have := HI1.out.1; omega
   obtain ⟨g, og, x', E3, m3, d3, hA1, hg, hx', _, hmem, e0, e1, e2, _, _, e3⟩ := HI1.out.get i hin
   subst hA1
   have ex : x' = x := by have h1 := HX.out; rw [hx'] at h1; exact Option.some.inj h1
   subst ex
   rw [HDX.out] at e1
   have i0 : (0 : Int) ≤ (i : Int) := by omega
   have i1 : (i : Int) < (n1 : Int) := by omega
   obtain ⟨EV, hEV⟩ : ∃ EV, entV s.inos DR NM = EV := ⟨_, rfl⟩
   obtain ⟨FV, hFV⟩ : ∃ FV, fullV s.inos DR NM ⟨#[]⟩ = FV := ⟨_, rfl⟩
   obtain ⟨WI, hWI⟩ : ∃ WI, withinV s.inos DR num = WI := ⟨_, rfl⟩
   rw [hEV, hFV, hWI] at hr
   have HR := Lib.hid hr
   have HEV := Lib.hid hEV
   have HFV := Lib.hid hFV
   have HWI : Hid (withinF s.inos DR (1 + s.inos.length) num = WI) := Lib.hid hWI
   clear hr hEV hFV hWI hx' hmem
   cases DX
   ·go_wp2_with fail
    have hX := @Ext.cell Z1
    refine wre ?_
    repeat (go_big_quiet_step (first | (go_at_call 57; rename_i X; exact Calls.ext_of (by have := at_any _ s num _ (HST1.out.below X.bel); rw [HAT.out] at this; exact this))))
    refine wpQuiet_nil ?_
    rintro w7 ⟨X, rfl⟩
    generalize hZe : X.w = Z2
    have hZ2 := hZe ▸ X.bel
    have HF2 := Lib.hid (HF1.out.below hZ2)
    clear hZe X hX hZ2
    clear p01 p11 p21 c01 c11 c21 c31 c41 c51 c61 c71
    clear e0 e1 e2 e3
    obtain ⟨A2, n2, cp2, E2, m2, d2, D2, k2, e2, hp2, hcl2, p02, p12, p22, pf2, hst2, hI2, hn2, c02, c12, c22, c32, c42, c52, c62, c72⟩ := HF2.out.vals
    have HST2 := Lib.hid hst2
    have HI2 := Lib.hid hI2
    clear hst2 hI2 pf2
    go_wp2_with fail
    refine (entry_any _ s DR NM _ HST2.out).mono ?_
    rintro ex Z4 ⟨rfl, hbx⟩
    have HF4 := Lib.hid (HF2.out.below hbx)
    clear hbx
    clear p02 p12 p22 c02 c12 c22 c32 c42 c52 c62 c72
    obtain ⟨A4, n4, cp4, E4, m4, d4, D4, k4, e4, hp4, hcl4, p04, p14, p24, pf4, hst4, hI4, hn4, c04, c14, c24, c34, c44, c54, c64, c74⟩ := HF4.out.vals
    have HST4 := Lib.hid hst4
    have HI4 := Lib.hid hI4
    clear hst4 hI4 pf4
    rw [HEV.out]
    by_cases hev : EV = 0
    rotate_left
    ·have q1 : (EV != 0) = true := by rw [bne_iff_ne]; exact hev
     have hr := HR.out
     rw [if_neg (by simp), if_pos hev] at hr
     have HR7 := Lib.hid hr
     clear hr hev
     go_wp2_with fail
     refine (fail_any 2 _).mono ?_
     rintro e10 w10 ⟨rfl, hb10⟩
     obtain ⟨g0, g1', g2', g3, g4, g5, gf, W9, hW9, HR5, HOF, HBF, HAS⟩ := HF4.out.fin hb10 (.int .i64 2) (.int .i64 0) (.int .i64 0) (.bool false) (.string ⟨#[]⟩) (.slice none 0 0)
     clear hb10
     go_wp2_with fail
     (try simp only [Exit.inBlock, Exit.then])
     refine ret_res rfl HR5.out rfl rfl ?_
     exact ⟨by rw [← HR7.out]; rfl, by rw [← HR7.out]; exact HOF.out, HBF.out, HAS.out⟩
    ·subst hev
     have hr := HR.out
     rw [if_neg (by simp), if_neg (by simp)] at hr
     have HR7 := Lib.hid hr
     clear hr
     go_wp2_with fail
     refine (full_any _ s DR NM _ _ HST4.out hdr hns).mono ?_
     rintro ex Z5 ⟨rfl, hbx⟩
     have HF5 := Lib.hid (HF4.out.below hbx)
     clear hbx
     clear p04 p14 p24 c04 c14 c24 c34 c44 c54 c64 c74
     obtain ⟨A5, n5, cp5, E5, m5, d5, D5, k5, e5, hp5, hcl5, p05, p15, p25, pf5, hst5, hI5, hn5, c05, c15, c25, c35, c45, c55, c65, c75⟩ := HF5.out.vals
     have HST5 := Lib.hid hst5
     have HI5 := Lib.hid hI5
     clear hst5 hI5 pf5
     rw [show fullV s.inos DR NM ⟨#[]⟩ = FV from HFV.out]
     cases FV
     ·have hr := HR7.out
      rw [if_neg (by decide)] at hr
      have HR6 := Lib.hid hr
      have hzz := HZ.out
      rw [← hr] at hzz
      have HZZ := Lib.hid hzz
      have hdr2 : 0 ≤ atV (setEnts s.inos dir fun es => dropE es name) DR := by rw [atV_setEnts]; exact hdr
      have HDR2 := Lib.hid hdr2
      clear hr hzz hdr2
      go_wp2_with fail
      refine (drop_any B p s dir name Z5 HF5.out.own (by have := HF5.out.size; omega) HDIR.out (HF5.out.own.sized.dropE dir name)).mono ?_
      rintro ex Z6 ⟨rfl, hox, hbx, hax⟩
      have HF6 := Lib.hid (HF5.out.step hox hbx hax)
      clear hox hbx hax
      clear p05 p15 p25 c05 c15 c25 c35 c45 c55 c65 c75
      go_wp2_with fail
      refine (put_any B p _ DR NM num Z6 HF6.out.own (by have := HF6.out.size; omega) HDR2.out hns HZZ.out).mono ?_
      rintro ex Z7 ⟨rfl, hox, hbx, hax⟩
      have HF7 := Lib.hid (HF6.out.step hox hbx hax)
      clear hox hbx hax
      go_wp2_with fail
      refine (fail_any 0 _).mono ?_
      rintro e10 w10 ⟨rfl, hb10⟩
      obtain ⟨g0, g1', g2', g3, g4, g5, gf, W9, hW9, HR5, HOF, HBF, HAS⟩ := HF7.out.fin hb10 (.int .i64 0) (.int .i64 0) (.int .i64 0) (.bool false) (.string ⟨#[]⟩) (.slice none 0 0)
      clear hb10
      go_wp2_with fail
      (try simp only [Exit.inBlock, Exit.then])
      refine ret_res rfl HR5.out rfl rfl ?_
      exact ⟨by rw [← HR6.out]; rfl, by rw [← HR6.out]; exact HOF.out, HBF.out, HAS.out⟩
     ·have hr := HR7.out
      rw [if_pos rfl] at hr
      have HR6 := Lib.hid hr
      clear hr
      go_wp2_with fail
      refine (fail_any 5 _).mono ?_
      rintro e10 w10 ⟨rfl, hb10⟩
      obtain ⟨g0, g1', g2', g3, g4, g5, gf, W9, hW9, HR5, HOF, HBF, HAS⟩ := HF5.out.fin hb10 (.int .i64 5) (.int .i64 0) (.int .i64 0) (.bool false) (.string ⟨#[]⟩) (.slice none 0 0)
      clear hb10
      go_wp2_with fail
      (try simp only [Exit.inBlock, Exit.then])
      refine ret_res rfl HR5.out rfl rfl ?_
      exact ⟨by rw [← HR6.out]; rfl, by rw [← HR6.out]; exact HOF.out, HBF.out, HAS.out⟩
   ·have HDP := Lib.hid (HDEEP.out rfl)
    clear HDEEP
    go_wp2_with fail
    have hX := @Ext.cell Z1
    refine wre ?_
    repeat (go_big_quiet_step (first | (go_at_call 57; rename_i X; exact Calls.ext_of (by have := at_any _ s num _ (HST1.out.below X.bel); rw [HAT.out] at this; exact this)) | (go_at_call 114; rename_i X; exact Calls.ext_of (by have := within_deep s HW.out DR _ num _ _ (HST1.out.below X.bel) HNUM.out HDP.out; rw [HWI.out] at this; exact this))))
    refine wpQuiet_nil ?_
    rintro w7 ⟨X, rfl⟩
    generalize hZe : X.w = Z2
    have hZ2 := hZe ▸ X.bel
    have HF2 := Lib.hid (HF1.out.below hZ2)
    clear hZe X hX hZ2
    clear p01 p11 p21 c01 c11 c21 c31 c41 c51 c61 c71
    cases WI
    ·clear e0 e1 e2 e3
     obtain ⟨A2, n2, cp2, E2, m2, d2, D2, k2, e2, hp2, hcl2, p02, p12, p22, pf2, hst2, hI2, hn2, c02, c12, c22, c32, c42, c52, c62, c72⟩ := HF2.out.vals
     have HST2 := Lib.hid hst2
     have HI2 := Lib.hid hI2
     clear hst2 hI2 pf2
     go_wp2_with fail
     refine (entry_any _ s DR NM _ HST2.out).mono ?_
     rintro ex Z4 ⟨rfl, hbx⟩
     have HF4 := Lib.hid (HF2.out.below hbx)
     clear hbx
     clear p02 p12 p22 c02 c12 c22 c32 c42 c52 c62 c72
     obtain ⟨A4, n4, cp4, E4, m4, d4, D4, k4, e4, hp4, hcl4, p04, p14, p24, pf4, hst4, hI4, hn4, c04, c14, c24, c34, c44, c54, c64, c74⟩ := HF4.out.vals
     have HST4 := Lib.hid hst4
     have HI4 := Lib.hid hI4
     clear hst4 hI4 pf4
     rw [HEV.out]
     by_cases hev : EV = 0
     rotate_left
     ·have q1 : (EV != 0) = true := by rw [bne_iff_ne]; exact hev
      have hr := HR.out
      rw [if_neg (by simp), if_pos hev] at hr
      have HR7 := Lib.hid hr
      clear hr hev
      go_wp2_with fail
      refine (fail_any 2 _).mono ?_
      rintro e10 w10 ⟨rfl, hb10⟩
      obtain ⟨g0, g1', g2', g3, g4, g5, gf, W9, hW9, HR5, HOF, HBF, HAS⟩ := HF4.out.fin hb10 (.int .i64 2) (.int .i64 0) (.int .i64 0) (.bool false) (.string ⟨#[]⟩) (.slice none 0 0)
      clear hb10
      go_wp2_with fail
      (try simp only [Exit.inBlock, Exit.then])
      refine ret_res rfl HR5.out rfl rfl ?_
      exact ⟨by rw [← HR7.out]; rfl, by rw [← HR7.out]; exact HOF.out, HBF.out, HAS.out⟩
     ·subst hev
      have hr := HR.out
      rw [if_neg (by simp), if_neg (by simp)] at hr
      have HR7 := Lib.hid hr
      clear hr
      go_wp2_with fail
      refine (full_any _ s DR NM _ _ HST4.out hdr hns).mono ?_
      rintro ex Z5 ⟨rfl, hbx⟩
      have HF5 := Lib.hid (HF4.out.below hbx)
      clear hbx
      clear p04 p14 p24 c04 c14 c24 c34 c44 c54 c64 c74
      obtain ⟨A5, n5, cp5, E5, m5, d5, D5, k5, e5, hp5, hcl5, p05, p15, p25, pf5, hst5, hI5, hn5, c05, c15, c25, c35, c45, c55, c65, c75⟩ := HF5.out.vals
      have HST5 := Lib.hid hst5
      have HI5 := Lib.hid hI5
      clear hst5 hI5 pf5
      rw [show fullV s.inos DR NM ⟨#[]⟩ = FV from HFV.out]
      cases FV
      ·have hr := HR7.out
       rw [if_neg (by decide)] at hr
       have HR6 := Lib.hid hr
       have hzz := HZ.out
       rw [← hr] at hzz
       have HZZ := Lib.hid hzz
       have hdr2 : 0 ≤ atV (setEnts s.inos dir fun es => dropE es name) DR := by rw [atV_setEnts]; exact hdr
       have HDR2 := Lib.hid hdr2
       clear hr hzz hdr2
       go_wp2_with fail
       refine (drop_any B p s dir name Z5 HF5.out.own (by have := HF5.out.size; omega) HDIR.out (HF5.out.own.sized.dropE dir name)).mono ?_
       rintro ex Z6 ⟨rfl, hox, hbx, hax⟩
       have HF6 := Lib.hid (HF5.out.step hox hbx hax)
       clear hox hbx hax
       clear p05 p15 p25 c05 c15 c25 c35 c45 c55 c65 c75
       go_wp2_with fail
       refine (put_any B p _ DR NM num Z6 HF6.out.own (by have := HF6.out.size; omega) HDR2.out hns HZZ.out).mono ?_
       rintro ex Z7 ⟨rfl, hox, hbx, hax⟩
       have HF7 := Lib.hid (HF6.out.step hox hbx hax)
       clear hox hbx hax
       go_wp2_with fail
       refine (fail_any 0 _).mono ?_
       rintro e10 w10 ⟨rfl, hb10⟩
       obtain ⟨g0, g1', g2', g3, g4, g5, gf, W9, hW9, HR5, HOF, HBF, HAS⟩ := HF7.out.fin hb10 (.int .i64 0) (.int .i64 0) (.int .i64 0) (.bool false) (.string ⟨#[]⟩) (.slice none 0 0)
       clear hb10
       go_wp2_with fail
       (try simp only [Exit.inBlock, Exit.then])
       refine ret_res rfl HR5.out rfl rfl ?_
       exact ⟨by rw [← HR6.out]; rfl, by rw [← HR6.out]; exact HOF.out, HBF.out, HAS.out⟩
      ·have hr := HR7.out
       rw [if_pos rfl] at hr
       have HR6 := Lib.hid hr
       clear hr
       go_wp2_with fail
       refine (fail_any 5 _).mono ?_
       rintro e10 w10 ⟨rfl, hb10⟩
       obtain ⟨g0, g1', g2', g3, g4, g5, gf, W9, hW9, HR5, HOF, HBF, HAS⟩ := HF5.out.fin hb10 (.int .i64 5) (.int .i64 0) (.int .i64 0) (.bool false) (.string ⟨#[]⟩) (.slice none 0 0)
       clear hb10
       go_wp2_with fail
       (try simp only [Exit.inBlock, Exit.then])
       refine ret_res rfl HR5.out rfl rfl ?_
       exact ⟨by rw [← HR6.out]; rfl, by rw [← HR6.out]; exact HOF.out, HBF.out, HAS.out⟩
    ·have hr := HR.out
     rw [if_pos (by simp)] at hr
     have HR7 := Lib.hid hr
     clear hr e0 e1 e2 e3
     go_wp2_with fail
     refine (fail_any 9 _).mono ?_
     rintro e10 w10 ⟨rfl, hb10⟩
     obtain ⟨g0, g1', g2', g3, g4, g5, gf, W9, hW9, HR5, HOF, HBF, HAS⟩ := HF2.out.fin hb10 (.int .i64 9) (.int .i64 0) (.int .i64 0) (.bool false) (.string ⟨#[]⟩) (.slice none 0 0)
     clear hb10
     go_wp2_with fail
     (try simp only [Exit.inBlock, Exit.then])
     refine ret_res rfl HR5.out rfl rfl ?_
     exact ⟨by rw [← HR7.out]; rfl, by rw [← HR7.out]; exact HOF.out, HBF.out, HAS.out⟩
end Go.Proofs.YthhceopnnappgaaGreatDoor
