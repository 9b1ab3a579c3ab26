/- byFd of the document, kind by kind: Truncate and Write (wip/gen_byfd3.py). -/
import Derived.Test.YthhceopnnappgaaGreatDoorFsByFd
set_option linter.unusedVariables false
set_option linter.unusedSimpArgs false
namespace Go.Proofs.YthhceopnnappgaaGreatDoor
open Go.RowKit
set_option maxRecDepth 100000 in
set_option maxHeartbeats 16000000 in
theorem byfd_trunc_bad (B p : Nat) (s : St) (core fd off num : Int) (path path2 data : ByteArray) (NU : Int) (i : Nat) (x : Ino) (w : World) (h : Own B w p s) (hB : B ≤ w.heap.size) (hfd : fdV s.opn core fd = NU) (hnu : NU ≠ 0) (hat : atV s.inos NU = (i : Int)) (hx : s.inos[i]? = some x) (hbad : num < 0 ∨ 256 < num) :
  Calls Tryz.prog 68 #[.pointer (some ⟨p, 0, .none⟩), caV ⟨6, core, fd, off, num, path, path2, data⟩] w fun e w' => e = .returned (resV { code := 9 }) ∧ Own B w' p s ∧ Below B w w' ∧ Aside p w w' := by
 obtain ⟨W, W2, hW, hW2, hsz1, hfr, hb2⟩ := Fr.begin h hB ⟨6, core, fd, off, num, path, path2, data⟩
 obtain ⟨A0, n0, cp0, E0, m0, d0, D0, k0', e0', hp, -, x0, x1, x2, -, hst, -, -, k0, k1, k2, k3, k4, -, -, k7⟩ := hfr.vals
 have HF := Lib.hid hfr
 have HST := Lib.hid hst
 have HB2 := Lib.hid hb2
 have HFD := Lib.hid hfd
 have hps := hfr.hp
 have HAT := Lib.hid hat
 have HX := Lib.hid hx
 clear hat hx
 clear h hst hfd hfr hb2
 unfold caV
 go_enter Tryz.func68, Tryz.ntmps68
 go_wp2_with fail
 clear hW hW2
 refine wre ?_
 have hX := @Ext.cell W2
 repeat (go_big_quiet_step (first | (go_at_call 90; rename_i X; exact Calls.ext_of (by have := fd_any _ s core fd _ (HST.out.below X.bel); rw [HFD.out] at this; exact this))))
 refine wpQuiet_nil ?_
 rintro w7 ⟨X, rfl⟩
 generalize hZe : X.w = Z1
 have hZ1 := hZe ▸ X.bel
 clear x0 x1 x2 k0 k1 k2 k3 k4 k7
 have HF1 := Lib.hid (HF.out.below hZ1)
 obtain  ⟨A, n, cp, E, m, d, D, k, e, hp1, -, y0, y1, y2, -, hst, hI, -, l0, l1, l2, l3, l4, -, -, l7⟩ := HF1.out.vals
 have HB3 := Lib.hid (Cv.next HB2.out hZ1)
 have HO1 := Lib.hid HF1.out.own
 have HR1 := Lib.hid (show ResAt Z1 W.heap.size _ _ _ _ _ _ from by rw [hsz1]; exact HF1.out.res)
 have HS1 := Lib.hid hst
 have HI1 := Lib.hid hI
 clear hZe X hX hZ1 hst hI
 have q0 : (NU == 0) = false := by rw [beq_eq_false_iff_ne]; exact hnu
 go_wp2_with fail
 have hin : i < n := by have := (List.getElem?_eq_some_iff.1 HX.out).1; have := HI1.out.1; omega
 obtain ⟨g, og, x', E3, m3, d3, rfl, hg, hx', _, hmem, e0, e1, e2, _, _, e3⟩ := HI1.out.get i hin
 have ex : x' = x := by have h1 := HX.out; rw [hx'] at h1; exact Option.some.inj h1
 subst ex
 have i0 : (0 : Int) ≤ (i : Int) := by omega
 have i1 : (i : Int) < (n : Int) := by omega
 have hX := @Ext.cell Z1
 clear hx' hmem
 refine wre ?_
 repeat (go_big_quiet_step (first | (go_at_call 57; rename_i X; exact Calls.ext_of (by have := at_any _ s NU _ (HS1.out.below X.bel); rw [HAT.out] at this; exact this))))
 refine wpQuiet_nil ?_
 rintro w8 ⟨X, rfl⟩
 generalize hZe : X.w = Z2
 have hZ2 := hZe ▸ X.bel
 have HF2 := Lib.hid (HF1.out.below hZ2)
 have z0 := (hZ2.cell (p := ⟨p, 0, .none⟩) hp1).trans y0
 have z1 := (hZ2.cell (p := ⟨p, 1, .none⟩) hp1).trans y1
 have z2 := (hZ2.cell (p := ⟨p, 2, .none⟩) hp1).trans y2
 obtain ⟨j0, j1, j2, j3, j4, j7⟩ := HF2.out.calls
 have f0 := (hZ2.cell (p := ⟨g, og + i * 4, .none⟩) hg).trans e0
 have f3 := (hZ2.cell (p := ⟨g, og + i * 4 + 3, .none⟩) hg).trans e3
 have HB4 := Lib.hid (Cv.next HB3.out hZ2)
 have HI2 := Lib.hid (HI1.out.below hZ2)
 have HO2 := Lib.hid HF2.out.own
 have hs2 := hZ2.size
 have hsf := HF2.out.size
 have HR2 := Lib.hid (show ResAt Z2 W.heap.size _ _ _ _ _ _ from by rw [hsz1]; exact HF2.out.res)
 have hgl : g < Z2.heap.size := by omega
 clear hZe X hX hZ2 y0 y1 y2 l0 l1 l2 l3 l4 l7 e0 e1 e2 e3
 have HBM := Lib.hid (HB4.out.mono hB)
 have HASM : Hid (Aside p w Z2) := Lib.hid (Aside.below HB4.out)
 have hcase : decide (num < 0) = true ∨ (decide (num < 0) = false ∧ decide (256 < num) = true) := by
  simp only [decide_eq_true_eq, decide_eq_false_iff_not]
  omega
 clear hbad
 rcases hcase with b1 | ⟨b1, b2⟩
 all_goals
  go_wp2_with fail
  refine (fail_any 9 _).mono ?_
  rintro e10 w10 ⟨rfl, hb10⟩
  have hr10 : ResAt w10 W.heap.size (.int .i64 0) (.int .i64 0) (.int .i64 0) (.bool false) (.string ⟨#[]⟩) (.slice none 0 0) := (hb10.block W.heap.size (by have := HR2.out.lt; omega)).trans HR2.out
  rw [hsz1] at hr10
  obtain ⟨g0, g1', g2', g3, g4, g5, gf⟩ := hr10.get
  obtain ⟨W9, hW9, hr9, ho9, hb9, ha9⟩ := endO hr10 (HO2.out.below hb10) (HBM.out.trans (hb10.mono (by have := HASM.out.size; omega))) (HASM.out.trans (Aside.below hb10)) hB (.int .i64 9) (.int .i64 0) (.int .i64 0) (.bool false) (.string ⟨#[]⟩) (.slice none 0 0)
  have HR5 := Lib.hid hr9
  have HOF := Lib.hid ho9
  have HBF := Lib.hid hb9
  have HAS := Lib.hid ha9
  clear hr10 hr9 ho9 hb9 ha9 hb10
  go_wp2_with fail
  (try simp only [Exit.inBlock, Exit.then])
  refine ret_res rfl HR5.out rfl rfl ?_
  exact ⟨rfl, HOF.out, HBF.out, HAS.out⟩
set_option maxRecDepth 100000 in
set_option maxHeartbeats 16000000 in
theorem byfd_trunc2 (B p : Nat) (s : St) (core fd off : Int) (path path2 data : ByteArray) (NU : Int) (i : Nat) (x : Ino) (w : World) (h : Own B w p s) (hB : B ≤ w.heap.size) (hfd : fdV s.opn core fd = NU) (hnu : NU ≠ 0) (hat : atV s.inos NU = (i : Int)) (hx : s.inos[i]? = some x) (o : Nat) (ho : o ≤ 256) :
  Calls Tryz.prog 68 #[.pointer (some ⟨p, 0, .none⟩), caV ⟨6, core, fd, off, (o : Int), path, path2, data⟩] w fun e w' => e = .returned (resV {}) ∧ Own B w' p { s with inos := s.inos.set i { x with data := txt (sizedL x.data.data.toList o) } } ∧ Below B w w' ∧ Aside p w w' := by
 obtain ⟨W, W2, hW, hW2, hsz1, hfr, hb2⟩ := Fr.begin h hB ⟨6, core, fd, off, (o : Int), path, path2, data⟩
 obtain ⟨A0, n0, cp0, E0, m0, d0, D0, k0', e0', hp, -, x0, x1, x2, -, hst, -, -, k0, k1, k2, k3, k4, -, -, k7⟩ := hfr.vals
 have HF := Lib.hid hfr
 have HST := Lib.hid hst
 have HB2 := Lib.hid hb2
 have HFD := Lib.hid hfd
 have hps := hfr.hp
 have HAT := Lib.hid hat
 have HX := Lib.hid hx
 clear hat hx
 clear h hst hfd hfr hb2
 unfold caV
 go_enter Tryz.func68, Tryz.ntmps68
 go_wp2_with fail
 clear hW hW2
 refine wre ?_
 have hX := @Ext.cell W2
 repeat (go_big_quiet_step (first | (go_at_call 90; rename_i X; exact Calls.ext_of (by have := fd_any _ s core fd _ (HST.out.below X.bel); rw [HFD.out] at this; exact this))))
 refine wpQuiet_nil ?_
 rintro w7 ⟨X, rfl⟩
 generalize hZe : X.w = Z1
 have hZ1 := hZe ▸ X.bel
 clear x0 x1 x2 k0 k1 k2 k3 k4 k7
 have HF1 := Lib.hid (HF.out.below hZ1)
 obtain  ⟨A, n, cp, E, m, d, D, k, e, hp1, -, y0, y1, y2, -, hst, hI, -, l0, l1, l2, l3, l4, -, -, l7⟩ := HF1.out.vals
 have HB3 := Lib.hid (Cv.next HB2.out hZ1)
 have HO1 := Lib.hid HF1.out.own
 have HR1 := Lib.hid (show ResAt Z1 W.heap.size _ _ _ _ _ _ from by rw [hsz1]; exact HF1.out.res)
 have HS1 := Lib.hid hst
 have HI1 := Lib.hid hI
 clear hZe X hX hZ1 hst hI
 have q0 : (NU == 0) = false := by rw [beq_eq_false_iff_ne]; exact hnu
 go_wp2_with fail
 have hin : i < n := by have := (List.getElem?_eq_some_iff.1 HX.out).1; have := HI1.out.1; omega
 obtain ⟨g, og, x', E3, m3, d3, rfl, hg, hx', _, hmem, e0, e1, e2, _, _, e3⟩ := HI1.out.get i hin
 have ex : x' = x := by have h1 := HX.out; rw [hx'] at h1; exact Option.some.inj h1
 subst ex
 have i0 : (0 : Int) ≤ (i : Int) := by omega
 have i1 : (i : Int) < (n : Int) := by omega
 have hX := @Ext.cell Z1
 clear hx' hmem
 refine wre ?_
 repeat (go_big_quiet_step (first | (go_at_call 57; rename_i X; exact Calls.ext_of (by have := at_any _ s NU _ (HS1.out.below X.bel); rw [HAT.out] at this; exact this))))
 refine wpQuiet_nil ?_
 rintro w8 ⟨X, rfl⟩
 generalize hZe : X.w = Z2
 have hZ2 := hZe ▸ X.bel
 have HF2 := Lib.hid (HF1.out.below hZ2)
 have z0 := (hZ2.cell (p := ⟨p, 0, .none⟩) hp1).trans y0
 have z1 := (hZ2.cell (p := ⟨p, 1, .none⟩) hp1).trans y1
 have z2 := (hZ2.cell (p := ⟨p, 2, .none⟩) hp1).trans y2
 obtain ⟨j0, j1, j2, j3, j4, j7⟩ := HF2.out.calls
 have f0 := (hZ2.cell (p := ⟨g, og + i * 4, .none⟩) hg).trans e0
 have f3 := (hZ2.cell (p := ⟨g, og + i * 4 + 3, .none⟩) hg).trans e3
 have HB4 := Lib.hid (Cv.next HB3.out hZ2)
 have HI2 := Lib.hid (HI1.out.below hZ2)
 have HO2 := Lib.hid HF2.out.own
 have hs2 := hZ2.size
 have hsf := HF2.out.size
 have HR2 := Lib.hid (show ResAt Z2 W.heap.size _ _ _ _ _ _ from by rw [hsz1]; exact HF2.out.res)
 have hgl : g < Z2.heap.size := by omega
 clear hZe X hX hZ2 y0 y1 y2 l0 l1 l2 l3 l4 l7 e0 e1 e2 e3
 have HBM := Lib.hid (HB4.out.mono hB)
 have HASM : Hid (Aside p w Z2) := Lib.hid (Aside.below HB4.out)
 have b1 : decide ((o : Int) < 0) = false := by rw [decide_eq_false_iff_not]; omega
 have b2 : decide ((256 : Int) < (o : Int)) = false := by rw [decide_eq_false_iff_not]; omega
 go_wp2_with fail
 have hdr : Below Z2.heap.size Z2 Z2.drew := Below.drew (Below.refl _ _)
 obtain ⟨NT, hNT⟩ : ∃ NT : ByteArray, txt (sizedL x'.data.data.toList o) = NT := ⟨_, rfl⟩
 have hzn : (txt (sizedL x'.data.data.toList o)).size ≤ 140737488355328 := by
  show (sizedL x'.data.data.toList o).toArray.size ≤ _
  rw [List.size_toArray, sizedL_len]
  omega
 have HNT := Lib.hid hNT
 have HZN := Lib.hid hzn
 have hconv : ∀ w9 gs, Cv.ByteRow w9 gs (sizedL x'.data.data.toList o) → (convert 57 9 (.slice (some ⟨gs, 0, none⟩) o o)).run Tryz.prog w9 = .ok (.string NT) w9 := by
  intro w9 gs hr
  rw [← hNT]
  exact Cv.back_of hr o o (sizedL_len _ _)
 have hfr : ∀ w9, Below Z2.drew.heap.size Z2.drew w9 → w9.frozen? ⟨g, og + i * 4 + 3, none⟩ = false ∧ w9.cell? ⟨g, og + i * 4 + 3, none⟩ = some (.string x'.data) ∧ w9.cell? ⟨w.heap.size, 4, none⟩ = some (.int .i64 o) := by
  intro w9 hb
  have hb' : Below Z2.heap.size Z2 w9 := hdr.trans hb
  exact ⟨((HI2.out.below hb').free (by omega)).2 _, (hb'.cell (p := ⟨g, og + i * 4 + 3, .none⟩) hgl).trans f3, (hb'.cell (p := ⟨w.heap.size, 4, .none⟩) (by show w.heap.size < _; omega)).trans j4⟩
 have HCV := Lib.hid hconv
 have HFR := Lib.hid hfr
 clear hconv hfr hNT hzn
 go_region_with (first | (go_at_call 93; refine (sized_all x'.data o _ (by omega)).mono ?_; rintro e9 w9 ⟨gs, rfl, hrow9, hgs9, hb9⟩; have hcv := HCV.out w9 gs hrow9; obtain ⟨ff9, fd9, fn9⟩ := HFR.out w9 hb9))
 all_goals
  have hb9' : Below Z2.heap.size Z2 w9 := hdr.trans hb9
  have HO9 := Lib.hid (HO2.out.below hb9')
  have HB9 := Lib.hid (Cv.next HB4.out hb9')
  have HR9 : Hid (ResAt w9 W.heap.size (.int .i64 0) (.int .i64 0) (.int .i64 0) (.bool false) (.string ⟨#[]⟩) (.slice none 0 0)) := Lib.hid ((hb9'.block W.heap.size HR2.out.lt).trans HR2.out)
  have l9 := (hb9'.cell (p := ⟨w.heap.size, 0, .none⟩) (by show w.heap.size < _; omega)).trans j0
  have z9 := (hb9'.cell (p := ⟨p, 0, .none⟩) (by show p < _; omega)).trans z0
  have hs9 : Z2.heap.size ≤ w9.heap.size := hb9'.size
  have hi9 := HI2.out.below hb9'
  obtain ⟨hBg, hfree⟩ := hi9.free (by omega)
  obtain ⟨cur9, hcur9⟩ := hi9.tag (by omega)
  obtain ⟨V, hV⟩ : ∃ V, w9.setCell ⟨g, og + i * 4 + 3, .none⟩ (.string NT) = V := ⟨_, rfl⟩
  have hov : Own B V p { s with inos := s.inos.set i { x' with data := txt (sizedL x'.data.data.toList o) } } := by
   rw [← hV]
   refine HO9.out.setIno i 3 x' { x' with data := txt (sizedL x'.data.data.toList o) } (.string NT) HX.out (.inr rfl) rfl rfl (by intro h; omega) (fun _ => ⟨by rw [← HNT.out], rfl⟩) (HO9.out.sized.setData HX.out _ HZN.out) g og n cp z9
  have hbv : Below B w V := by rw [← hV]; exact (HB9.out.mono hB).setCell (p := ⟨g, og + i * 4 + 3, .none⟩) hBg _
  have hav : Aside p w V := by rw [← hV]; exact (Aside.below HB9.out).trans (Aside.set (w := w9) hcur9 (.inl rfl))
  have hrv : ResAt V W.heap.size (.int .i64 0) (.int .i64 0) (.int .i64 0) (.bool false) (.string ⟨#[]⟩) (.slice none 0 0) := by
   have hne : W.heap.size ≠ g := by
    intro e9
    have h5 := HR9.out
    rw [e9] at h5
    unfold ResAt at h5
    rw [hcur9] at h5
    injection h5 with h5
    injection h5 with _ h6
    exact absurd h6 (by decide)
   rw [← hV]
   exact (Below.heap_setCell w9 ⟨g, og + i * 4 + 3, .none⟩ _ _ hne).trans HR9.out
  have hsv : V.heap.size = w9.heap.size := by rw [← hV]; simp [World.setCell]
  have HOV := Lib.hid hov
  have HBV := Lib.hid hbv
  have HAV := Lib.hid hav
  have HRV := Lib.hid hrv
  rw [hV]
  clear hrow9 hgs9 hb9 hb9' hdr z0 z1 z2 j0 j1 j2 j3 j4 j7 f0 f3 hi9 hfree hcur9 hov hbv hav hrv hcv ff9 fd9 fn9
  go_wp2_with fail
  clear hV
  refine (fail_any 0 _).mono ?_
  rintro e10 w10 ⟨rfl, hb10⟩
  have hr10 : ResAt w10 W.heap.size (.int .i64 0) (.int .i64 0) (.int .i64 0) (.bool false) (.string ⟨#[]⟩) (.slice none 0 0) := (hb10.block W.heap.size (by have := HRV.out.lt; omega)).trans HRV.out
  rw [hsz1] at hr10
  obtain ⟨g0, g1', g2', g3, g4, g5, gf⟩ := hr10.get
  obtain ⟨W9, hW9, hr9, ho9, hb9, ha9⟩ := endO hr10 (HOV.out.below hb10) (HBV.out.trans (hb10.mono (by have := HAV.out.size; omega))) (HAV.out.trans (Aside.below hb10)) hB (.int .i64 0) (.int .i64 0) (.int .i64 0) (.bool false) (.string ⟨#[]⟩) (.slice none 0 0)
  have HR5 := Lib.hid hr9
  have HOF := Lib.hid ho9
  have HBF := Lib.hid hb9
  have HAS := Lib.hid ha9
  clear hr10 hr9 ho9 hb9 ha9 hb10
  go_wp2_with fail
  (try simp only [Exit.inBlock, Exit.then])
  refine ret_res rfl HR5.out rfl rfl ?_
  exact ⟨rfl, HOF.out, HBF.out, HAS.out⟩
set_option maxRecDepth 100000 in
set_option maxHeartbeats 16000000 in
theorem byfd_write_bad (B p : Nat) (s : St) (core fd off num : Int) (path path2 data : ByteArray) (NU : Int) (i : Nat) (x : Ino) (w : World) (h : Own B w p s) (hB : B ≤ w.heap.size) (hfd : fdV s.opn core fd = NU) (hnu : NU ≠ 0) (hat : atV s.inos NU = (i : Int)) (hx : s.inos[i]? = some x) (hbad : off < 0 ∨ 256 < off ∨ 256 < data.size) :
  Calls Tryz.prog 68 #[.pointer (some ⟨p, 0, .none⟩), caV ⟨5, core, fd, off, num, path, path2, data⟩] w fun e w' => e = .returned (resV { code := 9 }) ∧ Own B w' p s ∧ Below B w w' ∧ Aside p w w' := by
 obtain ⟨W, W2, hW, hW2, hsz1, hfr, hb2⟩ := Fr.begin h hB ⟨5, core, fd, off, num, path, path2, data⟩
 obtain ⟨A0, n0, cp0, E0, m0, d0, D0, k0', e0', hp, -, x0, x1, x2, -, hst, -, -, k0, k1, k2, k3, k4, -, -, k7⟩ := hfr.vals
 have HF := Lib.hid hfr
 have HST := Lib.hid hst
 have HB2 := Lib.hid hb2
 have HFD := Lib.hid hfd
 have hps := hfr.hp
 have HAT := Lib.hid hat
 have HX := Lib.hid hx
 clear hat hx
 clear h hst hfd hfr hb2
 unfold caV
 go_enter Tryz.func68, Tryz.ntmps68
 go_wp2_with fail
 clear hW hW2
 refine wre ?_
 have hX := @Ext.cell W2
 repeat (go_big_quiet_step (first | (go_at_call 90; rename_i X; exact Calls.ext_of (by have := fd_any _ s core fd _ (HST.out.below X.bel); rw [HFD.out] at this; exact this))))
 refine wpQuiet_nil ?_
 rintro w7 ⟨X, rfl⟩
 generalize hZe : X.w = Z1
 have hZ1 := hZe ▸ X.bel
 clear x0 x1 x2 k0 k1 k2 k3 k4 k7
 have HF1 := Lib.hid (HF.out.below hZ1)
 obtain  ⟨A, n, cp, E, m, d, D, k, e, hp1, -, y0, y1, y2, -, hst, hI, -, l0, l1, l2, l3, l4, -, -, l7⟩ := HF1.out.vals
 have HB3 := Lib.hid (Cv.next HB2.out hZ1)
 have HO1 := Lib.hid HF1.out.own
 have HR1 := Lib.hid (show ResAt Z1 W.heap.size _ _ _ _ _ _ from by rw [hsz1]; exact HF1.out.res)
 have HS1 := Lib.hid hst
 have HI1 := Lib.hid hI
 clear hZe X hX hZ1 hst hI
 have q0 : (NU == 0) = false := by rw [beq_eq_false_iff_ne]; exact hnu
 go_wp2_with fail
 have hin : i < n := by have := (List.getElem?_eq_some_iff.1 HX.out).1; have := HI1.out.1; omega
 obtain ⟨g, og, x', E3, m3, d3, rfl, hg, hx', _, hmem, e0, e1, e2, _, _, e3⟩ := HI1.out.get i hin
 have ex : x' = x := by have h1 := HX.out; rw [hx'] at h1; exact Option.some.inj h1
 subst ex
 have i0 : (0 : Int) ≤ (i : Int) := by omega
 have i1 : (i : Int) < (n : Int) := by omega
 have hX := @Ext.cell Z1
 clear hx' hmem
 refine wre ?_
 repeat (go_big_quiet_step (first | (go_at_call 57; rename_i X; exact Calls.ext_of (by have := at_any _ s NU _ (HS1.out.below X.bel); rw [HAT.out] at this; exact this))))
 refine wpQuiet_nil ?_
 rintro w8 ⟨X, rfl⟩
 generalize hZe : X.w = Z2
 have hZ2 := hZe ▸ X.bel
 have HF2 := Lib.hid (HF1.out.below hZ2)
 have z0 := (hZ2.cell (p := ⟨p, 0, .none⟩) hp1).trans y0
 have z1 := (hZ2.cell (p := ⟨p, 1, .none⟩) hp1).trans y1
 have z2 := (hZ2.cell (p := ⟨p, 2, .none⟩) hp1).trans y2
 obtain ⟨j0, j1, j2, j3, j4, j7⟩ := HF2.out.calls
 have f0 := (hZ2.cell (p := ⟨g, og + i * 4, .none⟩) hg).trans e0
 have f3 := (hZ2.cell (p := ⟨g, og + i * 4 + 3, .none⟩) hg).trans e3
 have HB4 := Lib.hid (Cv.next HB3.out hZ2)
 have HI2 := Lib.hid (HI1.out.below hZ2)
 have HO2 := Lib.hid HF2.out.own
 have hs2 := hZ2.size
 have hsf := HF2.out.size
 have HR2 := Lib.hid (show ResAt Z2 W.heap.size _ _ _ _ _ _ from by rw [hsz1]; exact HF2.out.res)
 have hgl : g < Z2.heap.size := by omega
 clear hZe X hX hZ2 y0 y1 y2 l0 l1 l2 l3 l4 l7 e0 e1 e2 e3
 have HBM := Lib.hid (HB4.out.mono hB)
 have HASM : Hid (Aside p w Z2) := Lib.hid (Aside.below HB4.out)
 have hcase : decide (off < 0) = true ∨ (decide (off < 0) = false ∧ decide (256 < off) = true) ∨ (decide (off < 0) = false ∧ decide (256 < off) = false ∧ decide ((256 : Int) < (data.size : Int)) = true ∧ decide (256 < data.size) = true) := by
  simp only [decide_eq_true_eq, decide_eq_false_iff_not]
  omega
 clear hbad
 rcases hcase with b1 | ⟨b1, b2⟩ | ⟨b1, b2, b3, b4⟩
 all_goals
  go_wp2_with fail
  refine (fail_any 9 _).mono ?_
  rintro e10 w10 ⟨rfl, hb10⟩
  have hr10 : ResAt w10 W.heap.size (.int .i64 0) (.int .i64 0) (.int .i64 0) (.bool false) (.string ⟨#[]⟩) (.slice none 0 0) := (hb10.block W.heap.size (by have := HR2.out.lt; omega)).trans HR2.out
  rw [hsz1] at hr10
  obtain ⟨g0, g1', g2', g3, g4, g5, gf⟩ := hr10.get
  obtain ⟨W9, hW9, hr9, ho9, hb9, ha9⟩ := endO hr10 (HO2.out.below hb10) (HBM.out.trans (hb10.mono (by have := HASM.out.size; omega))) (HASM.out.trans (Aside.below hb10)) hB (.int .i64 9) (.int .i64 0) (.int .i64 0) (.bool false) (.string ⟨#[]⟩) (.slice none 0 0)
  have HR5 := Lib.hid hr9
  have HOF := Lib.hid ho9
  have HBF := Lib.hid hb9
  have HAS := Lib.hid ha9
  clear hr10 hr9 ho9 hb9 ha9 hb10
  go_wp2_with fail
  (try simp only [Exit.inBlock, Exit.then])
  refine ret_res rfl HR5.out rfl rfl ?_
  exact ⟨rfl, HOF.out, HBF.out, HAS.out⟩
set_option maxRecDepth 100000 in
set_option maxHeartbeats 16000000 in
theorem byfd_write_full (B p : Nat) (s : St) (core fd : Int) (o : Nat) (num : Int) (path path2 data : ByteArray) (NU : Int) (i : Nat) (x : Ino) (w : World) (h : Own B w p s) (hB : B ≤ w.heap.size) (hfd : fdV s.opn core fd = NU) (hnu : NU ≠ 0) (hat : atV s.inos NU = (i : Int)) (hx : s.inos[i]? = some x) (ho : o ≤ 256) (hds : data.size ≤ 256) (hful : 256 < o + data.size) :
  Calls Tryz.prog 68 #[.pointer (some ⟨p, 0, .none⟩), caV ⟨5, core, fd, (o : Int), num, path, path2, data⟩] w fun e w' => e = .returned (resV { code := 5 }) ∧ Own B w' p s ∧ Below B w w' ∧ Aside p w w' := by
 obtain ⟨W, W2, hW, hW2, hsz1, hfr, hb2⟩ := Fr.begin h hB ⟨5, core, fd, (o : Int), num, path, path2, data⟩
 obtain ⟨A0, n0, cp0, E0, m0, d0, D0, k0', e0', hp, -, x0, x1, x2, -, hst, -, -, k0, k1, k2, k3, k4, -, -, k7⟩ := hfr.vals
 have HF := Lib.hid hfr
 have HST := Lib.hid hst
 have HB2 := Lib.hid hb2
 have HFD := Lib.hid hfd
 have hps := hfr.hp
 have HAT := Lib.hid hat
 have HX := Lib.hid hx
 clear hat hx
 clear h hst hfd hfr hb2
 unfold caV
 go_enter Tryz.func68, Tryz.ntmps68
 go_wp2_with fail
 clear hW hW2
 refine wre ?_
 have hX := @Ext.cell W2
 repeat (go_big_quiet_step (first | (go_at_call 90; rename_i X; exact Calls.ext_of (by have := fd_any _ s core fd _ (HST.out.below X.bel); rw [HFD.out] at this; exact this))))
 refine wpQuiet_nil ?_
 rintro w7 ⟨X, rfl⟩
 generalize hZe : X.w = Z1
 have hZ1 := hZe ▸ X.bel
 clear x0 x1 x2 k0 k1 k2 k3 k4 k7
 have HF1 := Lib.hid (HF.out.below hZ1)
 obtain  ⟨A, n, cp, E, m, d, D, k, e, hp1, -, y0, y1, y2, -, hst, hI, -, l0, l1, l2, l3, l4, -, -, l7⟩ := HF1.out.vals
 have HB3 := Lib.hid (Cv.next HB2.out hZ1)
 have HO1 := Lib.hid HF1.out.own
 have HR1 := Lib.hid (show ResAt Z1 W.heap.size _ _ _ _ _ _ from by rw [hsz1]; exact HF1.out.res)
 have HS1 := Lib.hid hst
 have HI1 := Lib.hid hI
 clear hZe X hX hZ1 hst hI
 have q0 : (NU == 0) = false := by rw [beq_eq_false_iff_ne]; exact hnu
 go_wp2_with fail
 have hin : i < n := by have := (List.getElem?_eq_some_iff.1 HX.out).1; have := HI1.out.1; omega
 obtain ⟨g, og, x', E3, m3, d3, rfl, hg, hx', _, hmem, e0, e1, e2, _, _, e3⟩ := HI1.out.get i hin
 have ex : x' = x := by have h1 := HX.out; rw [hx'] at h1; exact Option.some.inj h1
 subst ex
 have i0 : (0 : Int) ≤ (i : Int) := by omega
 have i1 : (i : Int) < (n : Int) := by omega
 have hX := @Ext.cell Z1
 clear hx' hmem
 refine wre ?_
 repeat (go_big_quiet_step (first | (go_at_call 57; rename_i X; exact Calls.ext_of (by have := at_any _ s NU _ (HS1.out.below X.bel); rw [HAT.out] at this; exact this))))
 refine wpQuiet_nil ?_
 rintro w8 ⟨X, rfl⟩
 generalize hZe : X.w = Z2
 have hZ2 := hZe ▸ X.bel
 have HF2 := Lib.hid (HF1.out.below hZ2)
 have z0 := (hZ2.cell (p := ⟨p, 0, .none⟩) hp1).trans y0
 have z1 := (hZ2.cell (p := ⟨p, 1, .none⟩) hp1).trans y1
 have z2 := (hZ2.cell (p := ⟨p, 2, .none⟩) hp1).trans y2
 obtain ⟨j0, j1, j2, j3, j4, j7⟩ := HF2.out.calls
 have f0 := (hZ2.cell (p := ⟨g, og + i * 4, .none⟩) hg).trans e0
 have f3 := (hZ2.cell (p := ⟨g, og + i * 4 + 3, .none⟩) hg).trans e3
 have HB4 := Lib.hid (Cv.next HB3.out hZ2)
 have HI2 := Lib.hid (HI1.out.below hZ2)
 have HO2 := Lib.hid HF2.out.own
 have hs2 := hZ2.size
 have hsf := HF2.out.size
 have HR2 := Lib.hid (show ResAt Z2 W.heap.size _ _ _ _ _ _ from by rw [hsz1]; exact HF2.out.res)
 have hgl : g < Z2.heap.size := by omega
 clear hZe X hX hZ2 y0 y1 y2 l0 l1 l2 l3 l4 l7 e0 e1 e2 e3
 have HBM := Lib.hid (HB4.out.mono hB)
 have HASM : Hid (Aside p w Z2) := Lib.hid (Aside.below HB4.out)
 have b1 : decide ((o : Int) < 0) = false := by rw [decide_eq_false_iff_not]; omega
 have b2 : decide ((256 : Int) < (o : Int)) = false := by rw [decide_eq_false_iff_not]; omega
 have b3 : decide ((256 : Int) < (data.size : Int)) = false := by rw [decide_eq_false_iff_not]; omega
 have b4 : decide (256 < data.size) = false := by rw [decide_eq_false_iff_not]; omega
 have b6 : decide (256 < o) = false := by rw [decide_eq_false_iff_not]; omega
 have b5 : IntKind.i64.wrap ((o : Int) + (data.size : Int)) = (o : Int) + (data.size : Int) := IntWalk.i64_in _ (by omega)
 have b7 : decide ((256 : Int) < (o : Int) + (data.size : Int)) = true := by rw [decide_eq_true_eq]; omega
 have HFU := Lib.hid hful
 clear hful
 go_wp2_with fail
 refine (fail_any 5 _).mono ?_
 rintro e10 w10 ⟨rfl, hb10⟩
 have hr10 : ResAt w10 W.heap.size (.int .i64 0) (.int .i64 0) (.int .i64 0) (.bool false) (.string ⟨#[]⟩) (.slice none 0 0) := (hb10.block W.heap.size (by have := HR2.out.lt; omega)).trans HR2.out
 rw [hsz1] at hr10
 obtain ⟨g0, g1', g2', g3, g4, g5, gf⟩ := hr10.get
 obtain ⟨W9, hW9, hr9, ho9, hb9, ha9⟩ := endO hr10 (HO2.out.below hb10) (HBM.out.trans (hb10.mono (by have := HASM.out.size; omega))) (HASM.out.trans (Aside.below hb10)) hB (.int .i64 5) (.int .i64 0) (.int .i64 0) (.bool false) (.string ⟨#[]⟩) (.slice none 0 0)
 have HR5 := Lib.hid hr9
 have HOF := Lib.hid ho9
 have HBF := Lib.hid hb9
 have HAS := Lib.hid ha9
 clear hr10 hr9 ho9 hb9 ha9 hb10
 go_wp2_with fail
 (try simp only [Exit.inBlock, Exit.then])
 refine ret_res rfl HR5.out rfl rfl ?_
 exact ⟨rfl, HOF.out, HBF.out, HAS.out⟩
set_option maxRecDepth 100000 in
set_option maxHeartbeats 16000000 in
theorem byfd_write_none (B p : Nat) (s : St) (core fd : Int) (o : Nat) (num : Int) (path path2 data : ByteArray) (NU : Int) (i : Nat) (x : Ino) (w : World) (h : Own B w p s) (hB : B ≤ w.heap.size) (hfd : fdV s.opn core fd = NU) (hnu : NU ≠ 0) (hat : atV s.inos NU = (i : Int)) (hx : s.inos[i]? = some x) (ho : o ≤ 256) (hd0 : data = ⟨#[]⟩) :
  Calls Tryz.prog 68 #[.pointer (some ⟨p, 0, .none⟩), caV ⟨5, core, fd, (o : Int), num, path, path2, data⟩] w fun e w' => e = .returned (resV {}) ∧ Own B w' p s ∧ Below B w w' ∧ Aside p w w' := by
 subst hd0
 have hds : (⟨#[]⟩ : ByteArray).size ≤ 256 := by decide
 obtain ⟨W, W2, hW, hW2, hsz1, hfr, hb2⟩ := Fr.begin h hB ⟨5, core, fd, (o : Int), num, path, path2, ⟨#[]⟩⟩
 obtain ⟨A0, n0, cp0, E0, m0, d0, D0, k0', e0', hp, -, x0, x1, x2, -, hst, -, -, k0, k1, k2, k3, k4, -, -, k7⟩ := hfr.vals
 have HF := Lib.hid hfr
 have HST := Lib.hid hst
 have HB2 := Lib.hid hb2
 have HFD := Lib.hid hfd
 have hps := hfr.hp
 have HAT := Lib.hid hat
 have HX := Lib.hid hx
 clear hat hx
 clear h hst hfd hfr hb2
 unfold caV
 go_enter Tryz.func68, Tryz.ntmps68
 go_wp2_with fail
 clear hW hW2
 refine wre ?_
 have hX := @Ext.cell W2
 repeat (go_big_quiet_step (first | (go_at_call 90; rename_i X; exact Calls.ext_of (by have := fd_any _ s core fd _ (HST.out.below X.bel); rw [HFD.out] at this; exact this))))
 refine wpQuiet_nil ?_
 rintro w7 ⟨X, rfl⟩
 generalize hZe : X.w = Z1
 have hZ1 := hZe ▸ X.bel
 clear x0 x1 x2 k0 k1 k2 k3 k4 k7
 have HF1 := Lib.hid (HF.out.below hZ1)
 obtain  ⟨A, n, cp, E, m, d, D, k, e, hp1, -, y0, y1, y2, -, hst, hI, -, l0, l1, l2, l3, l4, -, -, l7⟩ := HF1.out.vals
 have HB3 := Lib.hid (Cv.next HB2.out hZ1)
 have HO1 := Lib.hid HF1.out.own
 have HR1 := Lib.hid (show ResAt Z1 W.heap.size _ _ _ _ _ _ from by rw [hsz1]; exact HF1.out.res)
 have HS1 := Lib.hid hst
 have HI1 := Lib.hid hI
 clear hZe X hX hZ1 hst hI
 have q0 : (NU == 0) = false := by rw [beq_eq_false_iff_ne]; exact hnu
 go_wp2_with fail
 have hin : i < n := by have := (List.getElem?_eq_some_iff.1 HX.out).1; have := HI1.out.1; omega
 obtain ⟨g, og, x', E3, m3, d3, rfl, hg, hx', _, hmem, e0, e1, e2, _, _, e3⟩ := HI1.out.get i hin
 have ex : x' = x := by have h1 := HX.out; rw [hx'] at h1; exact Option.some.inj h1
 subst ex
 have i0 : (0 : Int) ≤ (i : Int) := by omega
 have i1 : (i : Int) < (n : Int) := by omega
 have hX := @Ext.cell Z1
 clear hx' hmem
 refine wre ?_
 repeat (go_big_quiet_step (first | (go_at_call 57; rename_i X; exact Calls.ext_of (by have := at_any _ s NU _ (HS1.out.below X.bel); rw [HAT.out] at this; exact this))))
 refine wpQuiet_nil ?_
 rintro w8 ⟨X, rfl⟩
 generalize hZe : X.w = Z2
 have hZ2 := hZe ▸ X.bel
 have HF2 := Lib.hid (HF1.out.below hZ2)
 have z0 := (hZ2.cell (p := ⟨p, 0, .none⟩) hp1).trans y0
 have z1 := (hZ2.cell (p := ⟨p, 1, .none⟩) hp1).trans y1
 have z2 := (hZ2.cell (p := ⟨p, 2, .none⟩) hp1).trans y2
 obtain ⟨j0, j1, j2, j3, j4, j7⟩ := HF2.out.calls
 have f0 := (hZ2.cell (p := ⟨g, og + i * 4, .none⟩) hg).trans e0
 have f3 := (hZ2.cell (p := ⟨g, og + i * 4 + 3, .none⟩) hg).trans e3
 have HB4 := Lib.hid (Cv.next HB3.out hZ2)
 have HI2 := Lib.hid (HI1.out.below hZ2)
 have HO2 := Lib.hid HF2.out.own
 have hs2 := hZ2.size
 have hsf := HF2.out.size
 have HR2 := Lib.hid (show ResAt Z2 W.heap.size _ _ _ _ _ _ from by rw [hsz1]; exact HF2.out.res)
 have hgl : g < Z2.heap.size := by omega
 clear hZe X hX hZ2 y0 y1 y2 l0 l1 l2 l3 l4 l7 e0 e1 e2 e3
 have HBM := Lib.hid (HB4.out.mono hB)
 have HASM : Hid (Aside p w Z2) := Lib.hid (Aside.below HB4.out)
 have b1 : decide ((o : Int) < 0) = false := by rw [decide_eq_false_iff_not]; omega
 have b2 : decide ((256 : Int) < (o : Int)) = false := by rw [decide_eq_false_iff_not]; omega
 have b6 : decide (256 < o) = false := by rw [decide_eq_false_iff_not]; omega
 have hr10 := HR2.out
 rw [hsz1] at hr10
 obtain ⟨g0, g1', g2', g3, g4, g5, gf⟩ := hr10.get
 obtain ⟨W9, hW9, hr9, ho9, hb9, ha9⟩ := endO hr10 HO2.out HBM.out HASM.out hB (.int .i64 0) (.int .i64 0) (.int .i64 0) (.bool false) (.string ⟨#[]⟩) (.slice none 0 0)
 have HR5 := Lib.hid hr9
 have HOF := Lib.hid ho9
 have HBF := Lib.hid hb9
 have HAS := Lib.hid ha9
 clear hr10 hr9 ho9 hb9 ha9
 go_wp2_with fail
 (try simp only [Exit.inBlock, Exit.then])
 refine ret_res rfl HR5.out rfl rfl ?_
 exact ⟨rfl, HOF.out, HBF.out, HAS.out⟩
theorem size_byte (w : World) : (Go.sizeOf 5).run Tryz.prog w = .ok 1 w := by
 obtain ⟨ib, hib, hz0, hz1, hz2⟩ := info_parts infoByte
 simp [Go.sizeOf, typeInfo, hib, hz1]
theorem size_setC (g : Nat) : ∀ (vs : List Value) (o : Nat) (w : World), (w.setCells g o vs).heap.size = w.heap.size
 | [], _, _ => rfl
 | v :: r, o, w => by rw [World.setCells, size_setC g r]; simp [World.setCell]
theorem lay_get (l d : List UInt8) (o j : Nat) (ho : o + d.length ≤ l.length) : (l.take o ++ d ++ l.drop (o + d.length))[j]? = if o ≤ j ∧ j < o + d.length then d[j - o]? else l[j]? := by
 have htl : (l.take o).length = o := by rw [List.length_take]; omega
 rw [List.append_assoc]
 by_cases h1 : j < o
 ·rw [if_neg (by omega), List.getElem?_append_left (by omega), List.getElem?_take, if_pos h1]
 ·rw [List.getElem?_append_right (by omega), htl]
  by_cases h2 : j < o + d.length
  ·rw [if_pos (by omega), List.getElem?_append_left (by omega)]
  ·rw [if_neg (by omega), List.getElem?_append_right (by omega), List.getElem?_drop]
   congr 1
   omega
theorem byterow_lay {w : World} {g : Nat} {l : List UInt8} (h : Cv.ByteRow w g l) (o : Nat) (d : List UInt8) (ho : o + d.length ≤ l.length) :
  Cv.ByteRow (w.setCells g o (d.map fun x => Value.int .u8 (x.toNat : Int))) g (l.take o ++ d ++ l.drop (o + d.length)) := by
 have hlen : (l.take o ++ d ++ l.drop (o + d.length)).length = l.length := by
  rw [List.length_append, List.length_append, List.length_take, List.length_drop]
  omega
 have hml : (d.map fun x => Value.int .u8 (x.toNat : Int)).length = d.length := List.length_map _
 refine ⟨by rw [size_setC]; exact h.1, fun j hj => ⟨?_, ?_⟩⟩
 ·rw [hlen] at hj
  rw [List.getD_eq_getElem?_getD, lay_get l d o j ho]
  by_cases h1 : o ≤ j ∧ j < o + d.length
  ·have h2 := World.cell?_setCells_in g (d.map fun x => Value.int .u8 (x.toNat : Int)) o w (fun k hk => by
    rw [hml] at hk
    rw [(h.2 (o + k) (by omega)).1]
    rfl) (j - o) (by rw [hml]; omega)
   rw [show o + (j - o) = j by omega] at h2
   rw [h2, if_pos h1, List.getElem_map, List.getElem?_eq_getElem (show j - o < d.length by omega)]
   rfl
  ·rw [World.cell?_setCells_out g _ o w ⟨g, j, none⟩ (fun _ _ => by rw [hml]; show j < o ∨ _ ≤ j; omega), (h.2 j hj).1, if_neg h1, List.getD_eq_getElem?_getD]
 ·rw [World.frozen?_setCells]
  rw [hlen] at hj
  exact (h.2 j hj).2
set_option maxRecDepth 100000 in
set_option maxHeartbeats 16000000 in
theorem byfd_write (B p : Nat) (s : St) (core fd : Int) (o : Nat) (num : Int) (path path2 data : ByteArray) (NU : Int) (i : Nat) (x : Ino) (w : World) (h : Own B w p s) (hB : B ≤ w.heap.size) (hfd : fdV s.opn core fd = NU) (hnu : NU ≠ 0) (hat : atV s.inos NU = (i : Int)) (hx : s.inos[i]? = some x) (hxs : x.data.size ≤ 256) (ho : o ≤ 256) (hod : o + data.size ≤ 256) (hd0 : data.size ≠ 0) :
  Calls Tryz.prog 68 #[.pointer (some ⟨p, 0, .none⟩), caV ⟨5, core, fd, (o : Int), num, path, path2, data⟩] w fun e w' => e = .returned (resV { num := data.size }) ∧ Own B w' p { s with inos := s.inos.set i { x with data := txt (layL x.data.data.toList o data.data.toList) } } ∧ Below B w w' ∧ Aside p w w' := by
 have hds : data.size ≤ 256 := by omega
 obtain ⟨W, W2, hW, hW2, hsz1, hfr, hb2⟩ := Fr.begin h hB ⟨5, core, fd, (o : Int), num, path, path2, data⟩
 obtain ⟨A0, n0, cp0, E0, m0, d0, D0, k0', e0', hp, -, x0, x1, x2, -, hst, -, -, k0, k1, k2, k3, k4, -, -, k7⟩ := hfr.vals
 have HF := Lib.hid hfr
 have HST := Lib.hid hst
 have HB2 := Lib.hid hb2
 have HFD := Lib.hid hfd
 have hps := hfr.hp
 have HAT := Lib.hid hat
 have HX := Lib.hid hx
 clear hat hx
 clear h hst hfd hfr hb2
 unfold caV
 go_enter Tryz.func68, Tryz.ntmps68
 go_wp2_with fail
 clear hW hW2
 refine wre ?_
 have hX := @Ext.cell W2
 repeat (go_big_quiet_step (first | (go_at_call 90; rename_i X; exact Calls.ext_of (by have := fd_any _ s core fd _ (HST.out.below X.bel); rw [HFD.out] at this; exact this))))
 refine wpQuiet_nil ?_
 rintro w7 ⟨X, rfl⟩
 generalize hZe : X.w = Z1
 have hZ1 := hZe ▸ X.bel
 clear x0 x1 x2 k0 k1 k2 k3 k4 k7
 have HF1 := Lib.hid (HF.out.below hZ1)
 obtain  ⟨A, n, cp, E, m, d, D, k, e, hp1, -, y0, y1, y2, -, hst, hI, -, l0, l1, l2, l3, l4, -, -, l7⟩ := HF1.out.vals
 have HB3 := Lib.hid (Cv.next HB2.out hZ1)
 have HO1 := Lib.hid HF1.out.own
 have HR1 := Lib.hid (show ResAt Z1 W.heap.size _ _ _ _ _ _ from by rw [hsz1]; exact HF1.out.res)
 have HS1 := Lib.hid hst
 have HI1 := Lib.hid hI
 clear hZe X hX hZ1 hst hI
 have q0 : (NU == 0) = false := by rw [beq_eq_false_iff_ne]; exact hnu
 go_wp2_with fail
 have hin : i < n := by have := (List.getElem?_eq_some_iff.1 HX.out).1; have := HI1.out.1; omega
 obtain ⟨g, og, x', E3, m3, d3, rfl, hg, hx', _, hmem, e0, e1, e2, _, _, e3⟩ := HI1.out.get i hin
 have ex : x' = x := by have h1 := HX.out; rw [hx'] at h1; exact Option.some.inj h1
 subst ex
 have i0 : (0 : Int) ≤ (i : Int) := by omega
 have i1 : (i : Int) < (n : Int) := by omega
 have hX := @Ext.cell Z1
 clear hx' hmem
 refine wre ?_
 repeat (go_big_quiet_step (first | (go_at_call 57; rename_i X; exact Calls.ext_of (by have := at_any _ s NU _ (HS1.out.below X.bel); rw [HAT.out] at this; exact this))))
 refine wpQuiet_nil ?_
 rintro w8 ⟨X, rfl⟩
 generalize hZe : X.w = Z2
 have hZ2 := hZe ▸ X.bel
 have HF2 := Lib.hid (HF1.out.below hZ2)
 have z0 := (hZ2.cell (p := ⟨p, 0, .none⟩) hp1).trans y0
 have z1 := (hZ2.cell (p := ⟨p, 1, .none⟩) hp1).trans y1
 have z2 := (hZ2.cell (p := ⟨p, 2, .none⟩) hp1).trans y2
 obtain ⟨j0, j1, j2, j3, j4, j7⟩ := HF2.out.calls
 have f0 := (hZ2.cell (p := ⟨g, og + i * 4, .none⟩) hg).trans e0
 have f3 := (hZ2.cell (p := ⟨g, og + i * 4 + 3, .none⟩) hg).trans e3
 have HB4 := Lib.hid (Cv.next HB3.out hZ2)
 have HI2 := Lib.hid (HI1.out.below hZ2)
 have HO2 := Lib.hid HF2.out.own
 have hs2 := hZ2.size
 have hsf := HF2.out.size
 have HR2 := Lib.hid (show ResAt Z2 W.heap.size _ _ _ _ _ _ from by rw [hsz1]; exact HF2.out.res)
 have hgl : g < Z2.heap.size := by omega
 clear hZe X hX hZ2 y0 y1 y2 l0 l1 l2 l3 l4 l7 e0 e1 e2 e3
 have HBM := Lib.hid (HB4.out.mono hB)
 have HASM : Hid (Aside p w Z2) := Lib.hid (Aside.below HB4.out)
 have b1 : decide ((o : Int) < 0) = false := by rw [decide_eq_false_iff_not]; omega
 have b2 : decide ((256 : Int) < (o : Int)) = false := by rw [decide_eq_false_iff_not]; omega
 have b3 : decide ((256 : Int) < (data.size : Int)) = false := by rw [decide_eq_false_iff_not]; omega
 have b4 : decide (256 < data.size) = false := by rw [decide_eq_false_iff_not]; omega
 have b6 : decide (256 < o) = false := by rw [decide_eq_false_iff_not]; omega
 have b5 : IntKind.i64.wrap ((o : Int) + (data.size : Int)) = (o : Int) + (data.size : Int) := IntWalk.i64_in _ (by omega)
 have b7 : decide ((256 : Int) < (o : Int) + (data.size : Int)) = false := by rw [decide_eq_false_iff_not]; omega
 have hne : data.toList ≠ [] := by
  intro e9
  rw [ByteArray.toList_eq] at e9
  have h9 : data.data.toList.length = data.size := Array.length_toList
  rw [e9] at h9
  exact hd0 h9.symm
 have b8 : (data.toList != []) = true := by rw [bne_iff_ne]; exact hne
 have b8' : data.toList.isEmpty = false := by cases h9 : data.toList <;> simp_all
 have b8'' : (data.toList == []) = false := by rw [beq_eq_false_iff_ne]; exact hne
 obtain ⟨SX, hSX⟩ : ∃ SX, x'.data.size = SX := ⟨_, rfl⟩
 obtain ⟨M, hM⟩ : ∃ M, max SX (o + data.size) = M := ⟨_, rfl⟩
 have m1 : max (SX : Int) ((o : Int) + (data.size : Int)) = (M : Int) := by omega
 have hM2 : M ≤ 256 := by omega
 have hSX2 : x'.data.size = SX := hSX
 have hxl : x'.data.data.toList.length = SX := by rw [← hSX]; exact Array.length_toList
 have hdl : data.data.toList.length = data.size := Array.length_toList
 have hlay : (sizedL x'.data.data.toList M).take o ++ data.data.toList ++ (sizedL x'.data.data.toList M).drop (o + data.data.toList.length) = layL x'.data.data.toList o data.data.toList := by
  unfold layL
  rw [hxl, hdl, hM]
 have HLAY := Lib.hid hlay
 have HDL := Lib.hid hdl
 have HD0 := Lib.hid hd0
 have HMM := Lib.hid hM
 have hoM : o + data.size ≤ M := by omega
 have hoM2 : ¬ M = o := by omega
 obtain ⟨NT, hNT⟩ : ∃ NT : ByteArray, txt (layL x'.data.data.toList o data.data.toList) = NT := ⟨_, rfl⟩
 have hlen9 : (layL x'.data.data.toList o data.data.toList).length = M := by
  rw [← hlay, List.length_append, List.length_append, List.length_take, List.length_drop, sizedL_len, hdl]
  omega
 have hzn : (txt (layL x'.data.data.toList o data.data.toList)).size ≤ 140737488355328 := by
  show (layL x'.data.data.toList o data.data.toList).toArray.size ≤ _
  rw [List.size_toArray, hlen9]
  omega
 have HNT := Lib.hid hNT
 have HZN := Lib.hid hzn
 have HLN := Lib.hid hlen9
 have hdr : Below Z2.heap.size Z2 Z2.drew := Below.drew (Below.refl _ _)
 clear hne hSX hxl hdl hlay hd0 hM hxs hNT hzn hlen9
 go_wp2_with fail
 refine wp_region_quiet_tail 16 (by kernel_rfl) (by kernel_rfl) ?_
 simp only [List.take_succ_cons, List.take_zero, List.drop_succ_cons, List.drop_zero]
 repeat (go_big_quiet_step (fail))
 refine wpQuiet_nil ?_
 go_wp2_with fail
 (with_reducible refine (sized_all x'.data M _ (by omega)).mono ?_)
 rintro e9 w9 ⟨gs, rfl, hrow9, hgs9, hb9⟩
 all_goals
  have hb9' : Below Z2.heap.size Z2 w9 := hdr.trans hb9
  have hg9 : Z2.heap.size ≤ gs := hgs9
  have a0 := (hb9'.cell (p := ⟨p, 0, .none⟩) (by show p < _; omega)).trans z0
  have a3 := (hb9'.cell (p := ⟨w.heap.size, 3, .none⟩) (by show w.heap.size < _; omega)).trans j3
  have a7 := (hb9'.cell (p := ⟨w.heap.size, 7, .none⟩) (by show w.heap.size < _; omega)).trans j7
  have hcp : ∀ ty, (Builtin.copy_ #[57, 9] ty #[.slice (some ⟨gs, o, none⟩) (M - o) (M - o), .string data]).run Tryz.prog w9.drew = .ok (goInt data.size) (w9.drew.setCells gs o (data.data.toList.map fun x => Value.int .u8 (x.toNat : Int))) := fun ty =>
   run_copy_string w9.drew 57 9 ty 5 gs o (M - o) (M - o) data Tryz.underlying57 size_byte (by omega)
    (fun jj hjj => by rw [(hrow9.drew.2 (o + jj) (by rw [sizedL_len]; omega)).1]; rfl) (fun jj hjj => (hrow9.drew.2 (o + jj) (by rw [sizedL_len]; omega)).2)
  have hrowB := byterow_lay hrow9.drew o data.data.toList (by rw [sizedL_len, HDL.out]; omega)
  rw [HLAY.out] at hrowB
  obtain ⟨WC, hWC⟩ : ∃ WC, w9.drew.setCells gs o (data.data.toList.map fun x => Value.int .u8 (x.toNat : Int)) = WC := ⟨_, rfl⟩
  rw [hWC] at hrowB hcp
  have hbC : Below Z2.heap.size Z2 WC := by rw [← hWC]; exact below_setCells hg9 _ _ _ (Below.drew hb9')
  have HB9' := Lib.hid hb9'
  have HBC := Lib.hid hbC
  have HRB := Lib.hid hrowB
  have HZ0 := Lib.hid z0
  have HF3 := Lib.hid f3
  have HJ7 := Lib.hid j7
  have HJ0 := Lib.hid j0
  clear hdr hb9 hrow9 hb9' hWC hbC hrowB f3 z0 z1 z2 j0 j1 j2 j3 j4 j7 f0
  go_wp2_with fail
  refine wp_region_quiet_tail 6 (by kernel_rfl) (by kernel_rfl) ?_
  simp only [List.take_succ_cons, List.take_zero, List.drop_succ_cons, List.drop_zero]
  repeat (go_big_quiet_step (fail))
  refine wpQuiet_nil ?_
  have hconv : (convert 57 9 (.slice (some ⟨gs, 0, none⟩) M M)).run Tryz.prog WC = .ok (.string NT) WC := by
   rw [← HNT.out]
   exact Cv.back_of HRB.out M M HLN.out
  have hbw := HBC.out
  have z9 := (hbw.cell (p := ⟨p, 0, .none⟩) (by show p < _; omega)).trans HZ0.out
  have d9 := (hbw.cell (p := ⟨g, og + i * 4 + 3, .none⟩) hgl).trans HF3.out
  have k7 := (hbw.cell (p := ⟨w.heap.size, 7, .none⟩) (by show w.heap.size < _; omega)).trans HJ7.out
  have k0 := (hbw.cell (p := ⟨w.heap.size, 0, .none⟩) (by show w.heap.size < _; omega)).trans HJ0.out
  have HO9 := Lib.hid (HO2.out.below hbw)
  have HB9 := Lib.hid (Cv.next HB4.out hbw)
  have HR9 : Hid (ResAt WC W.heap.size (.int .i64 0) (.int .i64 0) (.int .i64 0) (.bool false) (.string ⟨#[]⟩) (.slice none 0 0)) := Lib.hid ((hbw.block W.heap.size HR2.out.lt).trans HR2.out)
  have hs9 : Z2.heap.size ≤ WC.heap.size := hbw.size
  have hi9 := HI2.out.below hbw
  have ff9 := (hi9.free (by omega)).2 (og + i * 4 + 3)
  obtain ⟨hBg, hfree⟩ := hi9.free (by omega)
  obtain ⟨cur9, hcur9⟩ := hi9.tag (by omega)
  obtain ⟨V, hV⟩ : ∃ V, WC.setCell ⟨g, og + i * 4 + 3, .none⟩ (.string NT) = V := ⟨_, rfl⟩
  have hov : Own B V p { s with inos := s.inos.set i { x' with data := txt (layL x'.data.data.toList o data.data.toList) } } := by
   rw [← hV]
   refine HO9.out.setIno i 3 x' { x' with data := txt (layL x'.data.data.toList o data.data.toList) } (.string NT) HX.out (.inr rfl) rfl rfl (by intro h; omega) (fun _ => ⟨by rw [← HNT.out], rfl⟩) (HO9.out.sized.setData HX.out _ HZN.out) g og n cp z9
  have hbv : Below B w V := by rw [← hV]; exact (HB9.out.mono hB).setCell (p := ⟨g, og + i * 4 + 3, .none⟩) hBg _
  have hav : Aside p w V := by rw [← hV]; exact (Aside.below HB9.out).trans (Aside.set (w := WC) hcur9 (.inl rfl))
  have hrv : ResAt V W.heap.size (.int .i64 0) (.int .i64 0) (.int .i64 0) (.bool false) (.string ⟨#[]⟩) (.slice none 0 0) := by
   have hne : W.heap.size ≠ g := by
    intro e9
    have h5 := HR9.out
    rw [e9] at h5
    unfold ResAt at h5
    rw [hcur9] at h5
    injection h5 with h5
    injection h5 with _ h6
    exact absurd h6 (by decide)
   rw [← hV]
   exact (Below.heap_setCell WC ⟨g, og + i * 4 + 3, .none⟩ _ _ hne).trans HR9.out
  have hsv : V.heap.size = WC.heap.size := by rw [← hV]; simp [World.setCell]
  have HOV := Lib.hid hov
  have HBV := Lib.hid hbv
  have HAV := Lib.hid hav
  have HRV := Lib.hid hrv
  have hne2 : g ≠ w.heap.size := by
   intro e9
   have h5 := hbw.block w.heap.size (by omega)
   rw [HF2.out.call] at h5
   unfold caRow at h5
   rw [e9, h5] at hcur9
   injection hcur9 with hcur9
   injection hcur9 with _ h6
   exact absurd h6 (by decide)
  have k7' : V.cell? ⟨w.heap.size, 7, .none⟩ = some (.string data) := by
   rw [← hV]
   refine (World.cell?_setCell_other _ _ _ _ (fun e9 => ?_)).trans k7
   injection e9 with e9
   first | exact hne2 e9 | exact hne2 e9.symm
  have hr10 := HRV.out
  rw [hsz1] at hr10
  obtain ⟨g0, g1', g2', g3, g4, g5, gf⟩ := hr10.get
  clear hbw hi9 hfree hcur9 hov hbv hav hrv hr10
  have hr10 := HRV.out
  rw [hsz1] at hr10
  obtain ⟨g0, g1', g2', g3, g4, g5, gf⟩ := hr10.get
  obtain ⟨W9, hW9, hr9, ho9, hb9, ha9⟩ := endO hr10 HOV.out HBV.out HAV.out hB (.int .i64 0) (.int .i64 0) (.int .i64 (data.size : Nat)) (.bool false) (.string ⟨#[]⟩) (.slice none 0 0)
  have HR5 := Lib.hid hr9
  have HOF := Lib.hid ho9
  have HBF := Lib.hid hb9
  have HAS := Lib.hid ha9
  clear hr10 hr9 ho9 hb9 ha9
  go_wp2_with fail
  (try simp only [Exit.inBlock, Exit.then])
  refine ret_res rfl HR5.out rfl rfl ?_
  exact ⟨rfl, HOF.out, HBF.out, HAS.out⟩
end Go.Proofs.YthhceopnnappgaaGreatDoor
