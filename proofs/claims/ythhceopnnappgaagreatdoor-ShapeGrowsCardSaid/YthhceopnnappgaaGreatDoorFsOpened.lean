/- opened of the document (Open): by its contract. -/
import Derived.Test.YthhceopnnappgaaGreatDoorFsMake
import Derived.Test.YthhceopnnappgaaGreatDoorM18
import Derived.Test.YthhceopnnappgaaGreatDoorM06
set_option linter.unusedVariables false
set_option linter.unusedSimpArgs false
namespace Go.Proofs.YthhceopnnappgaaGreatDoor
open Go.RowKit
def freeK (ds : List Ds) (core : Int) : Nat → Nat → Int
 | 0, _ => -1
 | n + 1, k => if fdV ds core k = 0 then k else freeK ds core n (k + 1)
theorem freeK_all (ds : List Ds) (core : Int) : freeK ds core 4 0 = if freeFd ds core = 4 then -1 else (freeFd ds core : Int) := by
 have hl : freeK ds core 4 0 = if fdV ds core 0 = 0 then 0 else if fdV ds core 1 = 0 then 1 else if fdV ds core 2 = 0 then 2 else if fdV ds core 3 = 0 then 3 else -1 := rfl
 rw [hl]
 unfold freeFd
 by_cases h0 : fdV ds core 0 = 0
 ·simp [h0]
 by_cases h1 : fdV ds core 1 = 0
 ·simp [h0, h1]
 by_cases h2 : fdV ds core 2 = 0
 ·simp [h0, h1, h2]
 by_cases h3 : fdV ds core 3 = 0
 ·simp [h0, h1, h2, h3]
 simp [h0, h1, h2, h3]
theorem freeFd_zero (ds : List Ds) (core : Int) (h : freeFd ds core ≠ 4) : (freeFd ds core : Int) < 4 ∧ fdV ds core (freeFd ds core : Int) = 0 := by
 unfold freeFd at h ⊢
 by_cases h0 : fdV ds core 0 = 0
 ·simp [h0]
 by_cases h1 : fdV ds core 1 = 0
 ·simp [h0, h1]
 by_cases h2 : fdV ds core 2 = 0
 ·simp [h0, h1, h2]
 by_cases h3 : fdV ds core 3 = 0
 ·simp [h0, h1, h2, h3]
 simp [h0, h1, h2, h3] at h
theorem freeK_step (ds : List Ds) (core : Int) (k : Nat) (h : k < 4) : freeK ds core (4 - k) k = if fdV ds core k = 0 then (k : Int) else freeK ds core (4 - (k + 1)) (k + 1) := by
 obtain ⟨n, hn⟩ : ∃ n, 4 - k = n + 1 := ⟨3 - k, by omega⟩
 rw [hn, show 4 - (k + 1) = n by omega]
 rfl
theorem findV_at {is : List Ino} (hw : Whole is) (path : ByteArray) (h : (findV is path).2 = 0) : 0 ≤ atV is (findV is path).1 := by
 unfold findV at h ⊢
 by_cases h1 : (parseL path.data.toList).2 ≠ 0
 ·rw [if_pos h1] at h
  unfold codeP at h
  rw [if_neg h1] at h
  split at h <;> cases h
 rw [if_neg h1] at h ⊢
 exact walkG_some hw _ _ hw.1 h
set_option maxRecDepth 100000 in
set_option maxHeartbeats 16000000 in
theorem opened_any (B p : Nat) (s : St) (c : Ca) (want : Int) (w : World) (h : Own B w p s) (hB : B ≤ w.heap.size) (hw : Whole s.inos) (hpz : c.path.size ≤ 140737488355328)
  (hz1 : Sized (openedV s c want).1) :
  Calls Tryz.prog 67 #[.pointer (some ⟨p, 0, .none⟩), caV c, .int .i64 want] w fun e w' => e = .returned (.tuple #[resV (openedV s c want).2.1, .bool (openedV s c want).2.2]) ∧ Own B w' p (openedV s c want).1 ∧ Below B w w' ∧ Aside p w w' := by
 obtain ⟨A, n, cp, E, m, d, D, k, e, hBp, hp, c0, c1, c2, fz, hst, hI, hD, hM⟩ := h.val
 obtain ⟨RV, hRV⟩ : ∃ RV, openedV s c want = RV := ⟨_, rfl⟩
 rw [hRV] at hz1 ⊢
 unfold openedV at hRV
 obtain ⟨⟨NU, CD⟩, hFI⟩ : ∃ P, findV s.inos c.path = P := ⟨_, rfl⟩
 rw [hFI] at hRV
 dsimp only at hRV
 obtain ⟨W, hW, hbc, hal, hsz1⟩ := box_ca w c
 obtain ⟨W2, hW2⟩ : ∃ W2, W.alloc (.cells #[.int .i64 0, .int .i64 0, .int .i64 0, .bool false, .string ⟨#[]⟩, .slice none 0 0] 44) = W2 := ⟨_, rfl⟩
 have hr2 : ResAt W2 W.heap.size (.int .i64 0) (.int .i64 0) (.int .i64 0) (.bool false) (.string ⟨#[]⟩) (.slice none 0 0) := by rw [← hW2]; exact heap_alloc_new W _
 have hal2 : Below W.heap.size W W2 := by rw [← hW2]; exact (Below.refl _ _).alloc (Nat.le_refl _) _
 have hsz2 : W2.heap.size = W.heap.size + 1 := by rw [← hW2]; simp
 have hb2 : Below w.heap.size w W2 := Cv.next hal hal2
 have hbc2 := (hal2.block w.heap.size (by omega)).trans hbc
 obtain ⟨G, hG⟩ : ∃ G, W.heap.size = G := ⟨_, rfl⟩
 rw [hG] at hr2
 have h2 := h.below hb2
 have x0 := (hb2.cell (p := ⟨p, 0, .none⟩) hp).trans c0
 have x1 := (hb2.cell (p := ⟨p, 1, .none⟩) hp).trans c1
 have x2 := (hb2.cell (p := ⟨p, 2, .none⟩) hp).trans c2
 have k5 : W2.cell? ⟨w.heap.size, 5, .none⟩ = some (.string c.path) := by rw [cell_of_row W2 w.heap.size _ _ _ (0, 0) hbc2]; rfl
 have HST := Lib.hid (hst.below hb2).weak
 have HOW := Lib.hid h2
 have HRES := Lib.hid hr2
 have HBC := Lib.hid hbc2
 have HB2 := Lib.hid hb2
 have HRV := Lib.hid hRV
 have HFI := Lib.hid hFI
 have HW := Lib.hid hw
 have HZ1 := Lib.hid hz1
 have hGs : G < W2.heap.size := by omega
 have hwG : w.heap.size < G := by omega
 have hps : p < w.heap.size := hp
 clear h h2 hst hI hD hM hRV hFI hw hz1 hbc hbc2 hal hal2 hr2 hb2 c0 c1 c2 fz hsz1 hsz2
 unfold caV
 go_enter Tryz.func67, Tryz.ntmps67
 go_wp2_with fail
 clear hW hW2 hG
 have hX := @Ext.cell W2
 refine wre ?_
 repeat (go_big_quiet_step (first | (go_at_call 89; rename_i X; exact Calls.ext_of (by have := find_any _ s c.path _ (HST.out.below X.bel) HW.out hpz; rw [HFI.out] at this; dsimp only at this; exact this))))
 refine wpQuiet_nil ?_
 rintro w7 ⟨X, rfl⟩
 generalize hZe : X.w = Z1
 have hZ1 := hZe ▸ X.bel
 have HB3 := Lib.hid (Cv.next HB2.out hZ1)
 have HO1 := Lib.hid (HOW.out.below hZ1)
 have hs1 : W2.heap.size ≤ Z1.heap.size := hZ1.size
 have HR1 : Hid (ResAt Z1 G _ _ _ _ _ _) := Lib.hid ((hZ1.block G hGs).trans HRES.out)
 have HC1 := Lib.hid ((hZ1.block w.heap.size (by omega)).trans HBC.out)
 have HS1 := Lib.hid (HST.out.below hZ1)
 have y0 := (hZ1.cell (p := ⟨p, 0, .none⟩) (by show p < _; omega)).trans x0
 have y1 := (hZ1.cell (p := ⟨p, 1, .none⟩) (by show p < _; omega)).trans x1
 have y2 := (hZ1.cell (p := ⟨p, 2, .none⟩) (by show p < _; omega)).trans x2
 clear hZe X hX hZ1 x0 x1 x2 k5
 by_cases hcd : CD = 0
 rotate_left
 ·have q0 : (CD == 0) = false := by rw [beq_eq_false_iff_ne]; exact hcd
  have q1 : (CD != 0) = true := by rw [bne_iff_ne]; exact hcd
  have hr := HRV.out
  rw [if_pos hcd] at hr
  have HR9 := Lib.hid hr
  clear hr
  have hX := @Ext.cell Z1
  go_wp2_with fail
  refine wre ?_
  repeat (go_big_quiet_step (fail))
  refine wpQuiet_nil ?_
  rintro w7 ⟨X, rfl⟩
  generalize hZe : X.w = Z3
  have hZ3 := hZe ▸ X.bel
  have HB5 := Lib.hid (Cv.next HB3.out hZ3)
  have HO3 := Lib.hid (HO1.out.below hZ3)
  have hs3 : W2.heap.size ≤ Z3.heap.size := Nat.le_trans hs1 hZ3.size
  have HR3 : Hid (ResAt Z3 G _ _ _ _ _ _) := Lib.hid ((hZ3.block G (by omega)).trans HR1.out)
  clear hZe X hX hZ3
  go_wp2_with fail
  refine (fail_any CD _).mono ?_
  rintro e5 w5 ⟨rfl, hb5⟩
  have hres5 : ResAt w5 G _ _ _ _ _ _ := (hb5.block G (by omega)).trans HR3.out
  obtain ⟨g0, g1, g2, g3, g4, g5, gf⟩ := hres5.get
  obtain ⟨W9, hW9, hr9, k9, b9, _, _⟩ := hres5.six (.int .i64 CD) (.int .i64 0) (.int .i64 0) (.bool false) (.string ⟨#[]⟩) (.slice none 0 0)
  have HR5 := Lib.hid hr9
  have HOF := Lib.hid ((HO3.out.below hb5).keep k9)
  have HBF := Lib.hid (b9 B w (by omega) ((HB5.out.trans (hb5.mono (by have := HB5.out.size; omega))).mono hB))
  have HAS := Lib.hid (Aside.below (p := p) (b9 w.heap.size w (by omega) (HB5.out.trans (hb5.mono (by have := HB5.out.size; omega)))))
  clear hres5 hr9 k9 b9 hb5
  go_wp2_with fail
  (try simp only [Exit.inBlock, Exit.then])
  refine bodyPost_ret (v := .tuple #[.agg #[.int .i64 CD, .int .i64 0, .int .i64 0, .bool false, .string ⟨#[]⟩, .slice none 0 0], .bool true]) ?_ rfl ?_
  ·rw [results_cell_tmp rfl]
   have hload := run_loadVar_row (P := Tryz.prog) W9 G _ 44 _ (0, 0) _ HR5.out Tryz.underlying44 rfl (by kernel_rfl)
   simp [asAddr, hload, Result.andThen]
  ·refine ⟨?_, ?_, HBF.out, HAS.out⟩
   ·rw [← HR9.out]; rfl
   ·rw [← HR9.out]; exact HOF.out
 subst hcd
 have hX := @Ext.cell Z1
 obtain ⟨DI, hDI⟩ : ∃ DI, dirAt s.inos NU = DI := ⟨_, rfl⟩
 have hat : 0 ≤ atV s.inos NU := by have := findV_at HW.out c.path (by rw [HFI.out]); rw [HFI.out] at this; exact this
 have hr := HRV.out
 rw [if_neg (by simp), hDI] at hr
 obtain ⟨i, x, hai, hxi, hxn⟩ := atV_some hat
 have hDI2 := hDI
 unfold dirAt at hDI2
 rw [hai, inoAt_nat, hxi] at hDI2
 dsimp only at hDI2
 subst hDI2
 obtain ⟨⟨A', n', c', E', m', d', D', k', e', hval, hI, hD, hM, h5, h6, h7⟩, hzz⟩ := HS1.out
 injection hval with hval
 have hv1 : (Value.slice A n cp) = .slice A' n' c' := by
  have := congrArg (fun a => a[0]?) hval
  simpa using this
 injection hv1 with v1 v2 v3
 subst v1 v2 v3
 have hin : i < n := by have := (List.getElem?_eq_some_iff.1 hxi).1; have := hI.1; omega
 obtain ⟨g, off, x', E2, m2, d2, rfl, hg, hx', _, _, _, xc1, _, _, _, _⟩ := hI.get i hin
 have ex : x = x' := by rw [hxi] at hx'; exact Option.some.inj hx'
 subst ex
 have HRV1 := Lib.hid hr
 have HDI := Lib.hid hDI
 have HAI := Lib.hid hai
 have i0 : (0 : Int) ≤ (i : Int) := by omega
 have i1 : (i : Int) < (n : Int) := by omega
 clear hr hDI hat hxi hxn hval hI hD hM h5 h6 h7 hzz hx' hai
 go_wp2_with fail
 refine wre ?_
 repeat (go_big_quiet_step (first | (go_at_call 57; rename_i X; exact Calls.ext_of (by have := at_any _ s NU _ (HS1.out.below X.bel); rw [HAI.out] at this; exact this))))
 refine wpQuiet_nil ?_
 rintro w7 ⟨X, rfl⟩
 generalize hZe : X.w = Z2
 have hZ2 := hZe ▸ X.bel
 have HB4 := Lib.hid (Cv.next HB3.out hZ2)
 have HO2 := Lib.hid (HO1.out.below hZ2)
 have hs2 : W2.heap.size ≤ Z2.heap.size := Nat.le_trans hs1 hZ2.size
 have HR2 : Hid (ResAt Z2 G _ _ _ _ _ _) := Lib.hid ((hZ2.block G (by omega)).trans HR1.out)
 have HC2 := Lib.hid ((hZ2.block w.heap.size (by omega)).trans HC1.out)
 have HS2 := Lib.hid (HS1.out.below hZ2)
 have z0 := (hZ2.cell (p := ⟨p, 0, .none⟩) (by show p < _; omega)).trans y0
 have z1 := (hZ2.cell (p := ⟨p, 1, .none⟩) (by show p < _; omega)).trans y1
 have z2 := (hZ2.cell (p := ⟨p, 2, .none⟩) (by show p < _; omega)).trans y2
 have k1 : Z2.cell? ⟨w.heap.size, 1, .none⟩ = some (.int .i64 c.core) := by rw [cell_of_row Z2 w.heap.size _ _ _ (0, 0) HC2.out]; rfl
 clear hZe X hX hZ2 y0 y1 y2 xc1
 obtain ⟨DI, hdd⟩ : ∃ DI, x.dir = DI := ⟨_, rfl⟩
 rw [hdd]
 have hr := HRV1.out
 rw [hdd] at hr
 have HRV2 := Lib.hid hr
 clear hr hdd
 cases DI
 rotate_left
 ·have hr := HRV2.out
  rw [if_pos rfl] at hr
  have HR9 := Lib.hid hr
  clear hr
  go_wp2_with fail
  refine (fail_any 8 _).mono ?_
  rintro e5 w5 ⟨rfl, hb5⟩
  have hres5 : ResAt w5 G _ _ _ _ _ _ := (hb5.block G (by omega)).trans HR2.out
  obtain ⟨g0, g1, g2, g3, g4, g5, gf⟩ := hres5.get
  obtain ⟨W9, hW9, hr9, k9, b9, _, _⟩ := hres5.six (.int .i64 8) (.int .i64 0) (.int .i64 0) (.bool false) (.string ⟨#[]⟩) (.slice none 0 0)
  have HR5 := Lib.hid hr9
  have HOF := Lib.hid ((HO2.out.below hb5).keep k9)
  have HBF := Lib.hid (b9 B w (by omega) ((HB4.out.trans (hb5.mono (by have := HB4.out.size; omega))).mono hB))
  have HAS := Lib.hid (Aside.below (p := p) (b9 w.heap.size w (by omega) (HB4.out.trans (hb5.mono (by have := HB4.out.size; omega)))))
  clear hres5 hr9 k9 b9 hb5
  go_wp2_with fail
  (try simp only [Exit.inBlock, Exit.then])
  refine bodyPost_ret (v := .tuple #[.agg #[.int .i64 8, .int .i64 0, .int .i64 0, .bool false, .string ⟨#[]⟩, .slice none 0 0], .bool true]) ?_ rfl ?_
  ·rw [results_cell_tmp rfl]
   have hload := run_loadVar_row (P := Tryz.prog) W9 G _ 44 _ (0, 0) _ HR5.out Tryz.underlying44 rfl (by kernel_rfl)
   simp [asAddr, hload, Result.andThen]
  ·refine ⟨?_, ?_, HBF.out, HAS.out⟩
   ·rw [← HR9.out]; rfl
   ·rw [← HR9.out]; exact HOF.out
 have hr := HRV2.out
 rw [if_neg (by decide)] at hr
 have HRV3 := Lib.hid hr
 obtain ⟨FF, hFF⟩ : ∃ FF, freeK s.opn c.core 4 0 = FF := ⟨_, rfl⟩
 have HFF := Lib.hid hFF
 clear hr hFF
 go_wp2_with fail
 go_loopw [10, 11] (fun fv iv wr => ∃ (k : Nat) (fz iz : Int), fv = .int .i64 fz ∧ iv = .int .i64 iz ∧ iz = (k : Int) - 1 ∧ freeK s.opn c.core (4 - k) k = fz ∧ k ≤ 4 ∧ Below Z2.heap.size Z2 wr) (fun _ iv _ => (intOf iv + 1).toNat)
 case atStart => exact ⟨4, -1, 3, rfl, rfl, rfl, rfl, by omega, Below.refl _ _⟩
 case round =>
  obtain ⟨kk, fz, iz, rfl, rfl, hiz, hfz, hk4, hbel⟩ := hrel
  have HB := Lib.hid (Cv.next HB4.out hbel)
  have HOr := Lib.hid (HO2.out.below hbel)
  have hsr : W2.heap.size ≤ wr.heap.size := Nat.le_trans hs2 hbel.size
  have HRr : Hid (ResAt wr G _ _ _ _ _ _) := Lib.hid ((hbel.block G (by omega)).trans HR2.out)
  have HCr := Lib.hid ((hbel.block w.heap.size (by omega)).trans HC2.out)
  have HSr := Lib.hid (HS2.out.below hbel)
  have r0 := (hbel.cell (p := ⟨p, 0, .none⟩) (by show p < _; omega)).trans z0
  have r1 := (hbel.cell (p := ⟨p, 1, .none⟩) (by show p < _; omega)).trans z1
  have r2 := (hbel.cell (p := ⟨p, 2, .none⟩) (by show p < _; omega)).trans z2
  have kr : wr.cell? ⟨w.heap.size, 1, .none⟩ = some (.int .i64 c.core) := by rw [cell_of_row wr w.heap.size _ _ _ (0, 0) HCr.out]; rfl
  have hX := @Ext.cell wr
  have HBL := Lib.hid hbel
  have HFZ := Lib.hid hfz
  clear hbel z0 z1 z2 k1 hfz
  rcases kk with _ | kk
  ·have eiz : iz = -1 := by omega
   have hff := HFZ.out
   rw [HFF.out] at hff
   have hall := freeK_all s.opn c.core
   rw [HFF.out, hff] at hall
   have HALL := Lib.hid hall
   have qm : decide ((0 : Int) ≤ iz) = false := by rw [decide_eq_false_iff_not]; omega
   clear eiz hiz
   clear hall
   by_cases hfree : freeFd s.opn c.core = 4
   ·have hr := HRV3.out
    rw [if_pos hfree] at hr
    have HR9 := Lib.hid hr
    have efz : fz = -1 := by have := HALL.out; rw [if_pos hfree] at this; exact this
    subst efz
    clear hr hX
    go_wp2_with fail
    refine (fail_any 10 _).mono ?_
    rintro e5 w5 ⟨rfl, hb5⟩
    have hres5 : ResAt w5 G _ _ _ _ _ _ := (hb5.block G (by omega)).trans HRr.out
    obtain ⟨g0, g1, g2, g3, g4, g5, gf⟩ := hres5.get
    obtain ⟨W9, hW9, hr9, k9, b9, _, _⟩ := hres5.six (.int .i64 10) (.int .i64 0) (.int .i64 0) (.bool false) (.string ⟨#[]⟩) (.slice none 0 0)
    have HR5 := Lib.hid hr9
    have HOF := Lib.hid ((HOr.out.below hb5).keep k9)
    have HBF := Lib.hid (b9 B w (by omega) ((HB.out.trans (hb5.mono (by have := HB.out.size; omega))).mono hB))
    have HAS := Lib.hid (Aside.below (p := p) (b9 w.heap.size w (by omega) (HB.out.trans (hb5.mono (by have := HB.out.size; omega)))))
    clear hres5 hr9 k9 b9 hb5
    go_wp2_with fail
    (try simp only [Exit.inBlock, Exit.then])
    refine bodyPost_ret (v := .tuple #[.agg #[.int .i64 10, .int .i64 0, .int .i64 0, .bool false, .string ⟨#[]⟩, .slice none 0 0], .bool true]) ?_ rfl ?_
    ·rw [results_cell_tmp rfl]
     have hload := run_loadVar_row (P := Tryz.prog) W9 G _ 44 _ (0, 0) _ HR5.out Tryz.underlying44 rfl (by kernel_rfl)
     simp [asAddr, hload, Result.andThen]
    ·refine ⟨?_, ?_, HBF.out, HAS.out⟩
     ·rw [← HR9.out]; rfl
     ·rw [← HR9.out]; exact HOF.out
   have hr := HRV3.out
   rw [if_neg hfree] at hr
   have efz : fz = (freeFd s.opn c.core : Int) := by have := HALL.out; rw [if_neg hfree] at this; exact this
   obtain ⟨fr, hfr⟩ : ∃ fr, freeFd s.opn c.core = fr := ⟨_, rfl⟩
   rw [hfr] at efz hr
   have hfrz := freeFd_zero s.opn c.core (by rw [hfr]; rw [hfr] at hfree; exact hfree)
   rw [hfr] at hfrz
   subst efz
   have HFR := Lib.hid hfr
   have q0 : decide ((fr : Int) < 0) = false := by rw [decide_eq_false_iff_not]; omega
   by_cases hwa : 0 ≤ want
   ·rw [if_pos hwa] at hr
    have HRX := Lib.hid hr
    have qw : decide ((0 : Int) ≤ want) = true := decide_eq_true hwa
    obtain ⟨FD, hFD⟩ : ∃ FD, want = FD := ⟨_, rfl⟩
    subst hFD
    clear hr
    obtain ⟨FW, hFW⟩ : ∃ FW, fdV s.opn c.core want = FW := ⟨_, rfl⟩
    have HFW := Lib.hid hFW
    obtain ⟨Q4, hQ4⟩ : ∃ Q4, decide ((4 : Int) ≤ want) = Q4 := ⟨_, rfl⟩
    have HQ4 := Lib.hid hQ4
    clear hFW
    go_wp2_with fail
    refine wre ?_
    repeat (go_big_quiet_step (first | (go_at_call 90; rename_i X; exact Calls.ext_of (by have := fd_any _ s c.core want _ (HSr.out.below X.bel); rw [HFW.out] at this; exact this))))
    cases Q4
    rotate_left
    ·repeat (go_big_quiet_step (fail))
     refine wpQuiet_nil ?_
     rintro w7 ⟨X, rfl⟩
     generalize hZe : X.w = Z4
     have hZ4 := hZe ▸ X.bel
     have HB6 := Lib.hid (Cv.next HB.out hZ4)
     have HO4 := Lib.hid (HOr.out.below hZ4)
     have hs4 : W2.heap.size ≤ Z4.heap.size := Nat.le_trans hsr hZ4.size
     have HR4 : Hid (ResAt Z4 G _ _ _ _ _ _) := Lib.hid ((hZ4.block G (by omega)).trans HRr.out)
     have hge : (4 : Int) ≤ want := by have := HQ4.out; rw [decide_eq_true_eq] at this; exact this
     have hr := HRX.out
     rw [if_pos (.inl hge)] at hr
     have HR9 := Lib.hid hr
     clear hX hr hZe X hZ4 r0 r1 r2 hQ4
     obtain ⟨g0, g1, g2, g3, g4, g5, gf⟩ := HR4.out.get
     obtain ⟨W9, hW9, hr9, k9, b9, _, _⟩ := HR4.out.six (.int .i64 0) (.int .i64 0) (.int .i64 0) (.bool false) (.string ⟨#[]⟩) (.slice none 0 0)
     have HR5 := Lib.hid hr9
     have HOF := Lib.hid (HO4.out.keep k9)
     have HBF := Lib.hid (b9 B w (by omega) (HB6.out.mono hB))
     have HAS := Lib.hid (Aside.below (p := p) (b9 w.heap.size w (by omega) HB6.out))
     clear hr9 k9 b9
     go_wp2_with fail
     (try simp only [Exit.inBlock, Exit.then])
     refine bodyPost_ret (v := .tuple #[.agg #[.int .i64 0, .int .i64 0, .int .i64 0, .bool false, .string ⟨#[]⟩, .slice none 0 0], .bool false]) ?_ rfl ?_
     ·rw [results_cell_tmp rfl]
      have hload := run_loadVar_row (P := Tryz.prog) W9 G _ 44 _ (0, 0) _ HR5.out Tryz.underlying44 rfl (by kernel_rfl)
      simp [asAddr, hload, Result.andThen]
     ·refine ⟨?_, ?_, HBF.out, HAS.out⟩
      ·rw [← HR9.out]; rfl
      ·rw [← HR9.out]; exact HOF.out
    repeat (go_big_quiet_step (first | (go_at_call 90; rename_i X; exact Calls.ext_of (by have := fd_any _ s c.core want _ (HSr.out.below X.bel); rw [HFW.out] at this; exact this))))
    refine wpQuiet_nil ?_
    rintro w7 ⟨X, rfl⟩
    generalize hZe : X.w = Z4
    have hZ4 := hZe ▸ X.bel
    have HB6 := Lib.hid (Cv.next HB.out hZ4)
    have HO4 := Lib.hid (HOr.out.below hZ4)
    have hs4 : W2.heap.size ≤ Z4.heap.size := Nat.le_trans hsr hZ4.size
    have HR4 : Hid (ResAt Z4 G _ _ _ _ _ _) := Lib.hid ((hZ4.block G (by omega)).trans HRr.out)
    have k4 := (hZ4.cell (p := ⟨w.heap.size, 1, .none⟩) (by show w.heap.size < _; omega)).trans kr
    have hge : ¬ (4 : Int) ≤ want := by have := HQ4.out; rw [decide_eq_false_iff_not] at this; exact this
    clear hZe X hX hZ4 r0 r1 r2 hQ4
    by_cases hfw : FW = 0
    ·have qf : (FW != 0) = false := by subst hfw; rfl
     have hr := HRX.out
     rw [HFW.out, if_neg (by omega)] at hr
     have HRZ := Lib.hid hr
     clear hr
     have hr := HRZ.out
     have HR9 := Lib.hid hr
     clear hr
     go_wp2_with fail
     refine (grab_any B p s c.core want NU _ HO4.out (by have := HB6.out.size; omega) (by have := HZ1.out; rw [← HR9.out] at this; exact this)).mono ?_
     rintro e5 w5 ⟨rfl, hown5, hbel5, has5⟩
     have hres5 : ResAt w5 G _ _ _ _ _ _ := (has5.same G _ _ HR4.out (by decide) (by decide) (by omega)).trans HR4.out
     obtain ⟨g0, g1, g2, g3, g4, g5, gf⟩ := hres5.get
     obtain ⟨W9, hW9, hr9, k9, b9, a9, _⟩ := hres5.six (.int .i64 0) (.int .i64 want) (.int .i64 0) (.bool false) (.string ⟨#[]⟩) (.slice none 0 0)
     have HR5 := Lib.hid hr9
     have HOF := Lib.hid (hown5.keep k9)
     have HBF := Lib.hid (b9 B w (by omega) ((HB6.out.mono hB).trans hbel5))
     have HAS : Hid (Aside p w W9) := Lib.hid ⟨by have := HBF.out.size; omega, fun b cur t hb h1 h2 h3 => by
      have hlt : b < w.heap.size := (Array.getElem?_eq_some_iff.1 hb).1
      have e1 := HB6.out.block b hlt
      have e2 := has5.same b cur t (e1.trans hb) h1 h2 h3
      exact ((a9 b (by omega)).trans e2).trans e1⟩
     clear hres5 hr9 k9 b9 a9 has5 hown5 hbel5
     go_wp2_with fail
     (try simp only [Exit.inBlock, Exit.then])
     refine bodyPost_ret (v := .tuple #[.agg #[.int .i64 0, .int .i64 want, .int .i64 0, .bool false, .string ⟨#[]⟩, .slice none 0 0], .bool true]) ?_ rfl ?_
     ·rw [results_cell_tmp rfl]
      have hload := run_loadVar_row (P := Tryz.prog) W9 G _ 44 _ (0, 0) _ HR5.out Tryz.underlying44 rfl (by kernel_rfl)
      simp [asAddr, hload, Result.andThen]
     ·refine ⟨?_, ?_, HBF.out, HAS.out⟩
      ·rw [← HR9.out]; rfl
      ·rw [← HR9.out]; exact HOF.out
    ·have qf : (FW != 0) = true := by rw [bne_iff_ne]; exact hfw
     have hr := HRX.out
     rw [HFW.out, if_pos (.inr hfw)] at hr
     have HR9 := Lib.hid hr
     clear hr
     obtain ⟨g0, g1, g2, g3, g4, g5, gf⟩ := HR4.out.get
     obtain ⟨W9, hW9, hr9, k9, b9, _, _⟩ := HR4.out.six (.int .i64 0) (.int .i64 0) (.int .i64 0) (.bool false) (.string ⟨#[]⟩) (.slice none 0 0)
     have HR5 := Lib.hid hr9
     have HOF := Lib.hid (HO4.out.keep k9)
     have HBF := Lib.hid (b9 B w (by omega) (HB6.out.mono hB))
     have HAS := Lib.hid (Aside.below (p := p) (b9 w.heap.size w (by omega) HB6.out))
     clear hr9 k9 b9
     go_wp2_with fail
     (try simp only [Exit.inBlock, Exit.then])
     refine bodyPost_ret (v := .tuple #[.agg #[.int .i64 0, .int .i64 0, .int .i64 0, .bool false, .string ⟨#[]⟩, .slice none 0 0], .bool false]) ?_ rfl ?_
     ·rw [results_cell_tmp rfl]
      have hload := run_loadVar_row (P := Tryz.prog) W9 G _ 44 _ (0, 0) _ HR5.out Tryz.underlying44 rfl (by kernel_rfl)
      simp [asAddr, hload, Result.andThen]
     ·refine ⟨?_, ?_, HBF.out, HAS.out⟩
      ·rw [← HR9.out]; rfl
      ·rw [← HR9.out]; exact HOF.out
   ·rw [if_neg hwa] at hr
    have HRZ := Lib.hid hr
    have qw : decide ((0 : Int) ≤ want) = false := decide_eq_false hwa
    obtain ⟨FD, hFD⟩ : ∃ FD : Int, (fr : Int) = FD := ⟨_, rfl⟩
    rw [hFD] at HRZ hfrz ⊢
    clear hr
    obtain ⟨FW, hFW⟩ : ∃ FW, fdV s.opn c.core FD = FW := ⟨_, rfl⟩
    have HFW := Lib.hid hFW
    obtain ⟨Q4, hQ4⟩ : ∃ Q4, decide ((4 : Int) ≤ FD) = Q4 := ⟨_, rfl⟩
    have HQ4 := Lib.hid hQ4
    clear hFW
    go_wp2_with fail
    refine wre ?_
    repeat (go_big_quiet_step (first | (go_at_call 90; rename_i X; exact Calls.ext_of (by have := fd_any _ s c.core FD _ (HSr.out.below X.bel); rw [HFW.out] at this; exact this))))
    cases Q4
    rotate_left
    ·repeat (go_big_quiet_step (fail))
     refine wpQuiet_nil ?_
     rintro w7 ⟨X, rfl⟩
     generalize hZe : X.w = Z4
     have hZ4 := hZe ▸ X.bel
     have HB6 := Lib.hid (Cv.next HB.out hZ4)
     have HO4 := Lib.hid (HOr.out.below hZ4)
     have hs4 : W2.heap.size ≤ Z4.heap.size := Nat.le_trans hsr hZ4.size
     have HR4 : Hid (ResAt Z4 G _ _ _ _ _ _) := Lib.hid ((hZ4.block G (by omega)).trans HRr.out)
     have hge : (4 : Int) ≤ FD := by have := HQ4.out; rw [decide_eq_true_eq] at this; exact this
     exact absurd hge (by omega)
    repeat (go_big_quiet_step (first | (go_at_call 90; rename_i X; exact Calls.ext_of (by have := fd_any _ s c.core FD _ (HSr.out.below X.bel); rw [HFW.out] at this; exact this))))
    refine wpQuiet_nil ?_
    rintro w7 ⟨X, rfl⟩
    generalize hZe : X.w = Z4
    have hZ4 := hZe ▸ X.bel
    have HB6 := Lib.hid (Cv.next HB.out hZ4)
    have HO4 := Lib.hid (HOr.out.below hZ4)
    have hs4 : W2.heap.size ≤ Z4.heap.size := Nat.le_trans hsr hZ4.size
    have HR4 : Hid (ResAt Z4 G _ _ _ _ _ _) := Lib.hid ((hZ4.block G (by omega)).trans HRr.out)
    have k4 := (hZ4.cell (p := ⟨w.heap.size, 1, .none⟩) (by show w.heap.size < _; omega)).trans kr
    have hge : ¬ (4 : Int) ≤ FD := by have := HQ4.out; rw [decide_eq_false_iff_not] at this; exact this
    clear hZe X hX hZ4 r0 r1 r2 hQ4
    have qf : FW = 0 := by rw [← HFW.out]; exact hfrz.2
    subst qf
    have hr := HRZ.out
    have HR9 := Lib.hid hr
    clear hr
    go_wp2_with fail
    refine (grab_any B p s c.core FD NU _ HO4.out (by have := HB6.out.size; omega) (by have := HZ1.out; rw [← HR9.out] at this; exact this)).mono ?_
    rintro e5 w5 ⟨rfl, hown5, hbel5, has5⟩
    have hres5 : ResAt w5 G _ _ _ _ _ _ := (has5.same G _ _ HR4.out (by decide) (by decide) (by omega)).trans HR4.out
    obtain ⟨g0, g1, g2, g3, g4, g5, gf⟩ := hres5.get
    obtain ⟨W9, hW9, hr9, k9, b9, a9, _⟩ := hres5.six (.int .i64 0) (.int .i64 FD) (.int .i64 0) (.bool false) (.string ⟨#[]⟩) (.slice none 0 0)
    have HR5 := Lib.hid hr9
    have HOF := Lib.hid (hown5.keep k9)
    have HBF := Lib.hid (b9 B w (by omega) ((HB6.out.mono hB).trans hbel5))
    have HAS : Hid (Aside p w W9) := Lib.hid ⟨by have := HBF.out.size; omega, fun b cur t hb h1 h2 h3 => by
     have hlt : b < w.heap.size := (Array.getElem?_eq_some_iff.1 hb).1
     have e1 := HB6.out.block b hlt
     have e2 := has5.same b cur t (e1.trans hb) h1 h2 h3
     exact ((a9 b (by omega)).trans e2).trans e1⟩
    clear hres5 hr9 k9 b9 a9 has5 hown5 hbel5
    go_wp2_with fail
    (try simp only [Exit.inBlock, Exit.then])
    refine bodyPost_ret (v := .tuple #[.agg #[.int .i64 0, .int .i64 FD, .int .i64 0, .bool false, .string ⟨#[]⟩, .slice none 0 0], .bool true]) ?_ rfl ?_
    ·rw [results_cell_tmp rfl]
     have hload := run_loadVar_row (P := Tryz.prog) W9 G _ 44 _ (0, 0) _ HR5.out Tryz.underlying44 rfl (by kernel_rfl)
     simp [asAddr, hload, Result.andThen]
    ·refine ⟨?_, ?_, HBF.out, HAS.out⟩
     ·rw [← HR9.out]; rfl
     ·rw [← HR9.out]; exact HOF.out
  ·have eiz : iz = (kk : Int) := by omega
   subst eiz
   have hst := freeK_step s.opn c.core kk (by omega)
   rw [HFZ.out] at hst
   have HST2 := Lib.hid hst
   clear hst
   obtain ⟨FV, hFV⟩ : ∃ FV, fdV s.opn c.core (kk : Int) = FV := ⟨_, rfl⟩
   have HFV := Lib.hid hFV
   clear hFV hiz
   have k0 : (0 : Int) ≤ (kk : Int) := by omega
   go_wp2_with fail
   refine wre ?_
   repeat (go_big_quiet_step (first | (go_at_call 90; rename_i X; exact Calls.ext_of (by have := fd_any _ s c.core (kk : Int) _ (HSr.out.below X.bel); rw [HFV.out] at this; exact this))))
   refine wpQuiet_nil ?_
   rintro w7 ⟨X, rfl⟩
   have HB7 := Lib.hid (HBL.out.trans (X.bel.mono HBL.out.size))
   clear hX
   by_cases hz : FV = 0
   ·subst hz
    go_wp2_with fail
    go_roundw
    case rel => exact ⟨kk, (kk : Int), (kk : Int) - 1, rfl, by go_num, rfl, by rw [HST2.out, if_pos HFV.out], by omega, HB7.out⟩
    case measure => simp [intOf] <;> omega
   ·have q1 : (FV == 0) = false := by rw [beq_eq_false_iff_ne]; exact hz
    go_wp2_with fail
    go_roundw
    case rel => exact ⟨kk, fz, (kk : Int) - 1, rfl, by go_num, rfl, by rw [HST2.out, if_neg (by rw [HFV.out]; exact hz)], by omega, HB7.out⟩
    case measure => simp [intOf] <;> omega
end Go.Proofs.YthhceopnnappgaaGreatDoor
