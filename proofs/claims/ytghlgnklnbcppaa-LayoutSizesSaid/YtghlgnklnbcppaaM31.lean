/- Parts of the proof, side by side: FsSized, LaSeal. -/
import Derived.Test.YtghlgnklnbcppaaFsMake
import Derived.Test.YtghlgnklnbcppaaM13
import Derived.Lib.BufferWrite
import Derived.Deep.WholeRow
import Derived.Deep.RegionWith
import Derived.Test.YtghlgnklnbcppaaLaPut
set_option linter.unusedVariables false
set_option linter.unusedSimpArgs false
/- sized of the document; byFd for Truncate: by their contracts. -/
namespace Go.Proofs.Ytghlgnklnbcppaa
open Go.RowKit
set_option linter.unusedVariables false
set_option linter.unusedSimpArgs false
theorem sizedL_long (l : List UInt8) (k : Nat) (h : l.length ≤ k) : sizedL l k = l ++ List.replicate (k - l.length) 0 := by
  unfold sizedL
  rw [List.take_append, List.take_of_length_le h]
  congr 1
  rw [List.take_replicate]
  congr 1
  omega
set_option maxRecDepth 100000 in
set_option maxHeartbeats 4000000 in
theorem sized_any (s : ByteArray) (k : Nat) (w : World) (hs : s.size ≤ k) (hk : k ≤ 65536) :
    Calls Try.prog 111 #[.string s, .int .i64 (k : Int)] w fun e w' => ∃ g, e = .returned (.slice (some ⟨g, 0, .none⟩) k k) ∧ Cv.ByteRow w' g (sizedL s.data.toList k) ∧ w.heap.size ≤ g ∧ Below w.heap.size w w' := by
  have hl : s.data.toList.length = s.size := Array.length_toList
  have hmk := run_make_row' (P := Try.prog) 59 5 (.int .u8 0) 1 Try.underlying59 infoByte rfl .i64 .i64 k (by omega) (by omega) w
  have hg0 := heap_alloc_new w (.cells (madeCells #[.int .u8 0] k) 5)
  have hcs : (madeCells #[Value.int .u8 0] k).size = k := by simp [madeCells]
  have hcp := fun ty => Lib.run_copy_row_string (P := Try.prog) (ty := ty) (w.alloc (.cells (madeCells #[.int .u8 0] k) 5)) 59 9 5 w.heap.size 0 k k s _ _ Try.underlying59 (by kernel_rfl) hg0 hs (by rw [hcs]; omega)
  obtain ⟨NC, hNC⟩ : ∃ NC : Array Value, (((madeCells #[Value.int .u8 0] k).toList.take 0) ++ Lib.byteCells s.data.toList ++ (madeCells #[Value.int .u8 0] k).toList.drop (0 + s.size)).toArray = NC := ⟨_, rfl⟩
  have hnc : NC = (Lib.byteCells (sizedL s.data.toList k)).toArray := by
    rw [← hNC, sizedL_long _ _ (by omega), Lib.byteCells_append]
    congr 1
    have e1 : (madeCells #[Value.int .u8 0] k).toList = List.replicate k (Value.int .u8 0) := by
      apply List.ext_getElem
      · simp [madeCells]
      · intro i h1 h2
        simp [madeCells, Nat.mod_one]
    rw [e1, hl]
    simp [Lib.byteCells]
  rw [hNC, hnc] at hcp
  obtain ⟨W2, hW2⟩ : ∃ W2, w.alloc (.cells (Lib.byteCells (sizedL s.data.toList k)).toArray 5) = W2 := ⟨_, rfl⟩
  have hcp2 : ∀ ty, (Builtin.copy_ #[59, 9] ty #[.slice (some ⟨w.heap.size, 0, none⟩) k k, .string s]).run Try.prog (w.alloc (.cells (madeCells #[.int .u8 0] k) 5)) = .ok (goInt s.size) W2 := by
    intro ty
    rw [hcp ty, World.setRow_alloc_new, hW2]
  have hrow : Cv.ByteRow W2 w.heap.size (sizedL s.data.toList k) := by
    have hh : W2.heap[w.heap.size]? = some (.cells (Lib.byteCells (sizedL s.data.toList k)).toArray 5 (0, 0)) := by rw [← hW2]; exact heap_alloc_new w _
    refine ⟨(Array.getElem?_eq_some_iff.1 hh).1, fun j hj => ⟨?_, frozen_of_row W2 w.heap.size j _ _ hh⟩⟩
    rw [cell_of_row W2 w.heap.size j _ _ (0, 0) hh]
    simp [Lib.byteCells, hj]
  have hb : Below w.heap.size w W2 := by rw [← hW2]; exact (Below.refl _ _).alloc (Nat.le_refl _) _
  have HR := Lib.hid hrow
  have HB := Lib.hid hb
  clear hg0 hcs hcp hNC hnc hW2 hrow hb hl
  go_enter Try.func111, Try.ntmps111
  go_wp2_with fail
  go_ret
  exact ⟨w.heap.size, rfl, HR.out, Nat.le_refl _, HB.out⟩
/-- A file of other bytes. -/
def truncV (s : St) (i : Nat) (x : Ino) (k : Nat) : St := { s with inos := s.inos.set i { x with data := txt (sizedL x.data.data.toList k) } }
set_option maxRecDepth 100000 in
set_option maxHeartbeats 16000000 in
theorem byfd_trunc (B p : Nat) (s : St) (core fd off : Int) (num : Nat) (path path2 data : ByteArray) (NU : Int) (i : Nat) (x : Ino) (w : World) (h : Own B w p s) (hB : B ≤ w.heap.size) (hfd : fdV s.opn core fd = NU) (hnu : NU ≠ 0) (hat : atV s.inos NU = (i : Int)) (hx : s.inos[i]? = some x)
    (hxs : x.data.size ≤ num) (hn : num ≤ 256) (hz1 : Sized (truncV s i x num)) :
    Calls Try.prog 64 #[.pointer (some ⟨p, 0, .none⟩), caV ⟨6, core, fd, off, num, path, path2, data⟩] w fun e w' => e = .returned (resV {}) ∧ Own B w' p (truncV s i x num) ∧ Below B w w' ∧ Aside p w w' := by
  obtain ⟨A, n, cp, E, m, d, D, k, e, hBp, hp, c0, c1, c2, fz, hst, hI, hD, hM⟩ := h.val
  obtain ⟨W, hW, hbc, hal, hsz1⟩ := box_ca w ⟨6, core, fd, off, num, path, path2, data⟩
  obtain ⟨W2, hW2⟩ : ∃ W2, W.alloc (.cells #[.int .i64 0, .int .i64 0, .int .i64 0, .bool false, .string ⟨#[]⟩, .slice none 0 0] 37) = W2 := ⟨_, rfl⟩
  have hr2 : ResAt W2 W.heap.size (.int .i64 0) (.int .i64 0) (.int .i64 0) (.bool false) (.string ⟨#[]⟩) (.slice none 0 0) := by rw [← hW2]; exact heap_alloc_new W _
  have hal2 : Below W.heap.size W W2 := by rw [← hW2]; exact (Below.refl _ _).alloc (Nat.le_refl _) _
  have hsz2 : W2.heap.size = W.heap.size + 1 := by rw [← hW2]; simp
  have hb2 : Below w.heap.size w W2 := Cv.next hal hal2
  have hbc2 := (hal2.block w.heap.size (by omega)).trans hbc
  have h2 := h.below hb2
  have x0 := (hb2.cell (p := ⟨p, 0, .none⟩) hp).trans c0
  have x1 := (hb2.cell (p := ⟨p, 1, .none⟩) hp).trans c1
  have x2 := (hb2.cell (p := ⟨p, 2, .none⟩) hp).trans c2
  have k0 : W2.cell? ⟨w.heap.size, 0, none⟩ = some (.int .i64 6) := by rw [cell_of_row W2 w.heap.size _ _ _ (0, 0) hbc2]; rfl
  have k1 : W2.cell? ⟨w.heap.size, 1, none⟩ = some (.int .i64 core) := by rw [cell_of_row W2 w.heap.size _ _ _ (0, 0) hbc2]; rfl
  have k2 : W2.cell? ⟨w.heap.size, 2, none⟩ = some (.int .i64 fd) := by rw [cell_of_row W2 w.heap.size _ _ _ (0, 0) hbc2]; rfl
  have k4 : W2.cell? ⟨w.heap.size, 4, none⟩ = some (.int .i64 num) := by rw [cell_of_row W2 w.heap.size _ _ _ (0, 0) hbc2]; rfl
  have HST := Lib.hid (hst.below hb2).weak
  have HI := Lib.hid (hI.below hb2)
  have HOW := Lib.hid h2
  have HRES := Lib.hid hr2
  have HBC := Lib.hid hbc2
  have HB2 := Lib.hid hb2
  have HFD := Lib.hid hfd
  have HAT := Lib.hid hat
  have HX := Lib.hid hx
  have HZ1 := Lib.hid hz1
  have hps : p < w.heap.size := hp
  clear h h2 hst hI hD hM hfd hat hx hz1 hbc hbc2 hal hal2 hr2 hb2 c0 c1 c2 fz
  unfold caV
  go_enter Try.func64, Try.ntmps64
  go_wp2_with fail
  clear hW hW2
  have hX : ∀ (X : Ext W2) (p : Addr), (W2.cell? p).isSome = true → X.w.cell? p = W2.cell? p := fun X p h => X.cell p h
  refine wp_region_ext (by kernel_rfl) (by kernel_rfl) ?_
  repeat (go_big_quiet_step (first | (go_at_call 108; rename_i X; exact Calls.ext_of (by have := fd_any _ s core fd _ (HST.out.below X.bel); rw [HFD.out] at this; exact this))))
  refine wpQuiet_nil ?_
  rintro w7 ⟨X, rfl⟩
  generalize hZe : X.w = Z1
  have hZ1 : Below W2.heap.size W2 Z1 := by rw [← hZe]; exact X.bel
  have y0 := (hZ1.cell (p := ⟨p, 0, .none⟩) (by show p < _; omega)).trans x0
  have y1 := (hZ1.cell (p := ⟨p, 1, .none⟩) (by show p < _; omega)).trans x1
  have y2 := (hZ1.cell (p := ⟨p, 2, .none⟩) (by show p < _; omega)).trans x2
  have l0 := (hZ1.cell (p := ⟨w.heap.size, 0, .none⟩) (by show w.heap.size < _; omega)).trans k0
  have l4 := (hZ1.cell (p := ⟨w.heap.size, 4, .none⟩) (by show w.heap.size < _; omega)).trans k4
  have HB3 := Lib.hid (Cv.next HB2.out hZ1)
  have HO1 := Lib.hid (HOW.out.below hZ1)
  have hs1 : W2.heap.size ≤ Z1.heap.size := hZ1.size
  have HR1 : Hid (ResAt Z1 W.heap.size _ _ _ _ _ _) := Lib.hid ((hZ1.block W.heap.size (by omega)).trans HRES.out)
  have HS1 := Lib.hid (HST.out.below hZ1)
  have HI1 := Lib.hid (HI.out.below hZ1)
  have q0 : (NU == 0) = false := by rw [beq_eq_false_iff_ne]; exact hnu
  clear hZe X hX hZ1 x0 x1 x2 k0 k1 k2 k4
  go_wp2_with fail
  have hin : i < n := by have := (List.getElem?_eq_some_iff.1 HX.out).1; have := HI1.out.1; omega
  obtain ⟨g, og, x', E3, m3, d3, rfl, hg, hx', _, hmem, _, _, _, _, _, e3⟩ := HI1.out.get i hin
  have ex : x' = x := by have h1 := HX.out; rw [hx'] at h1; exact Option.some.inj h1
  subst ex
  have i0 : (0 : Int) ≤ (i : Int) := by omega
  have i1 : (i : Int) < (n : Int) := by omega
  have hX : ∀ (X : Ext Z1) (p : Addr), (Z1.cell? p).isSome = true → X.w.cell? p = Z1.cell? p := fun X p h => X.cell p h
  clear hx' hmem
  refine wp_region_ext (by kernel_rfl) (by kernel_rfl) ?_
  repeat (go_big_quiet_step (first | (go_at_call 107; rename_i X; exact Calls.ext_of (by have := at_any _ s NU _ (HS1.out.below X.bel); rw [HAT.out] at this; exact this))))
  refine wpQuiet_nil ?_
  rintro w8 ⟨X, rfl⟩
  generalize hZe : X.w = Z2
  have hZ2 : Below Z1.heap.size Z1 Z2 := by rw [← hZe]; exact X.bel
  have z0 := (hZ2.cell (p := ⟨p, 0, .none⟩) (by show p < _; omega)).trans y0
  have l0' := (hZ2.cell (p := ⟨w.heap.size, 0, .none⟩) (by show w.heap.size < _; omega)).trans l0
  have l4' := (hZ2.cell (p := ⟨w.heap.size, 4, .none⟩) (by show w.heap.size < _; omega)).trans l4
  have f3 := (hZ2.cell (p := ⟨g, og + i * 4 + 3, .none⟩) hg).trans e3
  have HB4 := Lib.hid (Cv.next HB3.out hZ2)
  have HI2 := Lib.hid (HI1.out.below hZ2)
  have HO2 := Lib.hid (HO1.out.below hZ2)
  have hs2 : Z1.heap.size ≤ Z2.heap.size := hZ2.size
  have HR2 : Hid (ResAt Z2 W.heap.size _ _ _ _ _ _) := Lib.hid ((hZ2.block W.heap.size (by omega)).trans HR1.out)
  have g1 : decide ((num : Int) < 0) = false := by rw [decide_eq_false_iff_not]; omega
  have g2 : decide ((256 : Int) < (num : Int)) = false := by rw [decide_eq_false_iff_not]; omega
  have hgl : g < Z2.heap.size := by omega
  clear hZe X hX hZ2 y0 y1 y2 l0 l4 e3
  go_wp2_with fail
  have hdr : Below Z2.heap.size Z2 Z2.drew := Below.drew (Below.refl _ _)
  obtain ⟨NT, hNT⟩ : ∃ NT : ByteArray, (⟨(sizedL x'.data.data.toList num).toArray⟩ : ByteArray) = NT := ⟨_, rfl⟩
  have hconv : ∀ w9 gs, Cv.ByteRow w9 gs (sizedL x'.data.data.toList num) → (convert 59 9 (.slice (some ⟨gs, 0, none⟩) num num)).run Try.prog w9 = .ok (.string NT) w9 := by
    intro w9 gs hr
    rw [← hNT]
    exact Cv.back_of hr num num (by
      have : x'.data.data.toList.length = x'.data.size := Array.length_toList
      rw [sizedL_long _ _ (by omega), List.length_append, List.length_replicate]
      omega)
  have hfr : ∀ w9, Below Z2.drew.heap.size Z2.drew w9 → w9.frozen? ⟨g, og + i * 4 + 3, none⟩ = false ∧ w9.cell? ⟨g, og + i * 4 + 3, none⟩ = some (.string x'.data) ∧ w9.cell? ⟨w.heap.size, 4, none⟩ = some (.int .i64 num) := by
    intro w9 hb
    have hb' : Below Z2.heap.size Z2 w9 := hdr.trans hb
    exact ⟨((HI2.out.below hb').free (by omega)).2 _, (hb'.cell (p := ⟨g, og + i * 4 + 3, .none⟩) hgl).trans f3, (hb'.cell (p := ⟨w.heap.size, 4, .none⟩) (by show w.heap.size < _; omega)).trans l4'⟩
  have HCV := Lib.hid hconv
  have HFR := Lib.hid hfr
  clear hconv hfr
  go_region_with (first | (go_at_call 111; refine (sized_any x'.data num _ hxs (by omega)).mono ?_; rintro e9 w9 ⟨gs, rfl, hrow9, hgs9, hb9⟩; have hcv := HCV.out w9 gs hrow9; obtain ⟨ff9, fd9, fn9⟩ := HFR.out w9 hb9))
  all_goals
    have hb9' : Below Z2.heap.size Z2 w9 := hdr.trans hb9
    have HO9 := Lib.hid (HO2.out.below hb9')
    have HB9 := Lib.hid (Cv.next HB4.out hb9')
    have HR9 : Hid (ResAt w9 W.heap.size _ _ _ _ _ _) := Lib.hid ((hb9'.block W.heap.size (by omega)).trans HR2.out)
    have l9 := (hb9'.cell (p := ⟨w.heap.size, 0, .none⟩) (by show w.heap.size < _; omega)).trans l0'
    have z9 := (hb9'.cell (p := ⟨p, 0, .none⟩) (by show p < _; omega)).trans z0
    have hs9 : Z2.heap.size ≤ w9.heap.size := hb9'.size
    have hi9 := HI2.out.below hb9'
    obtain ⟨hBg, hfree⟩ := hi9.free (by omega)
    obtain ⟨cur9, hcur9⟩ : ∃ cur, w9.heap[g]? = some (.cells cur 72 (0, 0)) := by
      obtain ⟨g', off', hA, hg', hm, _⟩ := hi9.2 (by omega)
      injection hA with hA
      injection hA with hA1 hA2
      subst hA1 hA2
      exact (hm B rfl).2
    obtain ⟨V, hV⟩ : ∃ V, w9.setCell ⟨g, og + i * 4 + 3, .none⟩ (.string NT) = V := ⟨_, rfl⟩
    have hov : Own B V p (truncV s i x' num) := by
      rw [← hV]
      refine HO9.out.setIno i 3 x' { x' with data := txt (sizedL x'.data.data.toList num) } (.string NT) HX.out (.inr rfl) rfl rfl (by intro h; omega) (fun _ => ⟨by rw [← hNT]; rfl, rfl⟩) HZ1.out g og n cp z9
    have hbv : Below B w V := by rw [← hV]; exact (HB9.out.mono hB).setCell (p := ⟨g, og + i * 4 + 3, .none⟩) hBg _
    have hav : Aside p w V := by rw [← hV]; exact (Aside.below HB9.out).trans (Aside.set (w := w9) hcur9 (.inl rfl))
    have hrv : ResAt V W.heap.size (.int .i64 0) (.int .i64 0) (.int .i64 0) (.bool false) (.string ⟨#[]⟩) (.slice none 0 0) := by
      have hne : W.heap.size ≠ g := by
        intro e9
        have h5 := HR9.out
        rw [e9] at h5
        unfold ResAt at h5
        rw [hcur9] at h5
        injection h5 with h5
        injection h5 with _ h6
        exact absurd h6 (by decide)
      rw [← hV]
      exact (Below.heap_setCell w9 ⟨g, og + i * 4 + 3, .none⟩ _ _ hne).trans HR9.out
    have hsv : V.heap.size = w9.heap.size := by rw [← hV]; simp [World.setCell]
    have HOV := Lib.hid hov
    have HBV := Lib.hid hbv
    have HAV := Lib.hid hav
    have HRV := Lib.hid hrv
    rw [hV]
    clear hrow9 hgs9 hb9 hb9' hdr z0 l0' l4' f3 hi9 hfree hcur9 hov hbv hav hrv hcv ff9 fd9 fn9
    go_wp2_with fail
    clear hV
    refine (fail_any 0 V).mono ?_
    rintro e10 w10 ⟨rfl, hb10⟩
    have hr10 : ResAt w10 W.heap.size _ _ _ _ _ _ := (hb10.block W.heap.size (by omega)).trans HRV.out
    rw [hsz1] at hr10
    obtain ⟨g0, g1', g2', g3, g4, g5, gf⟩ := hr10.get
    obtain ⟨W9, hW9, hr9, k9, b9, a9, _⟩ := hr10.six (.int .i64 0) (.int .i64 0) (.int .i64 0) (.bool false) (.string ⟨#[]⟩) (.slice none 0 0)
    have HR5 := Lib.hid hr9
    have HOF := Lib.hid ((HOV.out.below hb10).keep k9)
    have HBF := Lib.hid (b9 B w (by omega) (HBV.out.trans (hb10.mono (by omega))))
    have HAS : Hid (Aside p w W9) := Lib.hid ⟨by have := HBF.out.size; omega, fun b cur t hb h1 h2 h3 => by
      have hlt : b < w.heap.size := (Array.getElem?_eq_some_iff.1 hb).1
      have e1 := HAV.out.same b cur t hb h1 h2 h3
      exact ((a9 b (by omega)).trans (hb10.block b (by omega))).trans e1⟩
    clear hr10 hr9 k9 b9 a9 hb10
    go_wp2_with fail
    (try simp only [Exit.inBlock, Exit.then])
    refine bodyPost_ret (results_cell_row rfl _ _ (w.heap.size + 1) 37 _ (0, 0) _ rfl HR5.out Try.underlying37 rfl (by kernel_rfl)) rfl ?_
    exact ⟨rfl, HOF.out, HBF.out, HAS.out⟩
end Go.Proofs.Ytghlgnklnbcppaa

/- Seal of the document; the layout's Size: by their contracts. -/
namespace Go.Proofs.Ytghlgnklnbcppaa
open Go.RowKit
set_option linter.unusedVariables false
set_option linter.unusedSimpArgs false
theorem size_bad (v : Value) (s : St) (w : World) (h : StAt none w v s) (hm : mayV s = false) :
    Calls Try.prog 13 #[v] w fun e w' => e = .returned (.int .i64 0) ∧ Below w.heap.size w w' := by
  obtain ⟨⟨A, n, cp, Bz, m, d, D, k, e, rfl, hI, hD, hM, h5, h6, h7⟩, hz⟩ := h
  obtain ⟨W, hW, b0, b1, b2, hal, hlt0⟩ := box_st w A n cp Bz m d D k e
  have hst : StAt none W (.agg #[.slice A n cp, .slice Bz m d, .slice D k e]) s := ⟨⟨A, n, cp, Bz, m, d, D, k, e, rfl, hI.below hal, hD.below hal, hM.below hal, h5, h6, h7⟩, hz⟩
  have HAL := Lib.hid hal
  have HST := Lib.hid hst
  clear hI hD hM hz hal hst h5 h6 h7
  go_enter Try.func13, Try.ntmps13
  go_wp2_with fail
  refine (put_bad _ s W HST.out hm).mono ?_
  rintro e1 w1 ⟨rfl, hb⟩
  have HB := Lib.hid (Cv.next HAL.out hb)
  clear hb
  go_wp2_with fail
  go_ret
  exact ⟨rfl, HB.out⟩
theorem size_all (v : Value) (s : St) (w : World) (h : StAt none w v s) (hm : mayV s = true) (hall : ∀ x ∈ s.inos, delB s x = false) :
    Calls Try.prog 13 #[v] w fun e w' => e = .returned (.int .i64 ((sealL (headL s.made s.inos)).length : Nat)) ∧ Below w.heap.size w w' := by
  obtain ⟨L, hL⟩ : ∃ L, sealL (headL s.made s.inos) = L := ⟨_, rfl⟩
  obtain ⟨⟨A, n, cp, Bz, m, d, D, k, e, rfl, hI, hD, hM, h5, h6, h7⟩, hz⟩ := h
  obtain ⟨W, hW, b0, b1, b2, hal, hlt0⟩ := box_st w A n cp Bz m d D k e
  have hst : StAt none W (.agg #[.slice A n cp, .slice Bz m d, .slice D k e]) s := ⟨⟨A, n, cp, Bz, m, d, D, k, e, rfl, hI.below hal, hD.below hal, hM.below hal, h5, h6, h7⟩, hz⟩
  have HAL := Lib.hid hal
  have hp := put_all _ s W hst hm hall
  rw [hL] at hp ⊢
  have HP := Lib.hid hp
  clear hp hI hD hM hz hal hst h5 h6 h7
  go_enter Try.func13, Try.ntmps13
  go_wp2_with fail
  refine HP.out.mono ?_
  rintro e1 w1 ⟨rfl, hb⟩
  have HB := Lib.hid (Cv.next HAL.out hb)
  have hsz : (⟨L.toArray⟩ : ByteArray).size = L.length := by show L.toArray.size = _; simp
  clear hb
  go_wp2_with fail
  go_ret
  exact ⟨rfl, HB.out⟩
set_option maxRecDepth 100000 in
set_option maxHeartbeats 2000000 in
theorem refsum_any (s : ByteArray) (w : World) (hs : s.size ≤ maxLen) :
    Calls Try.prog 55 #[.string s] w fun e w' => e = .returned (.int .u64 ((sumN s.data.toList : Nat) : Int)) ∧ w = w' := by
  unfold maxLen at hs
  go_enter Try.func55, Try.ntmps55
  go_wp2
  go_loop [3, 4] (fun h i => ∃ k : Nat, k ≤ s.size ∧ i = .int .i64 k ∧ h = .int .u64 ((sumN (s.data.toList.take k) : Nat) : Int)) (fun _ i => s.size - (intOf i).toNat)
  case atStart => exact ⟨0, Nat.zero_le _, rfl, val_int first_val⟩
  case round =>
    obtain ⟨k, hk, rfl, rfl⟩ := hrel
    by_cases hlt : k < s.size
    · go_wp2
      go_round
      case rel => exact ⟨k + 1, by omega, by go_num, by rw [take_snoc s k hlt, sumN_snoc]; exact val_int (step_val _ (sumN_lt _) _)⟩
      case measure => simp [intOf]; omega
    · go_wp2
      go_ret
      exact ⟨ret_int (by rw [List.take_of_length_le (by simp; omega)]), rfl⟩
theorem eight_row (H : Nat) (l : List UInt8) (h8 : l.length = 8) (hl : ∀ t, t < 8 → l.getD t 0 = (H / 256 ^ (7 - t)).toUInt8) : l = eightL H := by
  apply List.ext_getElem
  · rw [h8, eight_len]
  · intro t h1 h2
    have ht : t < 8 := by omega
    have e1 := hl t ht
    have e2 := eight_get H t ht
    rw [List.getElem?_eq_getElem h2] at e2
    rw [List.getD_eq_getElem?_getD, List.getElem?_eq_getElem h1] at e1
    have e3 : (256 : Nat) ^ (7 - t) = 2 ^ (56 - 8 * t) := by
      rw [show (256 : Nat) = 2 ^ 8 from rfl, ← Nat.pow_mul]
      congr 1
      omega
    rw [e3] at e1
    exact e1.trans (Option.some.inj e2).symm
set_option maxRecDepth 100000 in
set_option maxHeartbeats 4000000 in
theorem eight_any (H : Nat) (w : World) (hH : H < 18446744073709551616) :
    Calls Try.prog 54 #[.int .u64 (H : Int)] w fun e w' => e = .returned (.string ⟨(eightL H).toArray⟩) ∧ Below w.heap.size w w' := by
  have hmk := run_make_row' (P := Try.prog) 59 5 (.int .u8 0) 1 Try.underlying59 infoByte rfl .i64 .i64 8 (by omega) (by omega) w
  obtain ⟨W, hW⟩ : ∃ W, w.alloc (.cells (madeCells #[.int .u8 0] 8) 5) = W := ⟨_, rfl⟩
  rw [hW] at hmk
  have hmk2 : (Instr.makeSlice 59 (.int .i64 8) (.int .i64 8)).run Try.prog w = .ok (.slice (some ⟨w.heap.size, 0, none⟩) 8 8) W := hmk
  have hrow : Cv.ByteRow W w.heap.size (List.replicate 8 0) := by
    have hh : W.heap[w.heap.size]? = some (.cells (madeCells #[.int .u8 0] 8) 5 (0, 0)) := by rw [← hW]; exact heap_alloc_new w _
    refine ⟨(Array.getElem?_eq_some_iff.1 hh).1, fun j hj => ⟨?_, frozen_of_row W w.heap.size j _ _ hh⟩⟩
    have hj8 : j < 8 := by simpa using hj
    have hz : (List.replicate 8 (0 : UInt8)).getD j 0 = 0 := by
      rw [List.getD_eq_getElem?_getD, List.getElem?_replicate]
      split <;> rfl
    rw [cell_of_row W w.heap.size j _ _ (0, 0) hh, hz]
    simp [madeCells, hj8, Nat.mod_one]
  have hb : Below w.heap.size w W := by rw [← hW]; exact (Below.refl _ _).alloc (Nat.le_refl _) _
  have HR := Lib.hid hrow
  have HB := Lib.hid hb
  clear hrow hb hmk
  go_enter Try.func54, Try.ntmps54
  go_wp2_with fail
  go_loopw [0, 4] (fun x i wr => ∃ (T : Nat) (v : Int) (l : List UInt8), i = .int .i64 v ∧ v = (T : Int) - 1 ∧ x = .int .u64 ((H / 256 ^ (8 - T) : Nat) : Int) ∧ T ≤ 8 ∧ Cv.ByteRow wr w.heap.size l ∧ Below w.heap.size w wr ∧ l.length = 8 ∧ ∀ t, T ≤ t → t < 8 → l.getD t 0 = (H / 256 ^ (7 - t)).toUInt8) (fun _ i _ => (1 + intOf i).toNat)
  case atStart => exact ⟨8, 7, _, rfl, rfl, by simp, by omega, HR.out, HB.out, by simp, fun t h1 h2 => by omega⟩
  case round =>
    obtain ⟨T, v, l, rfl, hv, rfl, hT, hrow, hbel, hl8, hall⟩ := hrel
    obtain ⟨Y, hY⟩ : ∃ Y, H / 256 ^ (8 - T) = Y := ⟨_, rfl⟩
    rw [hY]
    have hYb : Y < 18446744073709551616 := by rw [← hY]; exact Nat.lt_of_le_of_lt (Nat.div_le_self _ _) hH
    have HY := Lib.hid hY
    have HROW := Lib.hid hrow
    have HBE := Lib.hid hbel
    have HALL := Lib.hid hall
    clear hY hbel hall
    cases T with
    | zero =>
      obtain rfl : v = -1 := by omega
      have hl := eight_row H l hl8 (fun t ht => HALL.out t (by omega) ht)
      have hcv := Cv.back_of hrow 8 8 hl8
      rw [hl] at hcv
      clear hrow hv hl
      go_wp2_with fail
      go_ret
      exact ⟨rfl, HBE.out⟩
    | succ j =>
      obtain rfl : v = (j : Int) := by omega
      have j0 : (0 : Int) ≤ (j : Int) := by omega
      have j1 : (j : Int) < 8 := by omega
      have q1 : decide ((0 : Int) ≤ (j : Int)) = true := by rw [decide_eq_true_eq]; omega
      obtain ⟨c0, ff0⟩ := hrow.2 j (by omega)
      have HR2 := Lib.hid (HROW.out.set (k := j) (by omega) Y.toUInt8)
      have e1 : ((Y.toUInt8).toNat : Int) = (Y : Int) % 256 := by
        show ((Y % 256 : Nat) : Int) = _
        omega
      rw [e1] at HR2
      have HBS := Lib.hid (HBE.out.setCell (p := ⟨w.heap.size, j, .none⟩) (Nat.le_refl _) (.int .u8 ((Y : Int) % 256)))
      clear hrow hv e1
      go_wp2_with fail
      go_roundw
      case rel => exact ⟨j, (j : Int) - 1, l.set j Y.toUInt8, rfl, rfl, by
        have e2 : H / 256 ^ (8 - j) = Y / 256 := by
          rw [← HY.out, Nat.div_div_eq_div_mul, ← Nat.pow_succ]
          congr 2
          omega
        rw [e2, Int.natCast_ediv]
        rfl, by omega, HR2.out, HBS.out, by rw [List.length_set]; exact hl8, fun t h1 h2 => by
        by_cases ht : t = j
        · subst ht
          rw [List.getD_eq_getElem?_getD, List.getElem?_set_self (by omega)]
          show Y.toUInt8 = _
          rw [← HY.out]
          congr 3
          omega
        · rw [List.getD_eq_getElem?_getD, List.getElem?_set_ne (by omega), ← List.getD_eq_getElem?_getD]
          exact HALL.out t (by omega) h2⟩
      case measure => simp [intOf]; omega
theorem seal_any (b : ByteArray) (w : World) (hb : b.size ≤ 65536) :
    Calls Try.prog 22 #[.string b] w fun e w' => e = .returned (.string ⟨(sealL b.data.toList).toArray⟩) ∧ Below w.heap.size w w' := by
  go_enter Try.func22, Try.ntmps22
  go_wp2_with fail
  refine (refsum_any b w (by unfold maxLen; omega)).mono ?_
  rintro e1 w1 ⟨rfl, rfl⟩
  obtain ⟨H, hH⟩ : ∃ H, sumN b.data.toList = H := ⟨_, rfl⟩
  have hHlt : H < 18446744073709551616 := by rw [← hH, ← hM_lit]; exact sumN_lt _
  rw [hH]
  have HH := Lib.hid hH
  clear hH
  go_wp2_with fail
  refine (eight_any H w hHlt).mono ?_
  rintro e2 w2 ⟨rfl, hb2⟩
  have HB2 := Lib.hid hb2
  have hs8 : (⟨(eightL H).toArray⟩ : ByteArray).size = 8 := by
    show (eightL H).toArray.size = 8
    rw [List.size_toArray, eight_len]
  have hcat : b ++ (⟨(eightL H).toArray⟩ : ByteArray) = ⟨(sealL b.data.toList).toArray⟩ := by
    apply ByteArray.ext
    rw [ByteArray.data_append]
    apply Array.toList_inj.1
    unfold sealL
    rw [HH.out]
    simp
  clear hb2
  go_wp2_with fail
  go_ret
  exact ⟨by first | exact congrArg (fun z => Ending.returned (.string z)) hcat | rfl, HB2.out⟩
end Go.Proofs.Ytghlgnklnbcppaa
