/- byFd of the document, kind by kind: by its contracts (wip/gen_byfd3.py). -/
import Derived.Test.YthhceopnnappgaaGreatDoorM13
import Derived.Test.YthhceopnnappgaaGreatDoorM23
import Derived.Lib.MinMax
import Derived.Lib.LazyBuf
set_option linter.unusedVariables false
set_option linter.unusedSimpArgs false
namespace Go.Proofs.YthhceopnnappgaaGreatDoor
open Go.RowKit
theorem Fr.begin {B p : Nat} {s : St} {w : World} (h : Own B w p s) (hB : B ≤ w.heap.size) (c : Ca) :
  ∃ W W2, w.alloc (.cells #[.int .i64 c.kind, .int .i64 c.core, .int .i64 c.fd, .int .i64 c.off, .int .i64 c.num, .string c.path, .string c.path2, .string c.data] 40) = W ∧
   W.alloc (.cells #[.int .i64 0, .int .i64 0, .int .i64 0, .bool false, .string ⟨#[]⟩, .slice none 0 0] 44) = W2 ∧ W.heap.size = w.heap.size + 1 ∧ Fr B p s c w W2 ∧ Below w.heap.size w W2 := by
 obtain ⟨W, W2, h1, h2, h3, h4⟩ := Fr.start h hB c
 refine ⟨W, W2, h1, h2, h3, h4, ?_⟩
 rw [← h2, ← h1]
 exact ((Below.refl _ _).alloc (Nat.le_refl _) _).alloc (by simp) _
theorem Fr.calls {B p : Nat} {s : St} {c : Ca} {w0 w : World} (h : Fr B p s c w0 w) : w.cell? ⟨w0.heap.size, 0, none⟩ = some (.int .i64 c.kind) ∧ w.cell? ⟨w0.heap.size, 1, none⟩ = some (.int .i64 c.core) ∧ w.cell? ⟨w0.heap.size, 2, none⟩ = some (.int .i64 c.fd) ∧ w.cell? ⟨w0.heap.size, 3, none⟩ = some (.int .i64 c.off) ∧ w.cell? ⟨w0.heap.size, 4, none⟩ = some (.int .i64 c.num) ∧ w.cell? ⟨w0.heap.size, 7, none⟩ = some (.string c.data) := by
 obtain ⟨_, _, _, _, _, _, _, _, _, _, _, _, _, _, _, _, _, _, k0, k1, k2, k3, k4, _, _, k7⟩ := h.vals
 exact ⟨k0, k1, k2, k3, k4, k7⟩
theorem endO {w u : World} {B p : Nat} {S : St} {a b c d e f : Value} (hr : ResAt u (w.heap.size + 1) a b c d e f) (ho : Own B u p S) (hb : Below B w u) (ha : Aside p w u) (hB : B ≤ w.heap.size) (a' b' c' d' e' f' : Value) :
  ∃ w', (((((u.setCell ⟨w.heap.size + 1, 0, none⟩ a').setCell ⟨w.heap.size + 1, 1, none⟩ b').setCell ⟨w.heap.size + 1, 2, none⟩ c').setCell ⟨w.heap.size + 1, 3, none⟩ d').setCell ⟨w.heap.size + 1, 4, none⟩ e').setCell ⟨w.heap.size + 1, 5, none⟩ f' = w' ∧
   ResAt w' (w.heap.size + 1) a' b' c' d' e' f' ∧ Own B w' p S ∧ Below B w w' ∧ Aside p w w' := by
 obtain ⟨W9, hW9, hr9, k9, b9, a9, _⟩ := hr.six a' b' c' d' e' f'
 have hb9 := b9 B w (by omega) hb
 exact ⟨W9, hW9, hr9, ho.keep k9, hb9, hb9.size, fun b cur t h0 h1 h2 h3 => (a9 b (by have := (Array.getElem?_eq_some_iff.1 h0).1; omega)).trans (ha.same b cur t h0 h1 h2 h3)⟩
set_option maxRecDepth 100000 in
set_option maxHeartbeats 16000000 in
theorem byfd_none (B p : Nat) (s : St) (core fd off num : Int) (path path2 data : ByteArray) (NU : Int) (K : Int) (w : World) (h : Own B w p s) (hB : B ≤ w.heap.size) (hfd : fdV s.opn core fd = NU) (hnu : NU = 0) :
  Calls Tryz.prog 68 #[.pointer (some ⟨p, 0, .none⟩), caV ⟨K, core, fd, off, num, path, path2, data⟩] w fun e w' => e = .returned (resV { code := 4 }) ∧ Own B w' p s ∧ Below B w w' ∧ Aside p w w' := by
 obtain ⟨W, W2, hW, hW2, hsz1, hfr, hb2⟩ := Fr.begin h hB ⟨K, core, fd, off, num, path, path2, data⟩
 obtain ⟨A0, n0, cp0, E0, m0, d0, D0, k0', e0', hp, -, x0, x1, x2, -, hst, -, -, k0, k1, k2, k3, k4, -, -, k7⟩ := hfr.vals
 have HF := Lib.hid hfr
 have HST := Lib.hid hst
 have HB2 := Lib.hid hb2
 have HFD := Lib.hid hfd
 have hps := hfr.hp
 clear h hst hfd hfr hb2
 unfold caV
 go_enter Tryz.func68, Tryz.ntmps68
 go_wp2_with fail
 clear hW hW2
 refine wre ?_
 have hX := @Ext.cell W2
 repeat (go_big_quiet_step (first | (go_at_call 90; rename_i X; exact Calls.ext_of (by have := fd_any _ s core fd _ (HST.out.below X.bel); rw [HFD.out] at this; exact this))))
 refine wpQuiet_nil ?_
 rintro w7 ⟨X, rfl⟩
 generalize hZe : X.w = Z1
 have hZ1 := hZe ▸ X.bel
 clear x0 x1 x2 k0 k1 k2 k3 k4 k7
 have HF1 := Lib.hid (HF.out.below hZ1)
 obtain  ⟨A, n, cp, E, m, d, D, k, e, hp1, -, y0, y1, y2, -, hst, hI, -, l0, l1, l2, l3, l4, -, -, l7⟩ := HF1.out.vals
 have HB3 := Lib.hid (Cv.next HB2.out hZ1)
 have HO1 := Lib.hid HF1.out.own
 have HR1 := Lib.hid (show ResAt Z1 W.heap.size _ _ _ _ _ _ from by rw [hsz1]; exact HF1.out.res)
 have HS1 := Lib.hid hst
 have HI1 := Lib.hid hI
 clear hZe X hX hZ1 hst hI
 subst hnu
 have HBM := Lib.hid (HB3.out.mono hB)
 have HASM : Hid (Aside p w Z1) := Lib.hid (Aside.below HB3.out)
 go_wp2_with fail
 refine (fail_any 4 _).mono ?_
 rintro e10 w10 ⟨rfl, hb10⟩
 have hr10 : ResAt w10 W.heap.size (.int .i64 0) (.int .i64 0) (.int .i64 0) (.bool false) (.string ⟨#[]⟩) (.slice none 0 0) := (hb10.block W.heap.size (by have := HR1.out.lt; omega)).trans HR1.out
 rw [hsz1] at hr10
 obtain ⟨g0, g1', g2', g3, g4, g5, gf⟩ := hr10.get
 obtain ⟨W9, hW9, hr9, ho9, hb9, ha9⟩ := endO hr10 (HO1.out.below hb10) (HBM.out.trans (hb10.mono (by have := HASM.out.size; omega))) (HASM.out.trans (Aside.below hb10)) hB (.int .i64 4) (.int .i64 0) (.int .i64 0) (.bool false) (.string ⟨#[]⟩) (.slice none 0 0)
 have HR5 := Lib.hid hr9
 have HOF := Lib.hid ho9
 have HBF := Lib.hid hb9
 have HAS := Lib.hid ha9
 clear hr10 hr9 ho9 hb9 ha9 hb10
 go_wp2_with fail
 (try simp only [Exit.inBlock, Exit.then])
 refine ret_res rfl HR5.out rfl rfl ?_
 exact ⟨rfl, HOF.out, HBF.out, HAS.out⟩
set_option maxRecDepth 100000 in
set_option maxHeartbeats 16000000 in
theorem byfd_size (B p : Nat) (s : St) (core fd off num : Int) (path path2 data : ByteArray) (NU : Int) (i : Nat) (x : Ino) (w : World) (h : Own B w p s) (hB : B ≤ w.heap.size) (hfd : fdV s.opn core fd = NU) (hnu : NU ≠ 0) (hat : atV s.inos NU = (i : Int)) (hx : s.inos[i]? = some x) :
  Calls Tryz.prog 68 #[.pointer (some ⟨p, 0, .none⟩), caV ⟨7, core, fd, off, num, path, path2, data⟩] w fun e w' => e = .returned (resV { num := x.data.size }) ∧ Own B w' p s ∧ Below B w w' ∧ Aside p w w' := by
 obtain ⟨W, W2, hW, hW2, hsz1, hfr, hb2⟩ := Fr.begin h hB ⟨7, core, fd, off, num, path, path2, data⟩
 obtain ⟨A0, n0, cp0, E0, m0, d0, D0, k0', e0', hp, -, x0, x1, x2, -, hst, -, -, k0, k1, k2, k3, k4, -, -, k7⟩ := hfr.vals
 have HF := Lib.hid hfr
 have HST := Lib.hid hst
 have HB2 := Lib.hid hb2
 have HFD := Lib.hid hfd
 have hps := hfr.hp
 have HAT := Lib.hid hat
 have HX := Lib.hid hx
 clear hat hx
 clear h hst hfd hfr hb2
 unfold caV
 go_enter Tryz.func68, Tryz.ntmps68
 go_wp2_with fail
 clear hW hW2
 refine wre ?_
 have hX := @Ext.cell W2
 repeat (go_big_quiet_step (first | (go_at_call 90; rename_i X; exact Calls.ext_of (by have := fd_any _ s core fd _ (HST.out.below X.bel); rw [HFD.out] at this; exact this))))
 refine wpQuiet_nil ?_
 rintro w7 ⟨X, rfl⟩
 generalize hZe : X.w = Z1
 have hZ1 := hZe ▸ X.bel
 clear x0 x1 x2 k0 k1 k2 k3 k4 k7
 have HF1 := Lib.hid (HF.out.below hZ1)
 obtain  ⟨A, n, cp, E, m, d, D, k, e, hp1, -, y0, y1, y2, -, hst, hI, -, l0, l1, l2, l3, l4, -, -, l7⟩ := HF1.out.vals
 have HB3 := Lib.hid (Cv.next HB2.out hZ1)
 have HO1 := Lib.hid HF1.out.own
 have HR1 := Lib.hid (show ResAt Z1 W.heap.size _ _ _ _ _ _ from by rw [hsz1]; exact HF1.out.res)
 have HS1 := Lib.hid hst
 have HI1 := Lib.hid hI
 clear hZe X hX hZ1 hst hI
 have q0 : (NU == 0) = false := by rw [beq_eq_false_iff_ne]; exact hnu
 go_wp2_with fail
 have hin : i < n := by have := (List.getElem?_eq_some_iff.1 HX.out).1; have := HI1.out.1; omega
 obtain ⟨g, og, x', E3, m3, d3, rfl, hg, hx', _, hmem, e0, e1, e2, _, _, e3⟩ := HI1.out.get i hin
 have ex : x' = x := by have h1 := HX.out; rw [hx'] at h1; exact Option.some.inj h1
 subst ex
 have i0 : (0 : Int) ≤ (i : Int) := by omega
 have i1 : (i : Int) < (n : Int) := by omega
 have hX := @Ext.cell Z1
 clear hx' hmem
 refine wre ?_
 repeat (go_big_quiet_step (first | (go_at_call 57; rename_i X; exact Calls.ext_of (by have := at_any _ s NU _ (HS1.out.below X.bel); rw [HAT.out] at this; exact this))))
 refine wpQuiet_nil ?_
 rintro w8 ⟨X, rfl⟩
 generalize hZe : X.w = Z2
 have hZ2 := hZe ▸ X.bel
 have HF2 := Lib.hid (HF1.out.below hZ2)
 have z0 := (hZ2.cell (p := ⟨p, 0, .none⟩) hp1).trans y0
 have z1 := (hZ2.cell (p := ⟨p, 1, .none⟩) hp1).trans y1
 have z2 := (hZ2.cell (p := ⟨p, 2, .none⟩) hp1).trans y2
 obtain ⟨j0, j1, j2, j3, j4, j7⟩ := HF2.out.calls
 have f0 := (hZ2.cell (p := ⟨g, og + i * 4, .none⟩) hg).trans e0
 have f3 := (hZ2.cell (p := ⟨g, og + i * 4 + 3, .none⟩) hg).trans e3
 have HB4 := Lib.hid (Cv.next HB3.out hZ2)
 have HI2 := Lib.hid (HI1.out.below hZ2)
 have HO2 := Lib.hid HF2.out.own
 have hs2 := hZ2.size
 have hsf := HF2.out.size
 have HR2 := Lib.hid (show ResAt Z2 W.heap.size _ _ _ _ _ _ from by rw [hsz1]; exact HF2.out.res)
 have hgl : g < Z2.heap.size := by omega
 clear hZe X hX hZ2 y0 y1 y2 l0 l1 l2 l3 l4 l7 e0 e1 e2 e3
 have HBM := Lib.hid (HB4.out.mono hB)
 have HASM : Hid (Aside p w Z2) := Lib.hid (Aside.below HB4.out)
 have hr10 := HR2.out
 rw [hsz1] at hr10
 obtain ⟨g0, g1', g2', g3, g4, g5, gf⟩ := hr10.get
 obtain ⟨W9, hW9, hr9, ho9, hb9, ha9⟩ := endO hr10 HO2.out HBM.out HASM.out hB (.int .i64 0) (.int .i64 0) (.int .i64 (x'.data.size : Nat)) (.bool false) (.string ⟨#[]⟩) (.slice none 0 0)
 have HR5 := Lib.hid hr9
 have HOF := Lib.hid ho9
 have HBF := Lib.hid hb9
 have HAS := Lib.hid ha9
 clear hr10 hr9 ho9 hb9 ha9
 go_wp2_with fail
 (try simp only [Exit.inBlock, Exit.then])
 refine ret_res rfl HR5.out rfl rfl ?_
 exact ⟨rfl, HOF.out, HBF.out, HAS.out⟩
set_option maxRecDepth 100000 in
set_option maxHeartbeats 16000000 in
theorem byfd_sync (B p : Nat) (s : St) (core fd off num : Int) (path path2 data : ByteArray) (NU : Int) (i : Nat) (x : Ino) (w : World) (h : Own B w p s) (hB : B ≤ w.heap.size) (hfd : fdV s.opn core fd = NU) (hnu : NU ≠ 0) (hat : atV s.inos NU = (i : Int)) (hx : s.inos[i]? = some x) :
  Calls Tryz.prog 68 #[.pointer (some ⟨p, 0, .none⟩), caV ⟨15, core, fd, off, num, path, path2, data⟩] w fun e w' => e = .returned (resV {}) ∧ Own B w' p s ∧ Below B w w' ∧ Aside p w w' := by
 obtain ⟨W, W2, hW, hW2, hsz1, hfr, hb2⟩ := Fr.begin h hB ⟨15, core, fd, off, num, path, path2, data⟩
 obtain ⟨A0, n0, cp0, E0, m0, d0, D0, k0', e0', hp, -, x0, x1, x2, -, hst, -, -, k0, k1, k2, k3, k4, -, -, k7⟩ := hfr.vals
 have HF := Lib.hid hfr
 have HST := Lib.hid hst
 have HB2 := Lib.hid hb2
 have HFD := Lib.hid hfd
 have hps := hfr.hp
 have HAT := Lib.hid hat
 have HX := Lib.hid hx
 clear hat hx
 clear h hst hfd hfr hb2
 unfold caV
 go_enter Tryz.func68, Tryz.ntmps68
 go_wp2_with fail
 clear hW hW2
 refine wre ?_
 have hX := @Ext.cell W2
 repeat (go_big_quiet_step (first | (go_at_call 90; rename_i X; exact Calls.ext_of (by have := fd_any _ s core fd _ (HST.out.below X.bel); rw [HFD.out] at this; exact this))))
 refine wpQuiet_nil ?_
 rintro w7 ⟨X, rfl⟩
 generalize hZe : X.w = Z1
 have hZ1 := hZe ▸ X.bel
 clear x0 x1 x2 k0 k1 k2 k3 k4 k7
 have HF1 := Lib.hid (HF.out.below hZ1)
 obtain  ⟨A, n, cp, E, m, d, D, k, e, hp1, -, y0, y1, y2, -, hst, hI, -, l0, l1, l2, l3, l4, -, -, l7⟩ := HF1.out.vals
 have HB3 := Lib.hid (Cv.next HB2.out hZ1)
 have HO1 := Lib.hid HF1.out.own
 have HR1 := Lib.hid (show ResAt Z1 W.heap.size _ _ _ _ _ _ from by rw [hsz1]; exact HF1.out.res)
 have HS1 := Lib.hid hst
 have HI1 := Lib.hid hI
 clear hZe X hX hZ1 hst hI
 have q0 : (NU == 0) = false := by rw [beq_eq_false_iff_ne]; exact hnu
 go_wp2_with fail
 have hin : i < n := by have := (List.getElem?_eq_some_iff.1 HX.out).1; have := HI1.out.1; omega
 obtain ⟨g, og, x', E3, m3, d3, rfl, hg, hx', _, hmem, e0, e1, e2, _, _, e3⟩ := HI1.out.get i hin
 have ex : x' = x := by have h1 := HX.out; rw [hx'] at h1; exact Option.some.inj h1
 subst ex
 have i0 : (0 : Int) ≤ (i : Int) := by omega
 have i1 : (i : Int) < (n : Int) := by omega
 have hX := @Ext.cell Z1
 clear hx' hmem
 refine wre ?_
 repeat (go_big_quiet_step (first | (go_at_call 57; rename_i X; exact Calls.ext_of (by have := at_any _ s NU _ (HS1.out.below X.bel); rw [HAT.out] at this; exact this))))
 refine wpQuiet_nil ?_
 rintro w8 ⟨X, rfl⟩
 generalize hZe : X.w = Z2
 have hZ2 := hZe ▸ X.bel
 have HF2 := Lib.hid (HF1.out.below hZ2)
 have z0 := (hZ2.cell (p := ⟨p, 0, .none⟩) hp1).trans y0
 have z1 := (hZ2.cell (p := ⟨p, 1, .none⟩) hp1).trans y1
 have z2 := (hZ2.cell (p := ⟨p, 2, .none⟩) hp1).trans y2
 obtain ⟨j0, j1, j2, j3, j4, j7⟩ := HF2.out.calls
 have f0 := (hZ2.cell (p := ⟨g, og + i * 4, .none⟩) hg).trans e0
 have f3 := (hZ2.cell (p := ⟨g, og + i * 4 + 3, .none⟩) hg).trans e3
 have HB4 := Lib.hid (Cv.next HB3.out hZ2)
 have HI2 := Lib.hid (HI1.out.below hZ2)
 have HO2 := Lib.hid HF2.out.own
 have hs2 := hZ2.size
 have hsf := HF2.out.size
 have HR2 := Lib.hid (show ResAt Z2 W.heap.size _ _ _ _ _ _ from by rw [hsz1]; exact HF2.out.res)
 have hgl : g < Z2.heap.size := by omega
 clear hZe X hX hZ2 y0 y1 y2 l0 l1 l2 l3 l4 l7 e0 e1 e2 e3
 have HBM := Lib.hid (HB4.out.mono hB)
 have HASM : Hid (Aside p w Z2) := Lib.hid (Aside.below HB4.out)
 go_wp2_with fail
 refine (fail_any 0 _).mono ?_
 rintro e10 w10 ⟨rfl, hb10⟩
 have hr10 : ResAt w10 W.heap.size (.int .i64 0) (.int .i64 0) (.int .i64 0) (.bool false) (.string ⟨#[]⟩) (.slice none 0 0) := (hb10.block W.heap.size (by have := HR2.out.lt; omega)).trans HR2.out
 rw [hsz1] at hr10
 obtain ⟨g0, g1', g2', g3, g4, g5, gf⟩ := hr10.get
 obtain ⟨W9, hW9, hr9, ho9, hb9, ha9⟩ := endO hr10 (HO2.out.below hb10) (HBM.out.trans (hb10.mono (by have := HASM.out.size; omega))) (HASM.out.trans (Aside.below hb10)) hB (.int .i64 0) (.int .i64 0) (.int .i64 0) (.bool false) (.string ⟨#[]⟩) (.slice none 0 0)
 have HR5 := Lib.hid hr9
 have HOF := Lib.hid ho9
 have HBF := Lib.hid hb9
 have HAS := Lib.hid ha9
 clear hr10 hr9 ho9 hb9 ha9 hb10
 go_wp2_with fail
 (try simp only [Exit.inBlock, Exit.then])
 refine ret_res rfl HR5.out rfl rfl ?_
 exact ⟨rfl, HOF.out, HBF.out, HAS.out⟩
theorem dropD_len : ∀ (ds : List Ds) (core fd : Int), (dropD ds core fd).length ≤ ds.length
 | [], _, _ => Nat.le_refl _
 | d :: ds, core, fd => by
  unfold dropD
  have := dropD_len ds core fd
  split <;> simp <;> omega
theorem Sized.dropD {s : St} (h : Sized s) (core fd : Int) : Sized { s with opn := Go.Proofs.YthhceopnnappgaaGreatDoor.dropD s.opn core fd } := by
 refine ⟨?_, h.text, h.nums⟩
 have := h.big
 have := dropD_len s.opn core fd
 show s.inos.length + bulkE s.inos + (Go.Proofs.YthhceopnnappgaaGreatDoor.dropD s.opn core fd).length + s.made.length ≤ _
 omega
set_option maxRecDepth 100000 in
set_option maxHeartbeats 16000000 in
theorem byfd_close (B p : Nat) (s : St) (core fd off num : Int) (path path2 data : ByteArray) (NU : Int) (i : Nat) (x : Ino) (w : World) (h : Own B w p s) (hB : B ≤ w.heap.size) (hfd : fdV s.opn core fd = NU) (hnu : NU ≠ 0) (hat : atV s.inos NU = (i : Int)) (hx : s.inos[i]? = some x) :
  Calls Tryz.prog 68 #[.pointer (some ⟨p, 0, .none⟩), caV ⟨3, core, fd, off, num, path, path2, data⟩] w fun e w' => e = .returned (resV {}) ∧ Own B w' p (sweepV { s with opn := dropD s.opn core fd } NU) ∧ Below B w w' ∧ Aside p w w' := by
 obtain ⟨_, _, _, _, _, _, _, _, _, hBp, _⟩ := h.val
 obtain ⟨W, W2, hW, hW2, hsz1, hfr, hb2⟩ := Fr.begin h hB ⟨3, core, fd, off, num, path, path2, data⟩
 obtain ⟨A0, n0, cp0, E0, m0, d0, D0, k0', e0', hp, -, x0, x1, x2, -, hst, -, -, k0, k1, k2, k3, k4, -, -, k7⟩ := hfr.vals
 have HF := Lib.hid hfr
 have HST := Lib.hid hst
 have HB2 := Lib.hid hb2
 have HFD := Lib.hid hfd
 have hps := hfr.hp
 have HAT := Lib.hid hat
 have HX := Lib.hid hx
 clear hat hx
 clear h hst hfd hfr hb2
 unfold caV
 go_enter Tryz.func68, Tryz.ntmps68
 go_wp2_with fail
 clear hW hW2
 refine wre ?_
 have hX := @Ext.cell W2
 repeat (go_big_quiet_step (first | (go_at_call 90; rename_i X; exact Calls.ext_of (by have := fd_any _ s core fd _ (HST.out.below X.bel); rw [HFD.out] at this; exact this))))
 refine wpQuiet_nil ?_
 rintro w7 ⟨X, rfl⟩
 generalize hZe : X.w = Z1
 have hZ1 := hZe ▸ X.bel
 clear x0 x1 x2 k0 k1 k2 k3 k4 k7
 have HF1 := Lib.hid (HF.out.below hZ1)
 obtain  ⟨A, n, cp, E, m, d, D, k, e, hp1, -, y0, y1, y2, -, hst, hI, -, l0, l1, l2, l3, l4, -, -, l7⟩ := HF1.out.vals
 have HB3 := Lib.hid (Cv.next HB2.out hZ1)
 have HO1 := Lib.hid HF1.out.own
 have HR1 := Lib.hid (show ResAt Z1 W.heap.size _ _ _ _ _ _ from by rw [hsz1]; exact HF1.out.res)
 have HS1 := Lib.hid hst
 have HI1 := Lib.hid hI
 clear hZe X hX hZ1 hst hI
 have q0 : (NU == 0) = false := by rw [beq_eq_false_iff_ne]; exact hnu
 go_wp2_with fail
 have hin : i < n := by have := (List.getElem?_eq_some_iff.1 HX.out).1; have := HI1.out.1; omega
 obtain ⟨g, og, x', E3, m3, d3, rfl, hg, hx', _, hmem, e0, e1, e2, _, _, e3⟩ := HI1.out.get i hin
 have ex : x' = x := by have h1 := HX.out; rw [hx'] at h1; exact Option.some.inj h1
 subst ex
 have i0 : (0 : Int) ≤ (i : Int) := by omega
 have i1 : (i : Int) < (n : Int) := by omega
 have hX := @Ext.cell Z1
 clear hx' hmem
 refine wre ?_
 repeat (go_big_quiet_step (first | (go_at_call 57; rename_i X; exact Calls.ext_of (by have := at_any _ s NU _ (HS1.out.below X.bel); rw [HAT.out] at this; exact this))))
 refine wpQuiet_nil ?_
 rintro w8 ⟨X, rfl⟩
 generalize hZe : X.w = Z2
 have hZ2 := hZe ▸ X.bel
 have HF2 := Lib.hid (HF1.out.below hZ2)
 have z0 := (hZ2.cell (p := ⟨p, 0, .none⟩) hp1).trans y0
 have z1 := (hZ2.cell (p := ⟨p, 1, .none⟩) hp1).trans y1
 have z2 := (hZ2.cell (p := ⟨p, 2, .none⟩) hp1).trans y2
 obtain ⟨j0, j1, j2, j3, j4, j7⟩ := HF2.out.calls
 have f0 := (hZ2.cell (p := ⟨g, og + i * 4, .none⟩) hg).trans e0
 have f3 := (hZ2.cell (p := ⟨g, og + i * 4 + 3, .none⟩) hg).trans e3
 have HB4 := Lib.hid (Cv.next HB3.out hZ2)
 have HI2 := Lib.hid (HI1.out.below hZ2)
 have HO2 := Lib.hid HF2.out.own
 have hs2 := hZ2.size
 have hsf := HF2.out.size
 have HR2 := Lib.hid (show ResAt Z2 W.heap.size _ _ _ _ _ _ from by rw [hsz1]; exact HF2.out.res)
 have hgl : g < Z2.heap.size := by omega
 clear hZe X hX hZ2 y0 y1 y2 l0 l1 l2 l3 l4 l7 e0 e1 e2 e3
 have HBM := Lib.hid (HB4.out.mono hB)
 have HASM : Hid (Aside p w Z2) := Lib.hid (Aside.below HB4.out)
 obtain ⟨A6, n6, cp6, E6, m6, d6, D6, k6, e6, _, hp6, _, c61', _, fz6, _, _, hD6, _⟩ := HO2.out.val
 have ec : (some (Value.slice E m d)) = some (Value.slice E6 m6 d6) := z1.symm.trans c61'
 injection ec with ec
 injection ec with ee1 ee2 ee3
 subst ee1 ee2 ee3
 have f61 := fz6 1
 have HD6 := Lib.hid hD6
 have hmb : m ≤ 1099511627776 := by have := hD6.1; have := HO2.out.sized.big; omega
 obtain ⟨RR, hRR⟩ : ∃ RR, dropD s.opn core fd = RR := ⟨_, rfl⟩
 have HRR := Lib.hid hRR
 obtain ⟨i1', hi1, hq0, hq1, hq2⟩ := info_parts infoDs
 clear hD6 fz6 c61' hRR
 go_wp2_with fail
 go_loopw [7, 8] (fun o j wr => ∃ (q : Nat) (V : Value) (ds : List Ds), V = o ∧ j = .int .i64 q ∧ q ≤ m ∧ wr.ownsRow Z2.heap.size 67 3 V ds.length (ds.flatMap dsV) ∧ Below Z2.heap.size Z2 wr ∧ ds ++ dropD (s.opn.drop q) core fd = RR ∧ ds.length ≤ q) (fun _ j _ => m - (intOf j).toNat)
 case atStart => exact ⟨0, _, [], rfl, rfl, by omega, World.ownsRow_nil _ _ _ _, Below.refl _ _, HRR.out, by simp⟩
 case round =>
  obtain ⟨q, V, ds, hV, rfl, hq, hrow, hbel, hc, hlen⟩ := hrel
  subst hV
  have y1 := (hbel.cell (p := ⟨p, 1, .none⟩) hp6).trans z1
  have v1 := (hbel.cell (p := ⟨w.heap.size, 1, .none⟩) (by show w.heap.size < _; omega)).trans j1
  have v2 := (hbel.cell (p := ⟨w.heap.size, 2, .none⟩) (by show w.heap.size < _; omega)).trans j2
  have HDr := Lib.hid (HD6.out.below hbel)
  have HB := Lib.hid hbel
  obtain ⟨L, hL⟩ : ∃ L, ds.length = L := ⟨_, rfl⟩
  rw [hL] at hrow
  have hlq : L ≤ q := by omega
  have HL := Lib.hid hL
  have HR3 := Lib.hid hrow
  clear hrow hbel hL hlen
  by_cases hlt : q < m
  ·obtain ⟨g2, off2, y, rfl, hg2, hy, hdr, _, e0, e1, e2⟩ := HDr.out.get q hlt
   rw [hdr] at hc
   have k0 : (0 : Int) ≤ (q : Int) := by omega
   have k1 : (q : Int) < (m : Int) := by omega
   clear hdr hy
   by_cases a1 : y.core = core
   ·by_cases a2 : y.fd = fd
    ·have HC : Hid (ds ++ dropD (s.opn.drop (q + 1)) core fd = RR) := Lib.hid (by have h9 := hc; rw [dropD, if_pos ⟨a1, a2⟩] at h9; exact h9)
     have q1 : (y.core != core) = false := by rw [bne_eq_false_iff_eq]; exact a1
     have q2 : (y.fd != fd) = false := by rw [bne_eq_false_iff_eq]; exact a2
     clear hc a1 a2
     go_wp2_with fail
     go_quiet (fail)
     go_wp2_with fail
     go_roundw
     case rel => exact ⟨q + 1, _, ds, rfl, by go_num, by omega, by rw [HL.out]; exact row_below HR3.out (Cv.drewN_below (Below.refl _ _) _), Cv.drewN_below HB.out _, HC.out, by rw [HL.out]; omega⟩
     case measure => simp [intOf]; omega
    ·have HC : Hid ((ds ++ [y]) ++ dropD (s.opn.drop (q + 1)) core fd = RR) := Lib.hid (by have h9 := hc; rw [dropD, if_neg (fun h => a2 h.2)] at h9; rw [List.append_assoc]; exact h9)
     have q1 : (y.core != core) = false := by rw [bne_eq_false_iff_eq]; exact a1
     have q2 : (y.fd != fd) = true := by rw [bne_iff_ne]; exact a2
     clear hc a1 a2
     go_wp2_with fail
     go_quiet (fail)
     go_wp2_with (at_builtin; refine wpList_append_own _ rfl _ _ 23 rfl Z2.heap.size 67 i1' (.agg #[.int .i64 0, .int .i64 0, .int .i64 0]) 3 24 Tryz.underlying23 hi1 hq0 hq1 hq2 rfl (by decide) _ L _ rfl ((row_below HR3.out (Cv.drewN_below (Below.refl _ _) _)).alloc _) ⟨(wr.drewN _).heap.size, 0, .none⟩ 1 1 [.int .i64 y.core, .int .i64 y.fd, .int .i64 y.num] rfl rfl (new_four (wr.drewN _) [.int .i64 y.core, .int .i64 y.fd, .int .i64 y.num] _) ?ca2 ?ca3 ?ca4 ?ca5 ?_)
     case ca2 => first | (intro u hu; simp at hu; rcases hu with rfl | rfl | rfl <;> rfl) | (simp; done) | exact ⟨rfl, rfl, rfl⟩
     case ca3 => unfold maxLen; omega
     case ca4 => omega
     case ca5 => have := HB.out.size; first | omega | (simp; omega)
     intro v7 w7 hown hgrow _
     have hbel : Below Z2.heap.size Z2 w7 := ((Cv.drewN_below HB.out _).alloc (by have := HB.out.size; simpa using this) _).grown hgrow (by have := HB.out.size; simp; omega) (fun k hk => (HR3.out.lt k hk).1)
     have HO7 := Lib.hid hown
     have HB7 := Lib.hid hbel
     clear hown hgrow hbel
     go_wp2_with fail
     go_roundw
     case rel => exact ⟨q + 1, _, ds ++ [y], rfl, by go_num, by omega, by rw [List.length_append, HL.out, List.flatMap_append]; exact HO7.out, HB7.out, HC.out, by rw [List.length_append, HL.out]; simp; omega⟩
     case measure => simp [intOf]; omega
   ·have HC : Hid ((ds ++ [y]) ++ dropD (s.opn.drop (q + 1)) core fd = RR) := Lib.hid (by have h9 := hc; rw [dropD, if_neg (fun h => a1 h.1)] at h9; rw [List.append_assoc]; exact h9)
    have q1 : (y.core != core) = true := by rw [bne_iff_ne]; exact a1
    clear hc a1
    go_wp2_with fail
    go_quiet (fail)
    go_wp2_with (at_builtin; refine wpList_append_own _ rfl _ _ 23 rfl Z2.heap.size 67 i1' (.agg #[.int .i64 0, .int .i64 0, .int .i64 0]) 3 24 Tryz.underlying23 hi1 hq0 hq1 hq2 rfl (by decide) _ L _ rfl ((row_below HR3.out (Cv.drewN_below (Below.refl _ _) _)).alloc _) ⟨(wr.drewN _).heap.size, 0, .none⟩ 1 1 [.int .i64 y.core, .int .i64 y.fd, .int .i64 y.num] rfl rfl (new_four (wr.drewN _) [.int .i64 y.core, .int .i64 y.fd, .int .i64 y.num] _) ?ca2 ?ca3 ?ca4 ?ca5 ?_)
    case ca2 => first | (intro u hu; simp at hu; rcases hu with rfl | rfl | rfl <;> rfl) | (simp; done) | exact ⟨rfl, rfl, rfl⟩
    case ca3 => unfold maxLen; omega
    case ca4 => omega
    case ca5 => have := HB.out.size; first | omega | (simp; omega)
    intro v7 w7 hown hgrow _
    have hbel : Below Z2.heap.size Z2 w7 := ((Cv.drewN_below HB.out _).alloc (by have := HB.out.size; simpa using this) _).grown hgrow (by have := HB.out.size; simp; omega) (fun k hk => (HR3.out.lt k hk).1)
    have HO7 := Lib.hid hown
    have HB7 := Lib.hid hbel
    clear hown hgrow hbel
    go_wp2_with fail
    go_roundw
    case rel => exact ⟨q + 1, _, ds ++ [y], rfl, by go_num, by omega, by rw [List.length_append, HL.out, List.flatMap_append]; exact HO7.out, HB7.out, HC.out, by rw [List.length_append, HL.out]; simp; omega⟩
    case measure => simp [intOf]; omega
  ·have hnil : s.opn.drop q = [] := List.drop_eq_nil_of_le (by have := HD6.out.1; omega)
   rw [hnil] at hc
   have HC := Lib.hid (show ds ++ [] = RR from hc)
   obtain ⟨AV, cV, hv, hcV, hnV, hDV⟩ := DescsAt.of_row HR3.out
   subst hv
   have hrr : ds = RR := by have := HC.out; rwa [List.append_nil] at this
   have hDV2 : DescsAt (some B) wr AV L RR := by rw [← hrr]; exact hDV.mono (by have := HBM.out.size; omega)
   have pf := (HB.out.frozen (p := ⟨p, 1, .none⟩) hp6).trans f61
   have hown7 := (HO2.out.below HB.out).setOpn (ds := RR) hDV2 ⟨hcV, fun e => (hnV e).2⟩ (by rw [← HRR.out]; exact HO2.out.sized.dropD core fd)
   obtain ⟨_, _, _, _, _, _, _, _, _, _, hpb, _⟩ := (HO2.out.below HB.out).at_
   have hrw : ResAt wr W.heap.size (.int .i64 0) (.int .i64 0) (.int .i64 0) (.bool false) (.string ⟨#[]⟩) (.slice none 0 0) := (HB.out.block W.heap.size HR2.out.lt).trans HR2.out
   obtain ⟨W7, hW7⟩ : ∃ W7, wr.setCell ⟨p, 1, .none⟩ (.slice AV L cV) = W7 := ⟨_, rfl⟩
   have ha7 : Aside p w W7 := by rw [← hW7]; exact ((HASM.out).trans (Aside.below HB.out)).trans (Aside.set hpb (.inr (.inr rfl)))
   have hb7 : Below B w W7 := by rw [← hW7]; exact (HBM.out.trans (HB.out.mono (by have := HBM.out.size; omega))).setCell (by exact hBp) _
   have hr7 : ResAt W7 W.heap.size (.int .i64 0) (.int .i64 0) (.int .i64 0) (.bool false) (.string ⟨#[]⟩) (.slice none 0 0) := by rw [← hW7]; exact (Below.heap_setCell wr ⟨p, 1, .none⟩ _ W.heap.size (by show W.heap.size ≠ p; omega)).trans hrw
   rw [hW7] at hown7
   have HOWN7 := Lib.hid hown7
   have HA7 := Lib.hid ha7
   have HB7 := Lib.hid hb7
   have HR7 := Lib.hid hr7
   have HW7 := Lib.hid hW7
   clear hc hnil hcV hnV hDV hDV2 hrr hown7 hpb ha7 hb7 hr7 hrw hW7
   go_wp2_with fail
   rw [HW7.out]
   refine (sweep_any B p _ NU W7 HOWN7.out (by have := HB7.out.size; omega)).mono ?_
   rintro e8 w8 ⟨rfl, hown8, hb8, ha8⟩
   have HO8 : Hid (Own B w8 p (sweepV { s with opn := dropD s.opn core fd } NU)) := Lib.hid (by rw [HRR.out]; exact hown8)
   have HB8 := Lib.hid (HB7.out.trans hb8)
   have HA8 := Lib.hid (HA7.out.trans ha8)
   have HR8 : Hid (ResAt w8 W.heap.size (.int .i64 0) (.int .i64 0) (.int .i64 0) (.bool false) (.string ⟨#[]⟩) (.slice none 0 0)) := Lib.hid ((ha8.same W.heap.size _ _ HR7.out (by decide) (by decide) (by omega)).trans HR7.out)
   clear hown8 hb8 ha8
   go_wp2_with fail
   refine (fail_any 0 _).mono ?_
   rintro e10 w10 ⟨rfl, hb10⟩
   have hr10 : ResAt w10 W.heap.size (.int .i64 0) (.int .i64 0) (.int .i64 0) (.bool false) (.string ⟨#[]⟩) (.slice none 0 0) := (hb10.block W.heap.size (by have := HR8.out.lt; omega)).trans HR8.out
   rw [hsz1] at hr10
   obtain ⟨g0, g1', g2', g3, g4, g5, gf⟩ := hr10.get
   obtain ⟨W9, hW9, hr9, ho9, hb9, ha9⟩ := endO hr10 (HO8.out.below hb10) (HB8.out.trans (hb10.mono (by have := HA8.out.size; omega))) (HA8.out.trans (Aside.below hb10)) hB (.int .i64 0) (.int .i64 0) (.int .i64 0) (.bool false) (.string ⟨#[]⟩) (.slice none 0 0)
   have HR5 := Lib.hid hr9
   have HOF := Lib.hid ho9
   have HBF := Lib.hid hb9
   have HAS := Lib.hid ha9
   clear hr10 hr9 ho9 hb9 ha9 hb10
   go_wp2_with fail
   (try simp only [Exit.inBlock, Exit.then])
   refine ret_res rfl HR5.out rfl rfl ?_
   exact ⟨rfl, HOF.out, HBF.out, HAS.out⟩
set_option maxRecDepth 100000 in
set_option maxHeartbeats 16000000 in
theorem byfd_read_bad (B p : Nat) (s : St) (core fd off num : Int) (path path2 data : ByteArray) (NU : Int) (i : Nat) (x : Ino) (w : World) (h : Own B w p s) (hB : B ≤ w.heap.size) (hfd : fdV s.opn core fd = NU) (hnu : NU ≠ 0) (hat : atV s.inos NU = (i : Int)) (hx : s.inos[i]? = some x) (hbad : off < 0 ∨ 256 < off ∨ num < 0 ∨ 256 < num) :
  Calls Tryz.prog 68 #[.pointer (some ⟨p, 0, .none⟩), caV ⟨4, core, fd, off, num, path, path2, data⟩] w fun e w' => e = .returned (resV { code := 9 }) ∧ Own B w' p s ∧ Below B w w' ∧ Aside p w w' := by
 obtain ⟨W, W2, hW, hW2, hsz1, hfr, hb2⟩ := Fr.begin h hB ⟨4, core, fd, off, num, path, path2, data⟩
 obtain ⟨A0, n0, cp0, E0, m0, d0, D0, k0', e0', hp, -, x0, x1, x2, -, hst, -, -, k0, k1, k2, k3, k4, -, -, k7⟩ := hfr.vals
 have HF := Lib.hid hfr
 have HST := Lib.hid hst
 have HB2 := Lib.hid hb2
 have HFD := Lib.hid hfd
 have hps := hfr.hp
 have HAT := Lib.hid hat
 have HX := Lib.hid hx
 clear hat hx
 clear h hst hfd hfr hb2
 unfold caV
 go_enter Tryz.func68, Tryz.ntmps68
 go_wp2_with fail
 clear hW hW2
 refine wre ?_
 have hX := @Ext.cell W2
 repeat (go_big_quiet_step (first | (go_at_call 90; rename_i X; exact Calls.ext_of (by have := fd_any _ s core fd _ (HST.out.below X.bel); rw [HFD.out] at this; exact this))))
 refine wpQuiet_nil ?_
 rintro w7 ⟨X, rfl⟩
 generalize hZe : X.w = Z1
 have hZ1 := hZe ▸ X.bel
 clear x0 x1 x2 k0 k1 k2 k3 k4 k7
 have HF1 := Lib.hid (HF.out.below hZ1)
 obtain  ⟨A, n, cp, E, m, d, D, k, e, hp1, -, y0, y1, y2, -, hst, hI, -, l0, l1, l2, l3, l4, -, -, l7⟩ := HF1.out.vals
 have HB3 := Lib.hid (Cv.next HB2.out hZ1)
 have HO1 := Lib.hid HF1.out.own
 have HR1 := Lib.hid (show ResAt Z1 W.heap.size _ _ _ _ _ _ from by rw [hsz1]; exact HF1.out.res)
 have HS1 := Lib.hid hst
 have HI1 := Lib.hid hI
 clear hZe X hX hZ1 hst hI
 have q0 : (NU == 0) = false := by rw [beq_eq_false_iff_ne]; exact hnu
 go_wp2_with fail
 have hin : i < n := by have := (List.getElem?_eq_some_iff.1 HX.out).1; have := HI1.out.1; omega
 obtain ⟨g, og, x', E3, m3, d3, rfl, hg, hx', _, hmem, e0, e1, e2, _, _, e3⟩ := HI1.out.get i hin
 have ex : x' = x := by have h1 := HX.out; rw [hx'] at h1; exact Option.some.inj h1
 subst ex
 have i0 : (0 : Int) ≤ (i : Int) := by omega
 have i1 : (i : Int) < (n : Int) := by omega
 have hX := @Ext.cell Z1
 clear hx' hmem
 refine wre ?_
 repeat (go_big_quiet_step (first | (go_at_call 57; rename_i X; exact Calls.ext_of (by have := at_any _ s NU _ (HS1.out.below X.bel); rw [HAT.out] at this; exact this))))
 refine wpQuiet_nil ?_
 rintro w8 ⟨X, rfl⟩
 generalize hZe : X.w = Z2
 have hZ2 := hZe ▸ X.bel
 have HF2 := Lib.hid (HF1.out.below hZ2)
 have z0 := (hZ2.cell (p := ⟨p, 0, .none⟩) hp1).trans y0
 have z1 := (hZ2.cell (p := ⟨p, 1, .none⟩) hp1).trans y1
 have z2 := (hZ2.cell (p := ⟨p, 2, .none⟩) hp1).trans y2
 obtain ⟨j0, j1, j2, j3, j4, j7⟩ := HF2.out.calls
 have f0 := (hZ2.cell (p := ⟨g, og + i * 4, .none⟩) hg).trans e0
 have f3 := (hZ2.cell (p := ⟨g, og + i * 4 + 3, .none⟩) hg).trans e3
 have HB4 := Lib.hid (Cv.next HB3.out hZ2)
 have HI2 := Lib.hid (HI1.out.below hZ2)
 have HO2 := Lib.hid HF2.out.own
 have hs2 := hZ2.size
 have hsf := HF2.out.size
 have HR2 := Lib.hid (show ResAt Z2 W.heap.size _ _ _ _ _ _ from by rw [hsz1]; exact HF2.out.res)
 have hgl : g < Z2.heap.size := by omega
 clear hZe X hX hZ2 y0 y1 y2 l0 l1 l2 l3 l4 l7 e0 e1 e2 e3
 have HBM := Lib.hid (HB4.out.mono hB)
 have HASM : Hid (Aside p w Z2) := Lib.hid (Aside.below HB4.out)
 have hcase : decide (off < 0) = true ∨ (decide (off < 0) = false ∧ decide (256 < off) = true) ∨ (decide (off < 0) = false ∧ decide (256 < off) = false ∧ decide (num < 0) = true) ∨ (decide (off < 0) = false ∧ decide (256 < off) = false ∧ decide (num < 0) = false ∧ decide (256 < num) = true) := by
  simp only [decide_eq_true_eq, decide_eq_false_iff_not]
  omega
 clear hbad
 rcases hcase with b1 | ⟨b1, b2⟩ | ⟨b1, b2, b3⟩ | ⟨b1, b2, b3, b4⟩
 all_goals
  go_wp2_with fail
  refine (fail_any 9 _).mono ?_
  rintro e10 w10 ⟨rfl, hb10⟩
  have hr10 : ResAt w10 W.heap.size (.int .i64 0) (.int .i64 0) (.int .i64 0) (.bool false) (.string ⟨#[]⟩) (.slice none 0 0) := (hb10.block W.heap.size (by have := HR2.out.lt; omega)).trans HR2.out
  rw [hsz1] at hr10
  obtain ⟨g0, g1', g2', g3, g4, g5, gf⟩ := hr10.get
  obtain ⟨W9, hW9, hr9, ho9, hb9, ha9⟩ := endO hr10 (HO2.out.below hb10) (HBM.out.trans (hb10.mono (by have := HASM.out.size; omega))) (HASM.out.trans (Aside.below hb10)) hB (.int .i64 9) (.int .i64 0) (.int .i64 0) (.bool false) (.string ⟨#[]⟩) (.slice none 0 0)
  have HR5 := Lib.hid hr9
  have HOF := Lib.hid ho9
  have HBF := Lib.hid hb9
  have HAS := Lib.hid ha9
  clear hr10 hr9 ho9 hb9 ha9 hb10
  go_wp2_with fail
  (try simp only [Exit.inBlock, Exit.then])
  refine ret_res rfl HR5.out rfl rfl ?_
  exact ⟨rfl, HOF.out, HBF.out, HAS.out⟩
theorem piece_eq (d : ByteArray) (o k : Nat) (hd : d.size ≤ 140737488355328) (ho : o ≤ 256) (hk : k ≤ 256) : d.extract (min o d.size) (min (min o d.size + k) d.size) = txt ((d.data.toList.drop o).take k) := by
 have hl : d.data.toList.length = d.size := Array.length_toList
 apply ByteArray.ext
 apply Array.toList_inj.1
 rw [ByteArray.data_extract, Array.toList_extract]
 show _ = ((d.data.toList.drop o).take k)
 rw [List.extract_eq_take_drop]
 by_cases h : o ≤ d.size
 ·rw [Nat.min_eq_left h]
  by_cases h2 : o + k ≤ d.size
  ·rw [Nat.min_eq_left h2, show o + k - o = k by omega]
  ·rw [Nat.min_eq_right (by omega), List.take_of_length_le (by rw [List.length_drop]; omega), List.take_of_length_le (by rw [List.length_drop]; omega)]
 ·rw [Nat.min_eq_right (by omega), List.drop_of_length_le (by omega), List.drop_of_length_le (by omega)]
  simp only [List.take_nil]
set_option maxRecDepth 100000 in
set_option maxHeartbeats 16000000 in
theorem byfd_read (B p : Nat) (s : St) (core fd : Int) (o q : Nat) (path path2 data : ByteArray) (NU : Int) (i : Nat) (x : Ino) (w : World) (h : Own B w p s) (hB : B ≤ w.heap.size) (hfd : fdV s.opn core fd = NU) (hnu : NU ≠ 0) (hat : atV s.inos NU = (i : Int)) (hx : s.inos[i]? = some x) (hxs : x.data.size ≤ 256) (ho : o ≤ 256) (hq : q ≤ 256) :
  Calls Tryz.prog 68 #[.pointer (some ⟨p, 0, .none⟩), caV ⟨4, core, fd, (o : Int), (q : Int), path, path2, data⟩] w fun e w' => e = .returned (resV { data := txt ((x.data.data.toList.drop o).take q) }) ∧ Own B w' p s ∧ Below B w w' ∧ Aside p w w' := by
 obtain ⟨W, W2, hW, hW2, hsz1, hfr, hb2⟩ := Fr.begin h hB ⟨4, core, fd, (o : Int), (q : Int), path, path2, data⟩
 obtain ⟨A0, n0, cp0, E0, m0, d0, D0, k0', e0', hp, -, x0, x1, x2, -, hst, -, -, k0, k1, k2, k3, k4, -, -, k7⟩ := hfr.vals
 have HF := Lib.hid hfr
 have HST := Lib.hid hst
 have HB2 := Lib.hid hb2
 have HFD := Lib.hid hfd
 have hps := hfr.hp
 have HAT := Lib.hid hat
 have HX := Lib.hid hx
 clear hat hx
 clear h hst hfd hfr hb2
 unfold caV
 go_enter Tryz.func68, Tryz.ntmps68
 go_wp2_with fail
 clear hW hW2
 refine wre ?_
 have hX := @Ext.cell W2
 repeat (go_big_quiet_step (first | (go_at_call 90; rename_i X; exact Calls.ext_of (by have := fd_any _ s core fd _ (HST.out.below X.bel); rw [HFD.out] at this; exact this))))
 refine wpQuiet_nil ?_
 rintro w7 ⟨X, rfl⟩
 generalize hZe : X.w = Z1
 have hZ1 := hZe ▸ X.bel
 clear x0 x1 x2 k0 k1 k2 k3 k4 k7
 have HF1 := Lib.hid (HF.out.below hZ1)
 obtain  ⟨A, n, cp, E, m, d, D, k, e, hp1, -, y0, y1, y2, -, hst, hI, -, l0, l1, l2, l3, l4, -, -, l7⟩ := HF1.out.vals
 have HB3 := Lib.hid (Cv.next HB2.out hZ1)
 have HO1 := Lib.hid HF1.out.own
 have HR1 := Lib.hid (show ResAt Z1 W.heap.size _ _ _ _ _ _ from by rw [hsz1]; exact HF1.out.res)
 have HS1 := Lib.hid hst
 have HI1 := Lib.hid hI
 clear hZe X hX hZ1 hst hI
 have q0 : (NU == 0) = false := by rw [beq_eq_false_iff_ne]; exact hnu
 go_wp2_with fail
 have hin : i < n := by have := (List.getElem?_eq_some_iff.1 HX.out).1; have := HI1.out.1; omega
 obtain ⟨g, og, x', E3, m3, d3, rfl, hg, hx', _, hmem, e0, e1, e2, _, _, e3⟩ := HI1.out.get i hin
 have ex : x' = x := by have h1 := HX.out; rw [hx'] at h1; exact Option.some.inj h1
 subst ex
 have i0 : (0 : Int) ≤ (i : Int) := by omega
 have i1 : (i : Int) < (n : Int) := by omega
 have hX := @Ext.cell Z1
 clear hx' hmem
 refine wre ?_
 repeat (go_big_quiet_step (first | (go_at_call 57; rename_i X; exact Calls.ext_of (by have := at_any _ s NU _ (HS1.out.below X.bel); rw [HAT.out] at this; exact this))))
 refine wpQuiet_nil ?_
 rintro w8 ⟨X, rfl⟩
 generalize hZe : X.w = Z2
 have hZ2 := hZe ▸ X.bel
 have HF2 := Lib.hid (HF1.out.below hZ2)
 have z0 := (hZ2.cell (p := ⟨p, 0, .none⟩) hp1).trans y0
 have z1 := (hZ2.cell (p := ⟨p, 1, .none⟩) hp1).trans y1
 have z2 := (hZ2.cell (p := ⟨p, 2, .none⟩) hp1).trans y2
 obtain ⟨j0, j1, j2, j3, j4, j7⟩ := HF2.out.calls
 have f0 := (hZ2.cell (p := ⟨g, og + i * 4, .none⟩) hg).trans e0
 have f3 := (hZ2.cell (p := ⟨g, og + i * 4 + 3, .none⟩) hg).trans e3
 have HB4 := Lib.hid (Cv.next HB3.out hZ2)
 have HI2 := Lib.hid (HI1.out.below hZ2)
 have HO2 := Lib.hid HF2.out.own
 have hs2 := hZ2.size
 have hsf := HF2.out.size
 have HR2 := Lib.hid (show ResAt Z2 W.heap.size _ _ _ _ _ _ from by rw [hsz1]; exact HF2.out.res)
 have hgl : g < Z2.heap.size := by omega
 clear hZe X hX hZ2 y0 y1 y2 l0 l1 l2 l3 l4 l7 e0 e1 e2 e3
 have HBM := Lib.hid (HB4.out.mono hB)
 have HASM : Hid (Aside p w Z2) := Lib.hid (Aside.below HB4.out)
 have b1 : decide ((o : Int) < 0) = false := by rw [decide_eq_false_iff_not]; omega
 have b2 : decide ((256 : Int) < (o : Int)) = false := by rw [decide_eq_false_iff_not]; omega
 have b3 : decide ((q : Int) < 0) = false := by rw [decide_eq_false_iff_not]; omega
 have b4 : decide ((256 : Int) < (q : Int)) = false := by rw [decide_eq_false_iff_not]; omega
 have hpe := piece_eq x'.data o q (by omega) ho hq
 obtain ⟨S, hS⟩ : ∃ S, x'.data.size = S := ⟨_, rfl⟩
 obtain ⟨D9, hD9⟩ : ∃ D9, txt ((x'.data.data.toList.drop o).take q) = D9 := ⟨_, rfl⟩
 rw [hS, hD9] at hpe
 obtain ⟨F, hF⟩ : ∃ F, min o S = F := ⟨_, rfl⟩
 obtain ⟨T, hT⟩ : ∃ T, min (F + q) S = T := ⟨_, rfl⟩
 rw [hF, hT] at hpe
 have m1 : min (o : Int) (S : Int) = (F : Int) := by omega
 have m2 : min ((F : Int) + (q : Int)) (S : Int) = (T : Int) := by omega
 have m3 : IntKind.i64.wrap ((F : Int) + (q : Int)) = (F : Int) + (q : Int) := IntWalk.i64_in _ (by omega)
 have m4 : F ≤ T := by omega
 have m5 : T ≤ S := by omega
 have m6 : (0 : Int) ≤ (F : Int) := by omega
 have HPE := Lib.hid hpe
 have HD9 := Lib.hid hD9
 have hxs2 : S ≤ 256 := by omega
 have hS2 : x'.data.size = S := hS
 have hr10 := HR2.out
 rw [hsz1] at hr10
 obtain ⟨g0, g1', g2', g3, g4, g5, gf⟩ := hr10.get
 clear hpe hD9 hF hT hr10 hxs hS
 go_wp2_with fail
 go_quiet (fail)
 go_wp2_with fail
 refine wp_region_quiet_tail 17 (by kernel_rfl) (by kernel_rfl) ?_
 simp only [List.take_succ_cons, List.take_zero, List.drop_succ_cons, List.drop_zero]
 repeat (go_big_quiet_step (fail))
 refine wpQuiet_nil ?_
 have hbv : Below Z2.heap.size Z2 (Z2.drewN (nq + 1)) := Cv.drewN_below (Below.refl _ _) _
 have HRV : Hid (ResAt (Z2.drewN (nq + 1)) W.heap.size (.int .i64 0) (.int .i64 0) (.int .i64 0) (.bool false) (.string ⟨#[]⟩) (.slice none 0 0)) := Lib.hid ((hbv.block W.heap.size HR2.out.lt).trans HR2.out)
 have HOV := Lib.hid (HO2.out.below hbv)
 have HBV := Lib.hid (HBM.out.trans (hbv.mono (by have := HBM.out.size; omega)))
 have HAV := Lib.hid (HASM.out.trans (Aside.below hbv))
 have hpe := HPE.out
 clear hbv
 have hr10 := HRV.out
 rw [hsz1] at hr10
 obtain ⟨g0, g1', g2', g3, g4, g5, gf⟩ := hr10.get
 obtain ⟨W9, hW9, hr9, ho9, hb9, ha9⟩ := endO hr10 HOV.out HBV.out HAV.out hB (.int .i64 0) (.int .i64 0) (.int .i64 0) (.bool false) (.string D9) (.slice none 0 0)
 have HR5 := Lib.hid hr9
 have HOF := Lib.hid ho9
 have HBF := Lib.hid hb9
 have HAS := Lib.hid ha9
 clear hr10 hr9 ho9 hb9 ha9
 go_wp2_with fail
 (try simp only [Exit.inBlock, Exit.then])
 refine ret_res rfl HR5.out rfl rfl ?_
 exact ⟨by rw [HD9.out]; rfl, HOF.out, HBF.out, HAS.out⟩
end Go.Proofs.YthhceopnnappgaaGreatDoor
