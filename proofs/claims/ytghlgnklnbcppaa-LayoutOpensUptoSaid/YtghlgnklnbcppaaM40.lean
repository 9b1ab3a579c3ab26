/- Parts of the proof, side by side: FsDoAll, FsDoc. -/
import Derived.Test.YtghlgnklnbcppaaM39
import Derived.Test.YtghlgnklnbcppaaM36
set_option linter.unusedVariables false
set_option linter.unusedSimpArgs false
set_option linter.unusedVariables false
set_option linter.unusedSimpArgs false
namespace Go.Proofs.Ytghlgnklnbcppaa
open Go.RowKit
set_option maxRecDepth 100000 in
set_option maxHeartbeats 2000000 in
theorem Do_any (v : Value) (s : St) (c : Ca) (w : World) (h : StAt none w v s) (hok : mayV s = true → 0 ≤ c.core → c.core < (s.made.length : Int) → 0 ≤ c.kind → c.kind ≤ 16 → DoOk s c (-1)) :
  Calls Try.prog 10 #[v, caV c] w fun e w' => ∃ v' rv, e = .returned (.tuple #[v', rv]) ∧ StAt (some w.heap.size) w' v' (doV s c).1 ∧ ResIs (some w.heap.size) w' rv (doV s c).2 ∧ Below w.heap.size w w' := by
 have hd : ∀ u, StAt none u v s → Calls Try.prog 33 #[v, caV c, .int .i64 (-1)] u fun e w' => ∃ v' rv, e = .returned (.tuple #[v', rv, .bool (doF s c (-1)).2.2]) ∧ StAt (some u.heap.size) w' v' (doV s c).1 ∧ ResIs (some u.heap.size) w' rv (doV s c).2 ∧ Below u.heap.size u w' := fun u hu => do_any v s c (-1) u hu hok
 obtain ⟨s', hs'⟩ : ∃ s', (doV s c).1 = s' := ⟨_, rfl⟩
 obtain ⟨r, hr⟩ : ∃ r, (doV s c).2 = r := ⟨_, rfl⟩
 obtain ⟨OKB, hOKB⟩ : ∃ OKB, (doF s c (-1)).2.2 = OKB := ⟨_, rfl⟩
 rw [hs', hr] at hd ⊢
 rw [hOKB] at hd
 clear hs' hr hOKB hok
 obtain ⟨⟨A, n, cp, Bz, m, d, D, k, e, rfl, hI, hD, hM, h5, h6, h7⟩, hz⟩ := h
 obtain ⟨W, hW, b0, b1, b2, hal, hlt0⟩ := box_st w A n cp Bz m d D k e
 obtain ⟨W2, hW2, hbc, hal2, hsz2⟩ := box_ca W c
 obtain ⟨W3, hW3⟩ : ∃ W3, W2.alloc (.cells #[.slice none 0 0, .slice none 0 0, .slice none 0 0] 26) = W3 := ⟨_, rfl⟩
 have hal3 : Below W2.heap.size W2 W3 := by rw [← hW3]; exact (Below.refl _ _).alloc (Nat.le_refl _) _
 have hsz3 : W3.heap.size = W2.heap.size + 1 := by rw [← hW3]; simp
 have ho3 : OutAt W3 W2.heap.size (.slice none 0 0) (.slice none 0 0) (.slice none 0 0) := by rw [← hW3]; exact heap_alloc_new W2 _
 obtain ⟨W4, hW4⟩ : ∃ W4, W3.alloc (.cells #[.int .i64 0, .int .i64 0, .int .i64 0, .bool false, .string ⟨#[]⟩, .slice none 0 0] 37) = W4 := ⟨_, rfl⟩
 have hal4 : Below W3.heap.size W3 W4 := by rw [← hW4]; exact (Below.refl _ _).alloc (Nat.le_refl _) _
 have hr4 : ResAt W4 W3.heap.size (.int .i64 0) (.int .i64 0) (.int .i64 0) (.bool false) (.string ⟨#[]⟩) (.slice none 0 0) := by rw [← hW4]; exact heap_alloc_new W3 _
 have hst0 : StAt none W (.agg #[.slice A n cp, .slice Bz m d, .slice D k e]) s := ⟨⟨A, n, cp, Bz, m, d, D, k, e, rfl, hI.below hal, hD.below hal, hM.below hal, h5, h6, h7⟩, hz⟩
 have hb24 : Below W2.heap.size W2 W4 := Cv.next hal3 hal4
 have hb14 : Below W.heap.size W W4 := Cv.next hal2 hb24
 have hb4 : Below w.heap.size w W4 := Cv.next hal hb14
 have hst := hst0.below hb14
 have x0 := (hb14.cell (p := ⟨w.heap.size, 0, .none⟩) hlt0).trans b0
 have x1 := (hb14.cell (p := ⟨w.heap.size, 1, .none⟩) hlt0).trans b1
 have x2 := (hb14.cell (p := ⟨w.heap.size, 2, .none⟩) hlt0).trans b2
 have hbc4 := (hb24.block W.heap.size (by omega)).trans hbc
 have k0 : W4.cell? ⟨W.heap.size, 0, none⟩ = some (.int .i64 c.kind) := by rw [cell_of_row W4 W.heap.size _ _ _ (0, 0) hbc4]; rfl
 have k1 : W4.cell? ⟨W.heap.size, 1, none⟩ = some (.int .i64 c.core) := by rw [cell_of_row W4 W.heap.size _ _ _ (0, 0) hbc4]; rfl
 have k2 : W4.cell? ⟨W.heap.size, 2, none⟩ = some (.int .i64 c.fd) := by rw [cell_of_row W4 W.heap.size _ _ _ (0, 0) hbc4]; rfl
 have k3 : W4.cell? ⟨W.heap.size, 3, none⟩ = some (.int .i64 c.off) := by rw [cell_of_row W4 W.heap.size _ _ _ (0, 0) hbc4]; rfl
 have k4 : W4.cell? ⟨W.heap.size, 4, none⟩ = some (.int .i64 c.num) := by rw [cell_of_row W4 W.heap.size _ _ _ (0, 0) hbc4]; rfl
 have k5 : W4.cell? ⟨W.heap.size, 5, none⟩ = some (.string c.path) := by rw [cell_of_row W4 W.heap.size _ _ _ (0, 0) hbc4]; rfl
 have k6 : W4.cell? ⟨W.heap.size, 6, none⟩ = some (.string c.path2) := by rw [cell_of_row W4 W.heap.size _ _ _ (0, 0) hbc4]; rfl
 have k7 : W4.cell? ⟨W.heap.size, 7, none⟩ = some (.string c.data) := by rw [cell_of_row W4 W.heap.size _ _ _ (0, 0) hbc4]; rfl
 have hcall := hd W4 hst
 have HCALL := Lib.hid hcall
 have HB4 := Lib.hid hb4
 have hb4s := hb4.size
 have HO3 := Lib.hid ((hal4.block W2.heap.size (by omega)).trans ho3)
 have HR4 := Lib.hid hr4
 have hs1 : w.heap.size < W.heap.size := hlt0
 have hs4 : W4.heap.size = W3.heap.size + 1 := by rw [← hW4]; simp
 unfold caV
 clear hI hD hM hz hst0 hst hbc hbc4 hb4 hb14 hb24 ho3 hr4 hal hal2 hal3 hal4 b0 b1 b2 h5 h6 h7 hlt0 hd hcall
 go_enter Try.func10, Try.ntmps10
 go_wp2_with fail
 clear hW hW2 hW3 hW4
 refine HCALL.out.mono ?_
 rintro e5 w5 ⟨v5, rv, rfl, hst5, ⟨AN, nN, cN, rfl, hokN, hnN⟩, hb5⟩
 have HN5 := Lib.hid hnN
 obtain ⟨A6, n6, c6, E6, m6, d6, D6, k6', e6, rfl, _⟩ := hst5.at_
 have HST5 := Lib.hid hst5
 have HB5 := Lib.hid (Cv.next HB4.out hb5)
 have HO5 : Hid (OutAt w5 W2.heap.size _ _ _) := Lib.hid ((hb5.block W2.heap.size (by omega)).trans HO3.out)
 have HR5 : Hid (ResAt w5 W3.heap.size _ _ _ _ _ _) := Lib.hid ((hb5.block W3.heap.size (by omega)).trans HR4.out)
 have hs5 : W4.heap.size ≤ w5.heap.size := hb5.size
 clear hst5 hb5 hnN x0 x1 x2 k0 k1 k2 k3 k4 k5 k6 k7
 go_wp2_with fail
 obtain ⟨U1, hU1⟩ : ∃ U1, w5.alloc (.cells #[.slice A6 n6 c6, .slice E6 m6 d6, .slice D6 k6' e6] 26) = U1 := ⟨_, rfl⟩
 obtain ⟨U2, hU2⟩ : ∃ U2, U1.alloc (.cells #[.int .i64 r.code, .int .i64 r.fd, .int .i64 r.num, .bool r.dir, .string r.data, .slice AN nN cN] 37) = U2 := ⟨_, rfl⟩
 rw [hU1, hU2]
 have hau1 : Below w5.heap.size w5 U1 := by rw [← hU1]; exact (Below.refl _ _).alloc (Nat.le_refl _) _
 have hau2 : Below U1.heap.size U1 U2 := by rw [← hU2]; exact (Below.refl _ _).alloc (Nat.le_refl _) _
 have hsu1 : U1.heap.size = w5.heap.size + 1 := by rw [← hU1]; simp
 have hau := Cv.next hau1 hau2
 have hru : ResAt U2 (w5.heap.size + 1) (.int .i64 r.code) (.int .i64 r.fd) (.int .i64 r.num) (.bool r.dir) (.string r.data) (.slice AN nN cN) := by rw [← hsu1, ← hU2]; exact heap_alloc_new U1 _
 have hou : OutAt U2 w5.heap.size (.slice A6 n6 c6) (.slice E6 m6 d6) (.slice D6 k6' e6) := by
  have h1 : U1.heap[w5.heap.size]? = some (.cells #[.slice A6 n6 c6, .slice E6 m6 d6, .slice D6 k6' e6] 26 (0, 0)) := by rw [← hU1]; exact heap_alloc_new w5 _
  exact (hau2.block w5.heap.size (by omega)).trans h1
 have hst8 := HST5.out.below hau
 have hO8 : OutAt U2 (W.heap.size + 1) (.slice none 0 0) (.slice none 0 0) (.slice none 0 0) := by rw [← hsz2]; exact (hau.block W2.heap.size (by omega)).trans HO5.out
 have hR8 : ResAt U2 (W.heap.size + 1 + 1) (.int .i64 0) (.int .i64 0) (.int .i64 0) (.bool false) (.string ⟨#[]⟩) (.slice none 0 0) := by rw [show W.heap.size + 1 + 1 = W3.heap.size by omega]; exact (hau.block W3.heap.size (by omega)).trans HR5.out
 have HB8 := Lib.hid (Cv.next HB5.out hau)
 have HST8 := Lib.hid hst8
 have HN8 := Lib.hid (HN5.out.below hau)
 obtain ⟨q0, q1, q2, _⟩ := hou.get
 obtain ⟨j0, j1, j2, j3, j4, j5, _⟩ := hru.get
 have uf : ∀ j, U2.frozen? ⟨W.heap.size + 1, j, none⟩ = false := hO8.get.2.2.2
 have vf : ∀ j, U2.frozen? ⟨W.heap.size + 1 + 1, j, none⟩ = false := hR8.get.2.2.2.2.2.2
 have n1 : w5.heap.size ≠ W.heap.size + 1 := by omega
 have n2 : w5.heap.size ≠ W.heap.size + 1 + 1 := by omega
 have n3 : w5.heap.size + 1 ≠ W.heap.size + 1 := by omega
 have n4 : w5.heap.size + 1 ≠ W.heap.size + 1 + 1 := by omega
 have n1' := Ne.symm n1
 have n2' := Ne.symm n2
 have n3' := Ne.symm n3
 have n4' := Ne.symm n4
 have n5 : W.heap.size ≠ w5.heap.size := by omega
 have n6' : w5.heap.size ≠ W.heap.size := by omega
 obtain ⟨t0, t1, t2, _⟩ := hO8.get
 obtain ⟨v0, v1, v2, v3, v4, v5, _⟩ := hR8.get
 have uf0 := uf 0
 have uf1 := uf 1
 have uf2 := uf 2
 clear hU1 hU2 hau1 hau2 hau hru hou hst8
 go_region_held3 (fun w' => w'.cell? ⟨w5.heap.size, 0, none⟩ = some (.slice A6 n6 c6) ∧ w'.cell? ⟨w5.heap.size, 1, none⟩ = some (.slice E6 m6 d6) ∧ w'.cell? ⟨w5.heap.size, 2, none⟩ = some (.slice D6 k6' e6) ∧
   w'.cell? ⟨w5.heap.size + 1, 0, none⟩ = some (.int .i64 r.code) ∧ w'.cell? ⟨w5.heap.size + 1, 1, none⟩ = some (.int .i64 r.fd) ∧ w'.cell? ⟨w5.heap.size + 1, 2, none⟩ = some (.int .i64 r.num) ∧ w'.cell? ⟨w5.heap.size + 1, 3, none⟩ = some (.bool r.dir) ∧ w'.cell? ⟨w5.heap.size + 1, 4, none⟩ = some (.string r.data) ∧ w'.cell? ⟨w5.heap.size + 1, 5, none⟩ = some (.slice AN nN cN))
  (go_keep) (fail)
 obtain ⟨U5, hU5, ho5, k5, b5⟩ := hO8.three (.slice A6 n6 c6) (.slice E6 m6 d6) (.slice D6 k6' e6)
 have hr5 : ResAt U5 (W.heap.size + 1 + 1) _ _ _ _ _ _ := ((k5 _ (by decide)).same (W.heap.size + 1 + 1) _ hR8).trans hR8
 obtain ⟨U6, hU6, hr6, k6, b6, a6, s6⟩ := hr5.six (.int .i64 r.code) (.int .i64 r.fd) (.int .i64 r.num) (.bool r.dir) (.string r.data) (.slice AN nN cN)
 have ho6 : OutAt U6 (W.heap.size + 1) _ _ _ := (a6 (W.heap.size + 1) (by omega)).trans ho5
 have hbw : Below w.heap.size w U6 := b6 w.heap.size w (by omega) (b5 w.heap.size w (by omega) HB8.out)
 have hst6 := (HST8.out.keep3 (k5 _ (by decide)) (k5 _ (by decide)) (k5 _ (by decide)) (k5 _ (by decide))).keep3 (k6 _ (by decide)) (k6 _ (by decide)) (k6 _ (by decide)) (k6 _ (by decide))
 rw [hU5, hU6]
 have HO6f := Lib.hid ho6
 have HR6f := Lib.hid hr6
 have HSTf := Lib.hid ((hst6.lower (by have := hb4s; omega)).below (Below.drew (Below.refl _ _)))
 have HBF := Lib.hid (Below.drew hbw)
 have HNf := Lib.hid (((((HN8.out.keep (k5 _ (by decide))).keep (k6 _ (by decide))).lower (B' := w.heap.size) (by have := hb4s; omega))).below (Below.drew (Below.refl _ _)))
 clear hU5 hU6 ho5 k5 b5 hr5 hr6 k6 b6 a6 s6 ho6 hst6 hbw t0 t1 t2 v0 v1 v2 v3 v4 v5 uf0 uf1 uf2 uf vf j0 j1 j2 j3 j4 j5 q0 q1 q2
 go_wp2_with fail
 (try simp only [Exit.inBlock, Exit.then])
 refine bodyPost_ret (v := .tuple #[.agg #[.slice A6 n6 c6, .slice E6 m6 d6, .slice D6 k6' e6], .agg #[.int .i64 r.code, .int .i64 r.fd, .int .i64 r.num, .bool r.dir, .string r.data, .slice AN nN cN]]) ?_ rfl ?_
 ·rw [results_cells rfl]
  have hl1 := run_loadVar_row (P := Try.prog) U6.drew (W.heap.size + 1) _ 26 _ (0, 0) _ HO6f.out Try.underlying26 rfl (by kernel_rfl)
  have hl2 := run_loadVar_row (P := Try.prog) U6.drew (W.heap.size + 1 + 1) _ 37 _ (0, 0) _ HR6f.out Try.underlying37 rfl (by kernel_rfl)
  simp [asAddr, hl1, hl2, Result.andThen]
 ·exact ⟨_, _, rfl, HSTf.out, ⟨AN, nN, cN, rfl, hokN, HNf.out⟩, HBF.out⟩
end Go.Proofs.Ytghlgnklnbcppaa

set_option linter.unusedVariables false
set_option linter.unusedSimpArgs false
namespace Go.Proofs.Ytghlgnklnbcppaa
open Go.RowKit
theorem Do_doc (v : Value) (s : St) (c : Ca) (w : World) (h : StAt none w v s) (hp : c.path.size ≤ 140737488355328) (hp2 : c.path2.size ≤ 140737488355328) :
  Calls Try.prog 10 #[v, caV c] w fun e w' => ∃ v' rv, e = .returned (.tuple #[v', rv]) ∧ StAt (some w.heap.size) w' v' (doV s c).1 ∧ ResIs (some w.heap.size) w' rv (doV s c).2 ∧ Below w.heap.size w w' :=
 Do_any v s c w h fun hm h0 h1 _ _ => doOk hm h0 h1 hp hp2
end Go.Proofs.Ytghlgnklnbcppaa
