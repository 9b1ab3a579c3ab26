/- Parts of the proof, side by side: ShSame, FsDo2, FsNew. -/
import Derived.Test.YthhceopnnappgaaGreatDoorShOf
import Derived.Test.YthhceopnnappgaaGreatDoorM28
import Derived.Test.YthhceopnnappgaaGreatDoorFsMake
import Derived.Test.YthhceopnnappgaaGreatDoorM10
import Derived.Lib.BufferWrite
import Derived.Deep.WholeRow
import Derived.Deep.RegionWith
import Derived.Test.YthhceopnnappgaaGreatDoorFsCopy
import Derived.Test.YthhceopnnappgaaGreatDoorM05
import Derived.Laws.ResultCell
set_option linter.unusedVariables false
set_option linter.unusedSimpArgs false
namespace Go.Proofs.YthhceopnnappgaaGreatDoor
open Go.RowKit
def sameO (s t : St) : Bool := mayV s && mayV t && (ofL s == ofL t)
set_option maxRecDepth 100000 in
set_option maxHeartbeats 4000000 in
theorem shsame_any (u v : Value) (s t : St) (w : World) (hs : StAt none w u s) (ht : StAt none w v t) (hT : Tab w) :
  Calls Tryz.prog 12 #[u, v] w fun e w' => e = .returned (.bool (sameO s t)) ∧ Below w.heap.size w w' := by
 obtain ⟨A, n, c, B, m, d, D, k, e, rfl⟩ : ∃ A n c B m d D k e, u = .agg #[.slice A n c, .slice B m d, .slice D k e] := by
  obtain ⟨⟨A, n, c, B, m, d, D, k, e, hv, _⟩, _⟩ := hs
  exact ⟨A, n, c, B, m, d, D, k, e, hv⟩
 obtain ⟨A', n', c', B', m', d', D', k', e', rfl⟩ : ∃ A n c B m d D k e, v = .agg #[.slice A n c, .slice B m d, .slice D k e] := by
  obtain ⟨⟨A, n, c, B, m, d, D, k, e, hv, _⟩, _⟩ := ht
  exact ⟨A, n, c, B, m, d, D, k, e, hv⟩
 obtain ⟨W0, hW0, a0, a1, a2, hal0, hlt0⟩ := box_st w A n c B m d D k e
 obtain ⟨W, hW, b0, b1, b2, hal1, hlt1⟩ := box_st W0 A' n' c' B' m' d' D' k' e'
 have hal : Below w.heap.size w W := Cv.next hal0 hal1
 have x0 := (hal1.cell (p := ⟨w.heap.size, 0, none⟩) hlt0).trans a0
 have x1 := (hal1.cell (p := ⟨w.heap.size, 1, none⟩) hlt0).trans a1
 have x2 := (hal1.cell (p := ⟨w.heap.size, 2, none⟩) hlt0).trans a2
 obtain ⟨XS, hXS⟩ : ∃ X, txt (ofO s) = X := ⟨_, rfl⟩
 obtain ⟨XT, hXT⟩ : ∃ X, txt (ofO t) = X := ⟨_, rfl⟩
 obtain ⟨CS, hCS⟩ : ∃ C, codeO s = C := ⟨_, rfl⟩
 obtain ⟨CT, hCT⟩ : ∃ C, codeO t = C := ⟨_, rfl⟩
 have h1 := shof_any _ s W (hs.below hal) (hT.below hal)
 rw [hXS, hCS] at h1
 have h2 : ∀ w5, Below W.heap.size W w5 → Calls Tryz.prog 7 #[.agg #[.slice A' n' c', .slice B' m' d', .slice D' k' e']] w5 fun e w' => e = .returned (.tuple #[.string XT, .int .i64 CT]) ∧ Below w5.heap.size w5 w' := fun w5 h5 => by
  rw [← hXT, ← hCT]
  exact shof_any _ t w5 ((ht.below hal).below h5) ((hT.below hal).below h5)
 have H1 := Lib.hid h1
 have H2 := Lib.hid h2
 have HAL := Lib.hid hal
 have fin : sameO s t = (decide (CS = 0) && decide (CT = 0) && (XS.toList == XT.toList)) := by
  rw [← hXS, ← hXT, ← hCS, ← hCT, ByteArray.toList_eq, ByteArray.toList_eq, txt_listSh, txt_listSh]
  unfold sameO codeO ofO
  cases mayV s <;> cases mayV t <;> simp
 have HFIN := Lib.hid fin
 have HB0 := Lib.hid (And.intro b0 (And.intro b1 b2))
 clear hs ht hT h1 h2 hal hal0 hal1 hXS hXT hCS hCT fin a0 a1 a2
 go_enter Tryz.func12, Tryz.ntmps12
 go_wp2_with fail
 refine H1.out.mono ?_
 rintro e5 w5 ⟨rfl, hb5⟩
 have y0 := (hb5.cell (p := ⟨W0.heap.size, 0, none⟩) hlt1).trans HB0.out.1
 have y1 := (hb5.cell (p := ⟨W0.heap.size, 1, none⟩) hlt1).trans HB0.out.2.1
 have y2 := (hb5.cell (p := ⟨W0.heap.size, 2, none⟩) hlt1).trans HB0.out.2.2
 have HB5 := Lib.hid hb5
 clear hb5 b0 b1 b2 x0 x1 x2
 go_wp2_with fail
 refine (H2.out w5 HB5.out).mono ?_
 rintro e6 w6 ⟨rfl, hb6⟩
 have HB6 := Lib.hid ((HAL.out.trans (HB5.out.mono HAL.out.size)).trans (hb6.mono (HAL.out.trans (HB5.out.mono HAL.out.size)).size))
 clear hb6 y0 y1 y2
 obtain ⟨bs, hbs⟩ : ∃ b, decide (CS = 0) = b := ⟨_, rfl⟩
 obtain ⟨bt, hbt⟩ : ∃ b, decide (CT = 0) = b := ⟨_, rfl⟩
 have hfin := HFIN.out
 rw [hbs, hbt] at hfin
 have HF := Lib.hid hfin
 clear hfin
 cases bs
 ·have q1 : (CS == 0) = false := by rw [beq_eq_false_iff_ne]; exact of_decide_eq_false hbs
  clear hbs hbt
  go_wp2_with fail
  go_ret
  exact ⟨by rw [HF.out]; rfl, HB6.out⟩
 ·have q1 : (CS == 0) = true := by rw [beq_iff_eq]; exact of_decide_eq_true hbs
  cases bt
  ·have q2 : (CT == 0) = false := by rw [beq_eq_false_iff_ne]; exact of_decide_eq_false hbt
   clear hbs hbt
   go_wp2_with fail
   go_ret
   exact ⟨by rw [HF.out]; rfl, HB6.out⟩
  ·have q2 : (CT == 0) = true := by rw [beq_iff_eq]; exact of_decide_eq_true hbt
   clear hbs hbt
   go_wp2_with fail
   go_ret
   exact ⟨by rw [HF.out]; rfl, HB6.out⟩
theorem results_cells {fn : Func} {p q : Tmp} {ty tz : TypeId} (h : fn.results = #[.cell p ty, .cell q tz]) (tmps : Array Value) (P : Program) (w : World) :
  (results fn tmps).run P w =
   ((asAddr (tmps.getD p undef)).run P w).andThen fun a w₁ => ((loadVar ty a).run P w₁).andThen fun v w₂ => ((asAddr (tmps.getD q undef)).run P w₂).andThen fun b w₃ => ((loadVar tz b).run P w₃).andThen fun z w₄ => .ok (.tuple #[v, z]) w₄ := by
 simp only [results, h]
 simp [Sem.run_bind, Result.andThen]
set_option maxRecDepth 100000 in
set_option maxHeartbeats 2000000 in
theorem Do_of (v : Value) (s : St) (c : Ca) (s' : St) (r : Re) (w : World) (h : StAt none w v s)
  (hd : ∀ u, StAt none u v s → Calls Tryz.prog 44 #[v, caV c, .int .i64 (-1)] u fun e w' => ∃ v', e = .returned (.tuple #[v', resV r, .bool true]) ∧ StAt (some u.heap.size) w' v' s' ∧ Below u.heap.size u w') :
  Calls Tryz.prog 19 #[v, caV c] w fun e w' => ∃ v', e = .returned (.tuple #[v', resV r]) ∧ StAt (some w.heap.size) w' v' s' ∧ Below w.heap.size w w' := by
 obtain ⟨⟨A, n, cp, Bz, m, d, D, k, e, rfl, hI, hD, hM, h5, h6, h7⟩, hz⟩ := h
 obtain ⟨W, hW, b0, b1, b2, hal, hlt0⟩ := box_st w A n cp Bz m d D k e
 obtain ⟨W2, hW2, hbc, hal2, hsz2⟩ := box_ca W c
 obtain ⟨W3, hW3⟩ : ∃ W3, W2.alloc (.cells #[.slice none 0 0, .slice none 0 0, .slice none 0 0] 26) = W3 := ⟨_, rfl⟩
 have hal3 : Below W2.heap.size W2 W3 := by rw [← hW3]; exact (Below.refl _ _).alloc (Nat.le_refl _) _
 have hsz3 : W3.heap.size = W2.heap.size + 1 := by rw [← hW3]; simp
 have ho3 : OutAt W3 W2.heap.size (.slice none 0 0) (.slice none 0 0) (.slice none 0 0) := by rw [← hW3]; exact heap_alloc_new W2 _
 obtain ⟨W4, hW4⟩ : ∃ W4, W3.alloc (.cells #[.int .i64 0, .int .i64 0, .int .i64 0, .bool false, .string ⟨#[]⟩, .slice none 0 0] 44) = W4 := ⟨_, rfl⟩
 have hal4 : Below W3.heap.size W3 W4 := by rw [← hW4]; exact (Below.refl _ _).alloc (Nat.le_refl _) _
 have hr4 : ResAt W4 W3.heap.size (.int .i64 0) (.int .i64 0) (.int .i64 0) (.bool false) (.string ⟨#[]⟩) (.slice none 0 0) := by rw [← hW4]; exact heap_alloc_new W3 _
 have hst0 : StAt none W (.agg #[.slice A n cp, .slice Bz m d, .slice D k e]) s := ⟨⟨A, n, cp, Bz, m, d, D, k, e, rfl, hI.below hal, hD.below hal, hM.below hal, h5, h6, h7⟩, hz⟩
 have hb24 : Below W2.heap.size W2 W4 := Cv.next hal3 hal4
 have hb14 : Below W.heap.size W W4 := Cv.next hal2 hb24
 have hb4 : Below w.heap.size w W4 := Cv.next hal hb14
 have hst := hst0.below hb14
 have x0 := (hb14.cell (p := ⟨w.heap.size, 0, .none⟩) hlt0).trans b0
 have x1 := (hb14.cell (p := ⟨w.heap.size, 1, .none⟩) hlt0).trans b1
 have x2 := (hb14.cell (p := ⟨w.heap.size, 2, .none⟩) hlt0).trans b2
 have hbc4 := (hb24.block W.heap.size (by omega)).trans hbc
 have k0 : W4.cell? ⟨W.heap.size, 0, none⟩ = some (.int .i64 c.kind) := by rw [cell_of_row W4 W.heap.size _ _ _ (0, 0) hbc4]; rfl
 have k1 : W4.cell? ⟨W.heap.size, 1, none⟩ = some (.int .i64 c.core) := by rw [cell_of_row W4 W.heap.size _ _ _ (0, 0) hbc4]; rfl
 have k2 : W4.cell? ⟨W.heap.size, 2, none⟩ = some (.int .i64 c.fd) := by rw [cell_of_row W4 W.heap.size _ _ _ (0, 0) hbc4]; rfl
 have k3 : W4.cell? ⟨W.heap.size, 3, none⟩ = some (.int .i64 c.off) := by rw [cell_of_row W4 W.heap.size _ _ _ (0, 0) hbc4]; rfl
 have k4 : W4.cell? ⟨W.heap.size, 4, none⟩ = some (.int .i64 c.num) := by rw [cell_of_row W4 W.heap.size _ _ _ (0, 0) hbc4]; rfl
 have k5 : W4.cell? ⟨W.heap.size, 5, none⟩ = some (.string c.path) := by rw [cell_of_row W4 W.heap.size _ _ _ (0, 0) hbc4]; rfl
 have k6 : W4.cell? ⟨W.heap.size, 6, none⟩ = some (.string c.path2) := by rw [cell_of_row W4 W.heap.size _ _ _ (0, 0) hbc4]; rfl
 have k7 : W4.cell? ⟨W.heap.size, 7, none⟩ = some (.string c.data) := by rw [cell_of_row W4 W.heap.size _ _ _ (0, 0) hbc4]; rfl
 have hcall := hd W4 hst
 have HCALL := Lib.hid hcall
 have HB4 := Lib.hid hb4
 have hb4s := hb4.size
 have HO3 := Lib.hid ((hal4.block W2.heap.size (by omega)).trans ho3)
 have HR4 := Lib.hid hr4
 have hs1 : w.heap.size < W.heap.size := hlt0
 have hs4 : W4.heap.size = W3.heap.size + 1 := by rw [← hW4]; simp
 unfold caV
 clear hI hD hM hz hst0 hst hbc hbc4 hb4 hb14 hb24 ho3 hr4 hal hal2 hal3 hal4 b0 b1 b2 h5 h6 h7 hlt0 hd hcall
 go_enter Tryz.func19, Tryz.ntmps19
 go_wp2_with fail
 clear hW hW2 hW3 hW4
 refine HCALL.out.mono ?_
 rintro e5 w5 ⟨v5, rfl, hst5, hb5⟩
 obtain ⟨A6, n6, c6, E6, m6, d6, D6, k6', e6, rfl, _⟩ := hst5.at_
 have HST5 := Lib.hid hst5
 have HB5 := Lib.hid (Cv.next HB4.out hb5)
 have HO5 : Hid (OutAt w5 W2.heap.size _ _ _) := Lib.hid ((hb5.block W2.heap.size (by omega)).trans HO3.out)
 have HR5 : Hid (ResAt w5 W3.heap.size _ _ _ _ _ _) := Lib.hid ((hb5.block W3.heap.size (by omega)).trans HR4.out)
 have hs5 : W4.heap.size ≤ w5.heap.size := hb5.size
 clear hst5 hb5 x0 x1 x2 k0 k1 k2 k3 k4 k5 k6 k7
 unfold resV
 go_wp2_with fail
 obtain ⟨U1, hU1⟩ : ∃ U1, w5.alloc (.cells #[.slice A6 n6 c6, .slice E6 m6 d6, .slice D6 k6' e6] 26) = U1 := ⟨_, rfl⟩
 obtain ⟨U2, hU2⟩ : ∃ U2, U1.alloc (.cells #[.int .i64 r.code, .int .i64 r.fd, .int .i64 r.num, .bool r.dir, .string r.data, .slice none 0 0] 44) = U2 := ⟨_, rfl⟩
 rw [hU1, hU2]
 have hau1 : Below w5.heap.size w5 U1 := by rw [← hU1]; exact (Below.refl _ _).alloc (Nat.le_refl _) _
 have hau2 : Below U1.heap.size U1 U2 := by rw [← hU2]; exact (Below.refl _ _).alloc (Nat.le_refl _) _
 have hsu1 : U1.heap.size = w5.heap.size + 1 := by rw [← hU1]; simp
 have hau := Cv.next hau1 hau2
 have hru : ResAt U2 (w5.heap.size + 1) (.int .i64 r.code) (.int .i64 r.fd) (.int .i64 r.num) (.bool r.dir) (.string r.data) (.slice none 0 0) := by rw [← hsu1, ← hU2]; exact heap_alloc_new U1 _
 have hou : OutAt U2 w5.heap.size (.slice A6 n6 c6) (.slice E6 m6 d6) (.slice D6 k6' e6) := by
  have h1 : U1.heap[w5.heap.size]? = some (.cells #[.slice A6 n6 c6, .slice E6 m6 d6, .slice D6 k6' e6] 26 (0, 0)) := by rw [← hU1]; exact heap_alloc_new w5 _
  exact (hau2.block w5.heap.size (by omega)).trans h1
 have hst8 := HST5.out.below hau
 have hO8 : OutAt U2 (W.heap.size + 1) (.slice none 0 0) (.slice none 0 0) (.slice none 0 0) := by rw [← hsz2]; exact (hau.block W2.heap.size (by omega)).trans HO5.out
 have hR8 : ResAt U2 (W.heap.size + 1 + 1) (.int .i64 0) (.int .i64 0) (.int .i64 0) (.bool false) (.string ⟨#[]⟩) (.slice none 0 0) := by rw [show W.heap.size + 1 + 1 = W3.heap.size by omega]; exact (hau.block W3.heap.size (by omega)).trans HR5.out
 have HB8 := Lib.hid (Cv.next HB5.out hau)
 have HST8 := Lib.hid hst8
 obtain ⟨q0, q1, q2, _⟩ := hou.get
 obtain ⟨j0, j1, j2, j3, j4, j5, _⟩ := hru.get
 have uf : ∀ j, U2.frozen? ⟨W.heap.size + 1, j, none⟩ = false := hO8.get.2.2.2
 have vf : ∀ j, U2.frozen? ⟨W.heap.size + 1 + 1, j, none⟩ = false := hR8.get.2.2.2.2.2.2
 have n1 : w5.heap.size ≠ W.heap.size + 1 := by omega
 have n2 : w5.heap.size ≠ W.heap.size + 1 + 1 := by omega
 have n3 : w5.heap.size + 1 ≠ W.heap.size + 1 := by omega
 have n4 : w5.heap.size + 1 ≠ W.heap.size + 1 + 1 := by omega
 have n1' := Ne.symm n1
 have n2' := Ne.symm n2
 have n3' := Ne.symm n3
 have n4' := Ne.symm n4
 have n5 : W.heap.size ≠ w5.heap.size := by omega
 have n6' : w5.heap.size ≠ W.heap.size := by omega
 obtain ⟨t0, t1, t2, _⟩ := hO8.get
 obtain ⟨v0, v1, v2, v3, v4, v5, _⟩ := hR8.get
 have uf0 := uf 0
 have uf1 := uf 1
 have uf2 := uf 2
 clear hU1 hU2 hau1 hau2 hau hru hou hst8
 go_region_held3 (fun w' => w'.cell? ⟨w5.heap.size, 0, none⟩ = some (.slice A6 n6 c6) ∧ w'.cell? ⟨w5.heap.size, 1, none⟩ = some (.slice E6 m6 d6) ∧ w'.cell? ⟨w5.heap.size, 2, none⟩ = some (.slice D6 k6' e6) ∧
   w'.cell? ⟨w5.heap.size + 1, 0, none⟩ = some (.int .i64 r.code) ∧ w'.cell? ⟨w5.heap.size + 1, 1, none⟩ = some (.int .i64 r.fd) ∧ w'.cell? ⟨w5.heap.size + 1, 2, none⟩ = some (.int .i64 r.num) ∧ w'.cell? ⟨w5.heap.size + 1, 3, none⟩ = some (.bool r.dir) ∧ w'.cell? ⟨w5.heap.size + 1, 4, none⟩ = some (.string r.data) ∧ w'.cell? ⟨w5.heap.size + 1, 5, none⟩ = some (.slice none 0 0))
  (go_keep) (fail)
 obtain ⟨U5, hU5, ho5, k5, b5⟩ := hO8.three (.slice A6 n6 c6) (.slice E6 m6 d6) (.slice D6 k6' e6)
 have hr5 : ResAt U5 (W.heap.size + 1 + 1) _ _ _ _ _ _ := ((k5 _ (by decide)).same (W.heap.size + 1 + 1) _ hR8).trans hR8
 obtain ⟨U6, hU6, hr6, k6, b6, a6, s6⟩ := hr5.six (.int .i64 r.code) (.int .i64 r.fd) (.int .i64 r.num) (.bool r.dir) (.string r.data) (.slice none 0 0)
 have ho6 : OutAt U6 (W.heap.size + 1) _ _ _ := (a6 (W.heap.size + 1) (by omega)).trans ho5
 have hbw : Below w.heap.size w U6 := b6 w.heap.size w (by omega) (b5 w.heap.size w (by omega) HB8.out)
 have hst6 := (HST8.out.keep3 (k5 _ (by decide)) (k5 _ (by decide)) (k5 _ (by decide)) (k5 _ (by decide))).keep3 (k6 _ (by decide)) (k6 _ (by decide)) (k6 _ (by decide)) (k6 _ (by decide))
 rw [hU5, hU6]
 have HO6f := Lib.hid ho6
 have HR6f := Lib.hid hr6
 have HSTf := Lib.hid ((hst6.lower (by have := hb4s; omega)).below (Below.drew (Below.refl _ _)))
 have HBF := Lib.hid (Below.drew hbw)
 clear hU5 hU6 ho5 k5 b5 hr5 hr6 k6 b6 a6 s6 ho6 hst6 hbw t0 t1 t2 v0 v1 v2 v3 v4 v5 uf0 uf1 uf2 uf vf j0 j1 j2 j3 j4 j5 q0 q1 q2
 go_wp2_with fail
 (try simp only [Exit.inBlock, Exit.then])
 refine bodyPost_ret (v := .tuple #[.agg #[.slice A6 n6 c6, .slice E6 m6 d6, .slice D6 k6' e6], .agg #[.int .i64 r.code, .int .i64 r.fd, .int .i64 r.num, .bool r.dir, .string r.data, .slice none 0 0]]) ?_ rfl ?_
 ·rw [results_cells rfl]
  have hl1 := run_loadVar_row (P := Tryz.prog) U6.drew (W.heap.size + 1) _ 26 _ (0, 0) _ HO6f.out Tryz.underlying26 rfl (by kernel_rfl)
  have hl2 := run_loadVar_row (P := Tryz.prog) U6.drew (W.heap.size + 1 + 1) _ 44 _ (0, 0) _ HR6f.out Tryz.underlying44 rfl (by kernel_rfl)
  simp [asAddr, hl1, hl2, Result.andThen]
 ·exact ⟨_, rfl, HSTf.out, HBF.out⟩
theorem make_ints (N : Nat) (h : N ≤ 65536) (w : World) : ∃ W, (Instr.makeSlice 24 (.int .i64 (N : Int)) (.int .i64 (N : Int))).run Tryz.prog w = .ok (.slice (some ⟨w.heap.size, 0, .none⟩) N N) W ∧ IntsAt (some w.heap.size) W (some ⟨w.heap.size, 0, .none⟩) N (List.replicate N 0) ∧ Below w.heap.size w W := by
 refine ⟨_, run_make_row' (P := Tryz.prog) 24 3 (.int .i64 0) 8 Tryz.underlying24 infoNum rfl .i64 .i64 N (by omega) (by omega) w, ⟨by simp, fun hn => ⟨w.heap.size, 0, rfl, by simp, fun B hB => ?_, fun j x hx => ?_⟩⟩, (Below.refl _ _).alloc (Nat.le_refl _) _⟩
 ·cases hB
  exact ⟨Nat.le_refl _, _, heap_alloc_new w _⟩
 ·have hj : j < N := by have := (List.getElem?_eq_some_iff.1 hx).1; simpa using this
  have h0 : x = 0 := by rw [List.getElem?_replicate, if_pos hj] at hx; exact (Option.some.inj hx).symm
  subst h0
  rw [Nat.zero_add]
  refine (cell_of_row _ w.heap.size _ _ _ (0, 0) (heap_alloc_new w _)).trans ?_
  simp [madeCells, hj, Nat.mod_one]
set_option maxRecDepth 100000 in
set_option maxHeartbeats 4000000 in
theorem new_any (n : Nat) (h1 : 1 ≤ n) (h8 : n ≤ 8) (w : World) :
  Calls Tryz.prog 18 #[.int .i64 (n : Int)] w fun e w' => ∃ v, e = .returned (.tuple #[v, .int .i64 0]) ∧ StAt (some w.heap.size) w' v (newV n) ∧ Below w.heap.size w w' := by
 have q1 : decide ((n : Int) < 1) = false := by rw [decide_eq_false_iff_not]; omega
 have q2 : decide ((8 : Int) < (n : Int)) = false := by rw [decide_eq_false_iff_not]; omega
 obtain ⟨W1, hW1⟩ : ∃ W1, w.alloc (.cells #[.slice none 0 0, .slice none 0 0, .slice none 0 0] 26) = W1 := ⟨_, rfl⟩
 have o1 : OutAt W1 w.heap.size (.slice none 0 0) (.slice none 0 0) (.slice none 0 0) := by rw [← hW1]; exact heap_alloc_new w _
 have l1 : Below w.heap.size w W1 := by rw [← hW1]; exact (Below.refl _ _).alloc (Nat.le_refl _) _
 have z1 : W1.heap.size = w.heap.size + 1 := by rw [← hW1]; simp
 obtain ⟨W2, hW2⟩ : ∃ W2, W1.alloc (.cells #[.int .i64 1, .bool true, .slice none 0 0, .string ⟨#[]⟩] 52) = W2 := ⟨_, rfl⟩
 have i2 : W2.heap[W1.heap.size]? = some (.cells #[.int .i64 1, .bool true, .slice none 0 0, .string ⟨#[]⟩] 52 (0, 0)) := by rw [← hW2]; exact heap_alloc_new W1 _
 have l2 : Below W1.heap.size W1 W2 := by rw [← hW2]; exact (Below.refl _ _).alloc (Nat.le_refl _) _
 have z2 : W2.heap.size = W1.heap.size + 1 := by rw [← hW2]; simp
 obtain ⟨W3, hmk, hints, l3⟩ := make_ints n (by omega) W2
 have i3 := (l3.block W1.heap.size (by omega)).trans i2
 have o3 : OutAt W3 w.heap.size (.slice none 0 0) (.slice none 0 0) (.slice none 0 0) := ((l2.trans (l3.mono (by omega))).block w.heap.size (by omega)).trans o1
 have hb3 : Below w.heap.size w W3 := Cv.next l1 (Cv.next l2 l3)
 obtain ⟨g0, g1, g2, gf⟩ := o3.get
 have gf0 := gf 0
 have gf1 := gf 1
 have gf2 := gf 2
 obtain ⟨W4, hW4, o4, k4, b4⟩ := o3.three (.slice (some ⟨W1.heap.size, 0, none⟩) 1 1) (.slice none 0 0) (.slice (some ⟨W2.heap.size, 0, none⟩) n n)
 have i4 := ((k4 52 (by decide)).same _ _ i3).trans i3
 have hi : InosAt (some w.heap.size) W4 (some ⟨W1.heap.size, 0, none⟩) 1 [⟨1, true, [], txt []⟩] := by
  refine ⟨rfl, fun _ => ⟨W1.heap.size, 0, rfl, (Array.getElem?_eq_some_iff.1 i4).1, fun B hB => ?_, fun j x hx => ?_⟩⟩
  ·cases hB
   exact ⟨by omega, _, i4⟩
  ·have hj : j = 0 := by have := (List.getElem?_eq_some_iff.1 hx).1; simpa using this
   subst hj
   have ex : (⟨1, true, [], txt []⟩ : Ino) = x := by simpa using hx
   subst ex
   refine ⟨?_, ?_, ⟨none, 0, 0, ?_, ⟨Nat.le_refl _, fun _ => rfl⟩, rfl, fun h => absurd h (by omega)⟩, ?_⟩ <;> (rw [cell_of_row W4 W1.heap.size _ _ _ (0, 0) i4]; rfl)
 have hd : DescsAt (some w.heap.size) W4 none 0 [] := ⟨rfl, fun h => absurd h (by omega)⟩
 have hm : IntsAt (some w.heap.size) W4 (some ⟨W2.heap.size, 0, none⟩) n (List.replicate n 0) := (hints.keep (k4 _ (by decide))).mono (by omega)
 have hst : StAt (some w.heap.size) W4 (.agg #[.slice (some ⟨W1.heap.size, 0, none⟩) 1 1, .slice none 0 0, .slice (some ⟨W2.heap.size, 0, none⟩) n n]) (newV n) := by
  refine ⟨⟨_, 1, 1, _, 0, 0, _, n, n, rfl, hi, hd, hm, ⟨Nat.le_refl _, fun h => by cases h⟩, ⟨Nat.le_refl _, fun _ => rfl⟩, ⟨Nat.le_refl _, fun h => by cases h⟩⟩, ⟨?_, ?_, ?_, ?_⟩⟩
  ·show 1 + bulkE [⟨1, true, [], txt []⟩] + 0 + (List.replicate n (0 : Int)).length ≤ _
   rw [List.length_replicate]
   show 1 + 0 + 0 + n ≤ _
   omega
  ·intro x hx
   have ex : x = ⟨1, true, [], txt []⟩ := by simpa [newV] using hx
   subst ex
   exact ⟨Nat.zero_le _, fun e he => by cases he⟩
  ·intro x hx
   have ex : x = ⟨1, true, [], txt []⟩ := by simpa [newV] using hx
   subst ex
   exact ⟨by show (-9223372036854775808 : Int) ≤ 1; omega, by show (1 : Int) ≤ 9223372036854775807; omega, fun e he => by cases he⟩
  ·intro x hx
   have ex : x = 0 := by
    have := List.mem_replicate.1 (show x ∈ List.replicate n (0 : Int) from hx)
    exact this.2
   subst ex
   omega
 have HST := Lib.hid hst
 have HB4 := Lib.hid (b4 _ _ (Nat.le_refl _) hb3)
 have HO4 := Lib.hid o4
 obtain ⟨t0, t1, t2, _⟩ := o4.get
 clear hst hi hd hm i4 i3 i2 o1 o3 o4 k4 b4 l1 l2 l3 hb3 hints z1 z2 gf
 go_enter Tryz.func18, Tryz.ntmps18
 go_wp2_with fail
 (try simp only [Exit.inBlock, Exit.then])
 refine bodyPost_ret (v := .tuple #[.agg #[.slice (some ⟨W1.heap.size, 0, none⟩) 1 1, .slice none 0 0, .slice (some ⟨W2.heap.size, 0, none⟩) n n], .int .i64 0]) ?_ rfl ⟨_, rfl, HST.out, HB4.out⟩
 rw [results_cell_tmp rfl]
 have hload := run_loadVar_row (P := Tryz.prog) W4 w.heap.size _ 26 _ (0, 0) _ HO4.out Tryz.underlying26 rfl (by kernel_rfl)
 simp [asAddr, hload, Result.andThen]
end Go.Proofs.YthhceopnnappgaaGreatDoor
