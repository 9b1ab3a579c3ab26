/- The law ModelRemoves: its walk (printed by wip/gen_removes.py). -/
import Derived.Test.YtndcloohcfhejaaGreatM43
set_option linter.unusedVariables false
set_option linter.unusedSimpArgs false
namespace Go.Proofs.YtndcloohcfhejaaGreat
open Go.RowKit
theorem pathR_size : ∀ k < 8, (pathR k).size ≤ 10 := by decide
theorem rowR {w : World} {g : Nat} {t : TypeId} (h : w.heap[g]? = some (.cells #[.string ⟨#[47, 100]⟩, .string ⟨#[47, 101]⟩, .string ⟨#[47, 102]⟩, .string ⟨#[47, 100, 47, 104]⟩, .string ⟨#[47, 122]⟩, .string ⟨#[47, 102, 47, 120]⟩, .string ⟨#[47, 122, 47, 120]⟩, .string ⟨#[47]⟩] t (0, 0))) (k : Nat) (hk : k < 8) : w.cell? ⟨g, k, none⟩ = some (.string (pathR k)) := by
 have : k = 0 ∨ k = 1 ∨ k = 2 ∨ k = 3 ∨ k = 4 ∨ k = 5 ∨ k = 6 ∨ k = 7 := by omega
 rcases this with e | e | e | e | e | e | e | e <;> (subst e; rw [cell_of_row w _ _ _ _ (0, 0) h]; rfl)
theorem rowU {w : World} {g : Nat} {t : TypeId} (h : w.heap[g]? = some (.cells #[.int .i64 8, .int .i64 8, .int .i64 0, .int .i64 0, .int .i64 1, .int .i64 7, .int .i64 1, .int .i64 9] t (0, 0))) (k : Nat) (hk : k < 8) : w.cell? ⟨g, k, none⟩ = some (.int .i64 (unlinkW k)) := by
 have : k = 0 ∨ k = 1 ∨ k = 2 ∨ k = 3 ∨ k = 4 ∨ k = 5 ∨ k = 6 ∨ k = 7 := by omega
 rcases this with e | e | e | e | e | e | e | e <;> (subst e; rw [cell_of_row w _ _ _ _ (0, 0) h]; rfl)
theorem rowV {w : World} {g : Nat} {t : TypeId} (h : w.heap[g]? = some (.cells #[.int .i64 3, .int .i64 0, .int .i64 7, .int .i64 7, .int .i64 1, .int .i64 7, .int .i64 1, .int .i64 9] t (0, 0))) (k : Nat) (hk : k < 8) : w.cell? ⟨g, k, none⟩ = some (.int .i64 (removeW k)) := by
 have : k = 0 ∨ k = 1 ∨ k = 2 ∨ k = 3 ∨ k = 4 ∨ k = 5 ∨ k = 6 ∨ k = 7 := by omega
 rcases this with e | e | e | e | e | e | e | e <;> (subst e; rw [cell_of_row w _ _ _ _ (0, 0) h]; rfl)
set_option maxRecDepth 100000 in
set_option maxHeartbeats 8000000 in
theorem modelRemoves_0 (which : Int) (w : World) : Calls Tryz.prog 6 #[.int .i64 which, .bool false] w fun e w' => e = .returned (.bool true) ∧ Below w.heap.size w w' := by
 obtain ⟨k, hk, hkk⟩ := Cv.tmod_u64 which 8 (by omega)
 rw [show ((8 : Nat) : Int) = 8 from rfl] at hkk
 have wk : IntKind.i64.wrap (k : Int) = (k : Int) := IntWalk.i64_in _ (by omega)
 have kk0 : (0 : Int) ≤ (k : Int) := by omega
 have kk1 : (k : Int) < 8 := by omega
 have tk : (k : Int).toNat = k := by omega
 have hps := pathR_size k hk
 have HK := Lib.hid hk
 go_enter Tryz.func6, Tryz.ntmps6
 go_wp2_with fail
 refine (awake13 _).mono ?_
 rintro ea V1 ⟨rfl, hb1⟩
 have HB := Lib.hid hb1
 have hw1 := hb1.size
 clear hb1
 go_wp2_with fail
 refine (made_one V1).mono ?_
 rintro eb x0 ⟨v0, rfl, hst, hb1⟩
 obtain ⟨A0, n0, c0, E0, m0, d0, D0, k0, g0, rfl, hI0, -⟩ := hst.at_
 obtain ⟨w0, hV0, hyz0, ho, hb⟩ := box_s x0 (.slice A0 n0 c0) (.slice E0 m0 d0) (.slice D0 k0 g0)
 have HB := Lib.hid (Cv.next HB.out (Cv.next hb1 hb))
 have HS0 := Lib.hid ((hst.lower (Nat.zero_le _)).below hb)
 have hxz0 := hb1.size
 have HO0 := Lib.hid ho
 have HN0 := Lib.hid hI0.1
 clear hst hb1 ho hb hI0
 obtain ⟨Xp, hXp, hr, hb, hzp⟩ := boxR w0 #[.string ⟨#[47, 100]⟩, .string ⟨#[47, 101]⟩, .string ⟨#[47, 102]⟩, .string ⟨#[47, 100, 47, 104]⟩, .string ⟨#[47, 122]⟩, .string ⟨#[47, 102, 47, 120]⟩, .string ⟨#[47, 122, 47, 120]⟩, .string ⟨#[47]⟩] 9
 rw [hyz0] at hr hzp
 replace HO0 := Lib.hid (HO0.out.mv hb)
 replace HS0 := Lib.hid (HS0.out.below hb)
 replace HB := Lib.hid (Cv.next HB.out hb)
 have HCp : Hid (_ = some _) := Lib.hid hr
 have hsp := hb.size
 clear hr hb
 obtain ⟨Xu, hXu, hr, hb, hzu⟩ := boxR Xp #[.int .i64 8, .int .i64 8, .int .i64 0, .int .i64 0, .int .i64 1, .int .i64 7, .int .i64 1, .int .i64 9] 3
 rw [hzp] at hr hzu
 replace HO0 := Lib.hid (HO0.out.mv hb)
 replace HCp : Hid (_ = some _) := Lib.hid (row_kept hb HCp.out)
 replace HS0 := Lib.hid (HS0.out.below hb)
 replace HB := Lib.hid (Cv.next HB.out hb)
 have HCu : Hid (_ = some _) := Lib.hid hr
 have hsu := hb.size
 clear hr hb
 obtain ⟨Xv, hXv, hr, hb, hzv⟩ := boxR Xu #[.int .i64 3, .int .i64 0, .int .i64 7, .int .i64 7, .int .i64 1, .int .i64 7, .int .i64 1, .int .i64 9] 3
 rw [hzu] at hr hzv
 replace HO0 := Lib.hid (HO0.out.mv hb)
 replace HCp : Hid (_ = some _) := Lib.hid (row_kept hb HCp.out)
 replace HCu : Hid (_ = some _) := Lib.hid (row_kept hb HCu.out)
 replace HS0 := Lib.hid (HS0.out.below hb)
 replace HB := Lib.hid (Cv.next HB.out hb)
 have HCv : Hid (_ = some _) := Lib.hid hr
 have hsv := hb.size
 clear hr hb
 obtain ⟨WT, hWT⟩ : ∃ WT, unlinkW k = WT := ⟨_, rfl⟩
 have HWT := Lib.hid hWT
 obtain ⟨PT, hPT⟩ : ∃ PT, pathR k = PT := ⟨_, rfl⟩
 have HPT := Lib.hid hPT
 have cp := rowR HCp.out k hk
 rw [hPT] at cp hps
 obtain ⟨Xc, hXc, hr, hb, hzc⟩ := boxR Xv #[.int .i64 9, .int .i64 0, .int .i64 0, .int .i64 0, .int .i64 0, .string PT, .string ⟨#[]⟩, .string ⟨#[]⟩] 35
 have q6 : Xc.setCell ⟨Xv.heap.size, 6, none⟩ (.string ⟨#[]⟩) = Xc := by rw [← hXc, World.setCell_alloc_new]; rfl
 have q7 : Xc.setCell ⟨Xv.heap.size, 7, none⟩ (.string ⟨#[]⟩) = Xc := by rw [← hXc, World.setCell_alloc_new]; rfl
 have cu := rowU (row_kept hb HCu.out) k hk
 rw [hzv] at hr hzc q6 q7
 have zf6 : Xc.frozen? ⟨x0.heap.size + 1 + 1 + 1 + 1, 6, none⟩ = false := frozen_of_row Xc _ 6 _ _ hr
 have zf7 : Xc.frozen? ⟨x0.heap.size + 1 + 1 + 1 + 1, 7, none⟩ = false := frozen_of_row Xc _ 7 _ _ hr
 have zc6 : Xc.cell? ⟨x0.heap.size + 1 + 1 + 1 + 1, 6, none⟩ = some (.string ⟨#[]⟩) := by rw [cell_of_row Xc _ _ _ _ (0, 0) hr]; rfl
 have zc7 : Xc.cell? ⟨x0.heap.size + 1 + 1 + 1 + 1, 7, none⟩ = some (.string ⟨#[]⟩) := by rw [cell_of_row Xc _ _ _ _ (0, 0) hr]; rfl
 replace HO0 := Lib.hid (HO0.out.mv hb)
 replace HCp : Hid (_ = some _) := Lib.hid (row_kept hb HCp.out)
 replace HCu : Hid (_ = some _) := Lib.hid (row_kept hb HCu.out)
 replace HCv : Hid (_ = some _) := Lib.hid (row_kept hb HCv.out)
 replace HS0 := Lib.hid (HS0.out.below hb)
 replace HB := Lib.hid (Cv.next HB.out hb)
 rw [hWT] at cu
 have cp := rowR HCp.out k hk
 rw [hPT] at cp
 have z0 : Xc.cell? ⟨x0.heap.size + 1 + 1 + 1 + 1, 0, none⟩ = some (.int .i64 9) := by rw [cell_of_row Xc _ _ _ _ (0, 0) hr]; rfl
 have z1 : Xc.cell? ⟨x0.heap.size + 1 + 1 + 1 + 1, 1, none⟩ = some (.int .i64 0) := by rw [cell_of_row Xc _ _ _ _ (0, 0) hr]; rfl
 have z2 : Xc.cell? ⟨x0.heap.size + 1 + 1 + 1 + 1, 2, none⟩ = some (.int .i64 0) := by rw [cell_of_row Xc _ _ _ _ (0, 0) hr]; rfl
 have z3 : Xc.cell? ⟨x0.heap.size + 1 + 1 + 1 + 1, 3, none⟩ = some (.int .i64 0) := by rw [cell_of_row Xc _ _ _ _ (0, 0) hr]; rfl
 have z4 : Xc.cell? ⟨x0.heap.size + 1 + 1 + 1 + 1, 4, none⟩ = some (.int .i64 0) := by rw [cell_of_row Xc _ _ _ _ (0, 0) hr]; rfl
 have z5 : Xc.cell? ⟨x0.heap.size + 1 + 1 + 1 + 1, 5, none⟩ = some (.string PT) := by rw [cell_of_row Xc _ _ _ _ (0, 0) hr]; rfl
 have z6 : Xc.cell? ⟨x0.heap.size + 1 + 1 + 1 + 1, 6, none⟩ = some (.string ⟨#[]⟩) := by rw [cell_of_row Xc _ _ _ _ (0, 0) hr]; rfl
 have z7 : Xc.cell? ⟨x0.heap.size + 1 + 1 + 1 + 1, 7, none⟩ = some (.string ⟨#[]⟩) := by rw [cell_of_row Xc _ _ _ _ (0, 0) hr]; rfl
 clear hr hb
 clear hWT hPT
 obtain ⟨i0, i1, i2, _⟩ := HO0.out.get
 go_wp2_with fail
 have hdo := mDo_any (.agg #[.slice A0 n0 c0, .slice E0 m0 d0, .slice D0 k0 g0]) (madeV 1) ⟨9, 0, 0, 0, 0, PT, ⟨#[]⟩, ⟨#[]⟩⟩ Xc HS0.out.weak (by show PT.size ≤ _; omega) (by show (0 : Nat) ≤ _; omega) (by show (0 : Nat) ≤ _; omega)
 obtain ⟨R1, hR1⟩ : ∃ R, doV (madeV 1) ⟨9, 0, 0, 0, 0, PT, ⟨#[]⟩, ⟨#[]⟩⟩ = R := ⟨_, rfl⟩
 rw [hR1] at hdo
 have HR1E := Lib.hid hR1
 refine hdo.mono ?_
 clear hdo hR1
 rintro e1 x1 ⟨v1, rv1, rfl, hst, ⟨F1, f1, p1, rfl, hokF, hnF⟩, hb1⟩
 obtain ⟨A1, n1, c1, E1, m1, d1, D1, k1, g1, rfl, hIk, hDk, -⟩ := hst.at_
 obtain ⟨U1, w1, hU1, hV1, hy1, hyz1, ho, hr, hb⟩ := box_sr x1 (.slice A1 n1 c1) (.slice E1 m1 d1) (.slice D1 k1 g1) R1.2.code R1.2.fd R1.2.num R1.2.dir R1.2.data F1 f1 p1
 have hbb : Below Xc.heap.size Xc w1 := Cv.next hb1 hb
 replace HO0 := Lib.hid (HO0.out.mv hbb)
 replace HCp : Hid (_ = some _) := Lib.hid (row_kept hbb HCp.out)
 replace HCu : Hid (_ = some _) := Lib.hid (row_kept hbb HCu.out)
 replace HCv : Hid (_ = some _) := Lib.hid (row_kept hbb HCv.out)
 replace HS0 := Lib.hid (HS0.out.below hbb)
 replace HB := Lib.hid (Cv.next HB.out hbb)
 clear z0 z1 z2 z3 z4 z5 z6 z7 i0 i1 i2
 have HS1 := Lib.hid ((hst.lower (Nat.zero_le _)).below hb)
 have hxz1 := hb1.size
 have HO1 := Lib.hid ho
 have HR1 := Lib.hid hr
 have hsz1 := hbb.size
 clear hst hb1 ho hr hb hbb hokF hnF hIk hDk
 have f1 : R1.2.code = WT := by rw [← HR1E.out, ← HWT.out, ← HPT.out]; exact (removes_code k HK.out).1
 obtain ⟨r0, r1, r2, r3, r4, r5, _⟩ := HR1.out.get
 rw [f1] at r0
 clear f1
 obtain ⟨t0, t1, t2, _⟩ := HO1.out.get
 have cp := rowR HCp.out k hk
 rw [HPT.out] at cp
 clear hk
 by_cases hw : WT = 0
 ·subst hw
  have HX : Hid (∀ X : Ext w1, Calls Tryz.prog 17 #[(.agg #[.slice A1 n1 c1, .slice E1 m1 d1, .slice D1 k1 g1]), .agg #[.int .i64 13, .int .i64 0, .int .i64 0, .int .i64 0, .int .i64 0, .string PT, .string ⟨#[]⟩, .string ⟨#[]⟩]] X.w fun e w' => e = .returned (.int .i64 1) ∧ Below X.w.heap.size X.w w') := Lib.hid fun X => by
   have h := code13_any (.agg #[.slice A1 n1 c1, .slice E1 m1 d1, .slice D1 k1 g1]) R1.1 ⟨13, 0, 0, 0, 0, PT, ⟨#[]⟩, ⟨#[]⟩⟩ X.w (HS1.out.weak.below X.bel) (by show PT.size ≤ _; omega) (by show (0 : Nat) ≤ _; omega) (by show (0 : Nat) ≤ _; omega)
   rw [show (doV R1.1 ⟨13, 0, 0, 0, 0, PT, ⟨#[]⟩, ⟨#[]⟩⟩).2.code = 1 by rw [← HR1E.out, ← HPT.out]; exact removes_gone9 k HK.out HWT.out] at h
   exact h
  go_wp2_with fail
  have hXc : ∀ (X : Ext w1) (p : Addr), (w1.cell? p).isSome = true → X.w.cell? p = w1.cell? p := fun X p h => X.cell p h
  refine wp_region_ext (by kernel_rfl) (by kernel_rfl) ?_
  repeat (go_big_quiet_step (first | (go_at_call 17; rename_i X; with_reducible exact Calls.ext_of (HX.out X))))
  refine wpQuiet_nil ?_
  rintro z2 ⟨X2z, rfl⟩
  have hbx := X2z.bel
  clear hXc
  replace HO0 := Lib.hid (HO0.out.mv hbx)
  replace HO1 := Lib.hid (HO1.out.mv hbx)
  replace HR1 := Lib.hid (HR1.out.mv hbx)
  replace HCp : Hid (_ = some _) := Lib.hid (row_kept hbx HCp.out)
  replace HCu : Hid (_ = some _) := Lib.hid (row_kept hbx HCu.out)
  replace HCv : Hid (_ = some _) := Lib.hid (row_kept hbx HCv.out)
  replace HS0 := Lib.hid (HS0.out.below hbx)
  replace HS1 := Lib.hid (HS1.out.below hbx)
  replace HB := Lib.hid (Cv.next HB.out hbx)
  clear r0 r1 r2 r3 r4 r5 t0 t1 t2
  clear hbx
  go_wp2_with fail
  go_ret
  exact ⟨rfl, HB.out⟩
 ·have qw : (WT != 0) = true := by rw [bne_iff_ne]; exact hw
  clear hw
  go_wp2_with fail
  have hXc : ∀ (X : Ext w1) (p : Addr), (w1.cell? p).isSome = true → X.w.cell? p = w1.cell? p := fun X p h => X.cell p h
  refine wp_region_ext (by kernel_rfl) (by kernel_rfl) ?_
  repeat (go_big_quiet_step (fail))
  refine wpQuiet_nil ?_
  rintro z2 ⟨X2z, rfl⟩
  have hbx := X2z.bel
  clear hXc
  replace HO0 := Lib.hid (HO0.out.mv hbx)
  replace HO1 := Lib.hid (HO1.out.mv hbx)
  replace HR1 := Lib.hid (HR1.out.mv hbx)
  replace HCp : Hid (_ = some _) := Lib.hid (row_kept hbx HCp.out)
  replace HCu : Hid (_ = some _) := Lib.hid (row_kept hbx HCu.out)
  replace HCv : Hid (_ = some _) := Lib.hid (row_kept hbx HCv.out)
  replace HS0 := Lib.hid (HS0.out.below hbx)
  replace HS1 := Lib.hid (HS1.out.below hbx)
  replace HB := Lib.hid (Cv.next HB.out hbx)
  clear r0 r1 r2 r3 r4 r5 t0 t1 t2
  clear hbx
  go_wp2_with fail
  go_ret
  exact ⟨rfl, HB.out⟩
set_option maxRecDepth 100000 in
set_option maxHeartbeats 8000000 in
theorem modelRemoves_1 (which : Int) (w : World) : Calls Tryz.prog 6 #[.int .i64 which, .bool true] w fun e w' => e = .returned (.bool true) ∧ Below w.heap.size w w' := by
 obtain ⟨k, hk, hkk⟩ := Cv.tmod_u64 which 8 (by omega)
 rw [show ((8 : Nat) : Int) = 8 from rfl] at hkk
 have wk : IntKind.i64.wrap (k : Int) = (k : Int) := IntWalk.i64_in _ (by omega)
 have kk0 : (0 : Int) ≤ (k : Int) := by omega
 have kk1 : (k : Int) < 8 := by omega
 have tk : (k : Int).toNat = k := by omega
 have hps := pathR_size k hk
 have HK := Lib.hid hk
 go_enter Tryz.func6, Tryz.ntmps6
 go_wp2_with fail
 refine (awake13 _).mono ?_
 rintro ea V1 ⟨rfl, hb1⟩
 have HB := Lib.hid hb1
 have hw1 := hb1.size
 clear hb1
 go_wp2_with fail
 refine (made_one V1).mono ?_
 rintro eb x0 ⟨v0, rfl, hst, hb1⟩
 obtain ⟨A0, n0, c0, E0, m0, d0, D0, k0, g0, rfl, hI0, -⟩ := hst.at_
 obtain ⟨w0, hV0, hyz0, ho, hb⟩ := box_s x0 (.slice A0 n0 c0) (.slice E0 m0 d0) (.slice D0 k0 g0)
 have HB := Lib.hid (Cv.next HB.out (Cv.next hb1 hb))
 have HS0 := Lib.hid ((hst.lower (Nat.zero_le _)).below hb)
 have hxz0 := hb1.size
 have HO0 := Lib.hid ho
 have HN0 := Lib.hid hI0.1
 clear hst hb1 ho hb hI0
 obtain ⟨Xp, hXp, hr, hb, hzp⟩ := boxR w0 #[.string ⟨#[47, 100]⟩, .string ⟨#[47, 101]⟩, .string ⟨#[47, 102]⟩, .string ⟨#[47, 100, 47, 104]⟩, .string ⟨#[47, 122]⟩, .string ⟨#[47, 102, 47, 120]⟩, .string ⟨#[47, 122, 47, 120]⟩, .string ⟨#[47]⟩] 9
 rw [hyz0] at hr hzp
 replace HO0 := Lib.hid (HO0.out.mv hb)
 replace HS0 := Lib.hid (HS0.out.below hb)
 replace HB := Lib.hid (Cv.next HB.out hb)
 have HCp : Hid (_ = some _) := Lib.hid hr
 have hsp := hb.size
 clear hr hb
 obtain ⟨Xu, hXu, hr, hb, hzu⟩ := boxR Xp #[.int .i64 8, .int .i64 8, .int .i64 0, .int .i64 0, .int .i64 1, .int .i64 7, .int .i64 1, .int .i64 9] 3
 rw [hzp] at hr hzu
 replace HO0 := Lib.hid (HO0.out.mv hb)
 replace HCp : Hid (_ = some _) := Lib.hid (row_kept hb HCp.out)
 replace HS0 := Lib.hid (HS0.out.below hb)
 replace HB := Lib.hid (Cv.next HB.out hb)
 have HCu : Hid (_ = some _) := Lib.hid hr
 have hsu := hb.size
 clear hr hb
 obtain ⟨Xv, hXv, hr, hb, hzv⟩ := boxR Xu #[.int .i64 3, .int .i64 0, .int .i64 7, .int .i64 7, .int .i64 1, .int .i64 7, .int .i64 1, .int .i64 9] 3
 rw [hzu] at hr hzv
 replace HO0 := Lib.hid (HO0.out.mv hb)
 replace HCp : Hid (_ = some _) := Lib.hid (row_kept hb HCp.out)
 replace HCu : Hid (_ = some _) := Lib.hid (row_kept hb HCu.out)
 replace HS0 := Lib.hid (HS0.out.below hb)
 replace HB := Lib.hid (Cv.next HB.out hb)
 have HCv : Hid (_ = some _) := Lib.hid hr
 have hsv := hb.size
 clear hr hb
 obtain ⟨WT, hWT⟩ : ∃ WT, removeW k = WT := ⟨_, rfl⟩
 have HWT := Lib.hid hWT
 obtain ⟨PT, hPT⟩ : ∃ PT, pathR k = PT := ⟨_, rfl⟩
 have HPT := Lib.hid hPT
 have cp := rowR HCp.out k hk
 rw [hPT] at cp hps
 obtain ⟨Xc, hXc, hr, hb, hzc⟩ := boxR Xv #[.int .i64 9, .int .i64 0, .int .i64 0, .int .i64 0, .int .i64 0, .string PT, .string ⟨#[]⟩, .string ⟨#[]⟩] 35
 have q6 : Xc.setCell ⟨Xv.heap.size, 6, none⟩ (.string ⟨#[]⟩) = Xc := by rw [← hXc, World.setCell_alloc_new]; rfl
 have q7 : Xc.setCell ⟨Xv.heap.size, 7, none⟩ (.string ⟨#[]⟩) = Xc := by rw [← hXc, World.setCell_alloc_new]; rfl
 have cu := rowU (row_kept hb HCu.out) k hk
 rw [hzv] at hr hzc q6 q7
 have zf6 : Xc.frozen? ⟨x0.heap.size + 1 + 1 + 1 + 1, 6, none⟩ = false := frozen_of_row Xc _ 6 _ _ hr
 have zf7 : Xc.frozen? ⟨x0.heap.size + 1 + 1 + 1 + 1, 7, none⟩ = false := frozen_of_row Xc _ 7 _ _ hr
 have zc6 : Xc.cell? ⟨x0.heap.size + 1 + 1 + 1 + 1, 6, none⟩ = some (.string ⟨#[]⟩) := by rw [cell_of_row Xc _ _ _ _ (0, 0) hr]; rfl
 have zc7 : Xc.cell? ⟨x0.heap.size + 1 + 1 + 1 + 1, 7, none⟩ = some (.string ⟨#[]⟩) := by rw [cell_of_row Xc _ _ _ _ (0, 0) hr]; rfl
 have zf : Xc.frozen? ⟨x0.heap.size + 1 + 1 + 1 + 1, 0, none⟩ = false := frozen_of_row Xc _ 0 _ _ hr
 have zc : Xc.cell? ⟨x0.heap.size + 1 + 1 + 1 + 1, 0, none⟩ = some (.int .i64 9) := by rw [cell_of_row Xc _ _ _ _ (0, 0) hr]; rfl
 obtain ⟨Xd, hXd⟩ : ∃ Xd, Xc.setCell ⟨x0.heap.size + 1 + 1 + 1 + 1, 0, none⟩ (.int .i64 10) = Xd := ⟨_, rfl⟩
 have hrd : Xd.heap[x0.heap.size + 1 + 1 + 1 + 1]? = some (.cells #[.int .i64 10, .int .i64 0, .int .i64 0, .int .i64 0, .int .i64 0, .string PT, .string ⟨#[]⟩, .string ⟨#[]⟩] 35 (0, 0)) := by rw [← hXd]; exact heap_setCell_same Xc _ 0 _ _ _ hr
 have hbd : Below Xv.heap.size Xv Xd := by rw [← hXd]; exact hb.setCell (by rw [hzv]; exact Nat.le_refl _) _
 replace HO0 := Lib.hid (HO0.out.mv hbd)
 replace HCp : Hid (_ = some _) := Lib.hid (row_kept hbd HCp.out)
 replace HCu : Hid (_ = some _) := Lib.hid (row_kept hbd HCu.out)
 replace HCv : Hid (_ = some _) := Lib.hid (row_kept hbd HCv.out)
 replace HS0 := Lib.hid (HS0.out.below hbd)
 replace HB := Lib.hid (Cv.next HB.out hbd)
 have cv := rowV HCv.out k hk
 rw [hWT] at cv
 have cp := rowR HCp.out k hk
 rw [hPT] at cp
 have z0 : Xd.cell? ⟨x0.heap.size + 1 + 1 + 1 + 1, 0, none⟩ = some (.int .i64 10) := by rw [cell_of_row Xd _ _ _ _ (0, 0) hrd]; rfl
 have z1 : Xd.cell? ⟨x0.heap.size + 1 + 1 + 1 + 1, 1, none⟩ = some (.int .i64 0) := by rw [cell_of_row Xd _ _ _ _ (0, 0) hrd]; rfl
 have z2 : Xd.cell? ⟨x0.heap.size + 1 + 1 + 1 + 1, 2, none⟩ = some (.int .i64 0) := by rw [cell_of_row Xd _ _ _ _ (0, 0) hrd]; rfl
 have z3 : Xd.cell? ⟨x0.heap.size + 1 + 1 + 1 + 1, 3, none⟩ = some (.int .i64 0) := by rw [cell_of_row Xd _ _ _ _ (0, 0) hrd]; rfl
 have z4 : Xd.cell? ⟨x0.heap.size + 1 + 1 + 1 + 1, 4, none⟩ = some (.int .i64 0) := by rw [cell_of_row Xd _ _ _ _ (0, 0) hrd]; rfl
 have z5 : Xd.cell? ⟨x0.heap.size + 1 + 1 + 1 + 1, 5, none⟩ = some (.string PT) := by rw [cell_of_row Xd _ _ _ _ (0, 0) hrd]; rfl
 have z6 : Xd.cell? ⟨x0.heap.size + 1 + 1 + 1 + 1, 6, none⟩ = some (.string ⟨#[]⟩) := by rw [cell_of_row Xd _ _ _ _ (0, 0) hrd]; rfl
 have z7 : Xd.cell? ⟨x0.heap.size + 1 + 1 + 1 + 1, 7, none⟩ = some (.string ⟨#[]⟩) := by rw [cell_of_row Xd _ _ _ _ (0, 0) hrd]; rfl
 clear hr hrd hb hbd
 clear hWT hPT
 obtain ⟨i0, i1, i2, _⟩ := HO0.out.get
 go_wp2_with fail
 have hdo := mDo_any (.agg #[.slice A0 n0 c0, .slice E0 m0 d0, .slice D0 k0 g0]) (madeV 1) ⟨10, 0, 0, 0, 0, PT, ⟨#[]⟩, ⟨#[]⟩⟩ Xd HS0.out.weak (by show PT.size ≤ _; omega) (by show (0 : Nat) ≤ _; omega) (by show (0 : Nat) ≤ _; omega)
 obtain ⟨R1, hR1⟩ : ∃ R, doV (madeV 1) ⟨10, 0, 0, 0, 0, PT, ⟨#[]⟩, ⟨#[]⟩⟩ = R := ⟨_, rfl⟩
 rw [hR1] at hdo
 have HR1E := Lib.hid hR1
 refine hdo.mono ?_
 clear hdo hR1
 rintro e1 x1 ⟨v1, rv1, rfl, hst, ⟨F1, f1, p1, rfl, hokF, hnF⟩, hb1⟩
 obtain ⟨A1, n1, c1, E1, m1, d1, D1, k1, g1, rfl, hIk, hDk, -⟩ := hst.at_
 obtain ⟨U1, w1, hU1, hV1, hy1, hyz1, ho, hr, hb⟩ := box_sr x1 (.slice A1 n1 c1) (.slice E1 m1 d1) (.slice D1 k1 g1) R1.2.code R1.2.fd R1.2.num R1.2.dir R1.2.data F1 f1 p1
 have hbb : Below Xd.heap.size Xd w1 := Cv.next hb1 hb
 replace HO0 := Lib.hid (HO0.out.mv hbb)
 replace HCp : Hid (_ = some _) := Lib.hid (row_kept hbb HCp.out)
 replace HCu : Hid (_ = some _) := Lib.hid (row_kept hbb HCu.out)
 replace HCv : Hid (_ = some _) := Lib.hid (row_kept hbb HCv.out)
 replace HS0 := Lib.hid (HS0.out.below hbb)
 replace HB := Lib.hid (Cv.next HB.out hbb)
 clear z0 z1 z2 z3 z4 z5 z6 z7 i0 i1 i2
 have HS1 := Lib.hid ((hst.lower (Nat.zero_le _)).below hb)
 have hxz1 := hb1.size
 have HO1 := Lib.hid ho
 have HR1 := Lib.hid hr
 have hsz1 := hbb.size
 clear hst hb1 ho hr hb hbb hokF hnF hIk hDk
 have f1 : R1.2.code = WT := by rw [← HR1E.out, ← HWT.out, ← HPT.out]; exact (removes_code k HK.out).2
 obtain ⟨r0, r1, r2, r3, r4, r5, _⟩ := HR1.out.get
 rw [f1] at r0
 clear f1
 obtain ⟨t0, t1, t2, _⟩ := HO1.out.get
 have cp := rowR HCp.out k hk
 rw [HPT.out] at cp
 clear hk
 by_cases hw : WT = 0
 ·subst hw
  have HX : Hid (∀ X : Ext w1, Calls Tryz.prog 17 #[(.agg #[.slice A1 n1 c1, .slice E1 m1 d1, .slice D1 k1 g1]), .agg #[.int .i64 13, .int .i64 0, .int .i64 0, .int .i64 0, .int .i64 0, .string PT, .string ⟨#[]⟩, .string ⟨#[]⟩]] X.w fun e w' => e = .returned (.int .i64 1) ∧ Below X.w.heap.size X.w w') := Lib.hid fun X => by
   have h := code13_any (.agg #[.slice A1 n1 c1, .slice E1 m1 d1, .slice D1 k1 g1]) R1.1 ⟨13, 0, 0, 0, 0, PT, ⟨#[]⟩, ⟨#[]⟩⟩ X.w (HS1.out.weak.below X.bel) (by show PT.size ≤ _; omega) (by show (0 : Nat) ≤ _; omega) (by show (0 : Nat) ≤ _; omega)
   rw [show (doV R1.1 ⟨13, 0, 0, 0, 0, PT, ⟨#[]⟩, ⟨#[]⟩⟩).2.code = 1 by rw [← HR1E.out, ← HPT.out]; exact removes_gone10 k HK.out HWT.out] at h
   exact h
  go_wp2_with fail
  have hXc : ∀ (X : Ext w1) (p : Addr), (w1.cell? p).isSome = true → X.w.cell? p = w1.cell? p := fun X p h => X.cell p h
  refine wp_region_ext (by kernel_rfl) (by kernel_rfl) ?_
  repeat (go_big_quiet_step (first | (go_at_call 17; rename_i X; with_reducible exact Calls.ext_of (HX.out X))))
  refine wpQuiet_nil ?_
  rintro z2 ⟨X2z, rfl⟩
  have hbx := X2z.bel
  clear hXc
  replace HO0 := Lib.hid (HO0.out.mv hbx)
  replace HO1 := Lib.hid (HO1.out.mv hbx)
  replace HR1 := Lib.hid (HR1.out.mv hbx)
  replace HCp : Hid (_ = some _) := Lib.hid (row_kept hbx HCp.out)
  replace HCu : Hid (_ = some _) := Lib.hid (row_kept hbx HCu.out)
  replace HCv : Hid (_ = some _) := Lib.hid (row_kept hbx HCv.out)
  replace HS0 := Lib.hid (HS0.out.below hbx)
  replace HS1 := Lib.hid (HS1.out.below hbx)
  replace HB := Lib.hid (Cv.next HB.out hbx)
  clear r0 r1 r2 r3 r4 r5 t0 t1 t2
  clear hbx
  go_wp2_with fail
  go_ret
  exact ⟨rfl, HB.out⟩
 ·have qw : (WT != 0) = true := by rw [bne_iff_ne]; exact hw
  clear hw
  go_wp2_with fail
  have hXc : ∀ (X : Ext w1) (p : Addr), (w1.cell? p).isSome = true → X.w.cell? p = w1.cell? p := fun X p h => X.cell p h
  refine wp_region_ext (by kernel_rfl) (by kernel_rfl) ?_
  repeat (go_big_quiet_step (fail))
  refine wpQuiet_nil ?_
  rintro z2 ⟨X2z, rfl⟩
  have hbx := X2z.bel
  clear hXc
  replace HO0 := Lib.hid (HO0.out.mv hbx)
  replace HO1 := Lib.hid (HO1.out.mv hbx)
  replace HR1 := Lib.hid (HR1.out.mv hbx)
  replace HCp : Hid (_ = some _) := Lib.hid (row_kept hbx HCp.out)
  replace HCu : Hid (_ = some _) := Lib.hid (row_kept hbx HCu.out)
  replace HCv : Hid (_ = some _) := Lib.hid (row_kept hbx HCv.out)
  replace HS0 := Lib.hid (HS0.out.below hbx)
  replace HS1 := Lib.hid (HS1.out.below hbx)
  replace HB := Lib.hid (Cv.next HB.out hbx)
  clear r0 r1 r2 r3 r4 r5 t0 t1 t2
  clear hbx
  go_wp2_with fail
  go_ret
  exact ⟨rfl, HB.out⟩
theorem modelRemoves_walk (which : Int) (h0 : (Lit.int .i64 which).wf = true) (rmdir : Bool) (w : World) : Calls Tryz.prog 6 #[.int .i64 which, .bool rmdir] w fun e w' => e = .returned (.bool true) ∧ Below w.heap.size w w' := by
 cases rmdir
 ·exact modelRemoves_0 which w
 ·exact modelRemoves_1 which w
end Go.Proofs.YtndcloohcfhejaaGreat
