/- The law ModelCodes: its walk (printed by wip/gen_codes.py). -/
import Derived.Test.YtndcloohcfhejaaGreatM43
set_option linter.unusedVariables false
set_option linter.unusedSimpArgs false
namespace Go.Proofs.YtndcloohcfhejaaGreat
open Go.RowKit
theorem pathC_size : ∀ k < 8, (pathC k).size ≤ 20 := by decide
theorem rowCP {w : World} {g : Nat} {t : TypeId} (h : w.heap[g]? = some (.cells #[.string ⟨#[]⟩, .string ⟨#[97]⟩, .string ⟨#[47, 97, 47, 47, 98]⟩, .string ⟨#[47, 97, 98, 99, 100, 101, 102, 103, 104, 105, 106, 107, 108, 109]⟩, .string ⟨#[47, 97, 47, 98, 47, 99, 47, 100, 47, 101]⟩, .string ⟨#[47, 46, 46]⟩, .string ⟨#[47, 102, 47]⟩, .string ⟨#[47, 1]⟩] t (0, 0))) (k : Nat) (hk : k < 8) : w.cell? ⟨g, k, none⟩ = some (.string (pathC k)) := by
 have : k = 0 ∨ k = 1 ∨ k = 2 ∨ k = 3 ∨ k = 4 ∨ k = 5 ∨ k = 6 ∨ k = 7 := by omega
 rcases this with e | e | e | e | e | e | e | e <;> (subst e; rw [cell_of_row w _ _ _ _ (0, 0) h]; rfl)
theorem rowCW {w : World} {g : Nat} {t : TypeId} (h : w.heap[g]? = some (.cells #[.int .i64 9, .int .i64 9, .int .i64 9, .int .i64 6, .int .i64 6, .int .i64 9, .int .i64 9, .int .i64 9] t (0, 0))) (k : Nat) (hk : k < 8) : w.cell? ⟨g, k, none⟩ = some (.int .i64 (wantC k)) := by
 have : k = 0 ∨ k = 1 ∨ k = 2 ∨ k = 3 ∨ k = 4 ∨ k = 5 ∨ k = 6 ∨ k = 7 := by omega
 rcases this with e | e | e | e | e | e | e | e <;> (subst e; rw [cell_of_row w _ _ _ _ (0, 0) h]; rfl)
theorem rowCK {w : World} {g : Nat} {t : TypeId} (h : w.heap[g]? = some (.cells #[.int .i64 0, .int .i64 1, .int .i64 2, .int .i64 8, .int .i64 9, .int .i64 10, .int .i64 11, .int .i64 12, .int .i64 13, .int .i64 14] t (0, 0))) (k : Nat) (hk : k < 10) : w.cell? ⟨g, k, none⟩ = some (.int .i64 (kindC k)) := by
 have : k = 0 ∨ k = 1 ∨ k = 2 ∨ k = 3 ∨ k = 4 ∨ k = 5 ∨ k = 6 ∨ k = 7 ∨ k = 8 ∨ k = 9 := by omega
 rcases this with e | e | e | e | e | e | e | e | e | e <;> (subst e; rw [cell_of_row w _ _ _ _ (0, 0) h]; rfl)
theorem rowCF {w : World} {g : Nat} {t : TypeId} (h : w.heap[g]? = some (.cells #[.int .i64 3, .int .i64 4, .int .i64 5, .int .i64 6, .int .i64 7, .int .i64 15] t (0, 0))) (k : Nat) (hk : k < 6) : w.cell? ⟨g, k, none⟩ = some (.int .i64 (kindF k)) := by
 have : k = 0 ∨ k = 1 ∨ k = 2 ∨ k = 3 ∨ k = 4 ∨ k = 5 := by omega
 rcases this with e | e | e | e | e | e <;> (subst e; rw [cell_of_row w _ _ _ _ (0, 0) h]; rfl)
theorem tmod6 (fd : Int) : ∃ g : Nat, g < 11 ∧ fd.tmod 6 = (g : Int) - 5 := by
 cases fd with
 | ofNat n => exact ⟨n % 6 + 5, by omega, by show ((n % 6 : Nat) : Int) = _; omega⟩
 | negSucc n => exact ⟨5 - (n + 1) % 6, by omega, by show -(((n + 1) % 6 : Nat) : Int) = _; omega⟩
set_option maxRecDepth 100000 in
set_option maxHeartbeats 8000000 in
theorem modelCodes_walk (kind : Int) (h0 : (Lit.int .i64 kind).wf = true) (which : Int) (h1 : (Lit.int .i64 which).wf = true) (fd : Int) (h2 : (Lit.int .i64 fd).wf = true) (w : World) : Calls Tryz.prog 11 #[.int .i64 kind, .int .i64 which, .int .i64 fd] w fun e w' => e = .returned (.bool true) ∧ Below w.heap.size w w' := by
 clear h0 h1 h2
 obtain ⟨k, hk, hkk⟩ := Cv.tmod_u64 which 8 (by omega)
 rw [show ((8 : Nat) : Int) = 8 from rfl] at hkk
 obtain ⟨i, hi, hik⟩ := Cv.tmod_u64 kind 10 (by omega)
 rw [show ((10 : Nat) : Int) = 10 from rfl] at hik
 obtain ⟨j, hj, hjk⟩ := Cv.tmod_u64 kind 6 (by omega)
 rw [show ((6 : Nat) : Int) = 6 from rfl] at hjk
 obtain ⟨q, hq, hqk⟩ := Cv.and_i64 kind 3 (by omega)
 rw [show ((3 : Nat) : Int) = 3 from rfl] at hqk
 obtain ⟨g, hg, hgk⟩ := tmod6 fd
 have wk : IntKind.i64.wrap (k : Int) = (k : Int) := IntWalk.i64_in _ (by omega)
 have wq : IntKind.i64.wrap (17 + (q : Int)) = 17 + (q : Int) := IntWalk.i64_in _ (by omega)
 have wg : IntKind.i64.wrap ((g : Int) - 5) = (g : Int) - 5 := IntWalk.i64_in _ (by omega)
 have kk0 : (0 : Int) ≤ (k : Int) := by omega
 have kk1 : (k : Int) < 8 := by omega
 have ii0 : (0 : Int) ≤ (i : Int) := by omega
 have ii1 : (i : Int) < 10 := by omega
 have jj0 : (0 : Int) ≤ (j : Int) := by omega
 have jj1 : (j : Int) < 6 := by omega
 have tk : (k : Int).toNat = k := by omega
 have ti : (i : Int).toNat = i := by omega
 have tj : (j : Int).toNat = j := by omega
 have HPS := Lib.hid (pathC_size k hk)
 have HK := Lib.hid hk
 have HI := Lib.hid hi
 have HJ := Lib.hid hj
 have HQ := Lib.hid hq
 have HG := Lib.hid hg
 clear hg hq
 go_enter Tryz.func11, Tryz.ntmps11
 go_wp2_with fail
 refine (awake13 _).mono ?_
 rintro ea V1 ⟨rfl, hb1⟩
 have HB := Lib.hid hb1
 have hw1 := hb1.size
 clear hb1
 go_wp2_with fail
 refine (made_one V1).mono ?_
 rintro eb x0 ⟨v0, rfl, hst, hb1⟩
 obtain ⟨A0, n0, c0, E0, m0, d0, D0, k0, g0, rfl, hI0, -⟩ := hst.at_
 obtain ⟨w0, hV0, hyz0, ho, hb⟩ := box_s x0 (.slice A0 n0 c0) (.slice E0 m0 d0) (.slice D0 k0 g0)
 have HB := Lib.hid (Cv.next HB.out (Cv.next hb1 hb))
 have HS0 := Lib.hid ((hst.lower (Nat.zero_le _)).below hb)
 have hxz0 := hb1.size
 have HO0 := Lib.hid ho
 have HN0 := Lib.hid hI0.1
 clear hst hb1 ho hb hI0
 obtain ⟨Xp, hXp, hr, hb, hzp⟩ := boxR w0 #[.string ⟨#[]⟩, .string ⟨#[97]⟩, .string ⟨#[47, 97, 47, 47, 98]⟩, .string ⟨#[47, 97, 98, 99, 100, 101, 102, 103, 104, 105, 106, 107, 108, 109]⟩, .string ⟨#[47, 97, 47, 98, 47, 99, 47, 100, 47, 101]⟩, .string ⟨#[47, 46, 46]⟩, .string ⟨#[47, 102, 47]⟩, .string ⟨#[47, 1]⟩] 9
 rw [hyz0] at hr hzp
 replace HO0 := Lib.hid (HO0.out.mv hb)
 replace HS0 := Lib.hid (HS0.out.below hb)
 replace HB := Lib.hid (Cv.next HB.out hb)
 have HCp : Hid (_ = some _) := Lib.hid hr
 have hsp := hb.size
 clear hr hb
 obtain ⟨Xv, hXv, hr, hb, hzv⟩ := boxR Xp #[.int .i64 9, .int .i64 9, .int .i64 9, .int .i64 6, .int .i64 6, .int .i64 9, .int .i64 9, .int .i64 9] 3
 rw [hzp] at hr hzv
 replace HO0 := Lib.hid (HO0.out.mv hb)
 replace HCp : Hid (_ = some _) := Lib.hid (row_kept hb HCp.out)
 replace HS0 := Lib.hid (HS0.out.below hb)
 replace HB := Lib.hid (Cv.next HB.out hb)
 have HCv : Hid (_ = some _) := Lib.hid hr
 have hsv := hb.size
 clear hr hb
 obtain ⟨Xk, hXk, hr, hb, hzk⟩ := boxR Xv #[.int .i64 0, .int .i64 1, .int .i64 2, .int .i64 8, .int .i64 9, .int .i64 10, .int .i64 11, .int .i64 12, .int .i64 13, .int .i64 14] 3
 rw [hzv] at hr hzk
 replace HO0 := Lib.hid (HO0.out.mv hb)
 replace HCp : Hid (_ = some _) := Lib.hid (row_kept hb HCp.out)
 replace HCv : Hid (_ = some _) := Lib.hid (row_kept hb HCv.out)
 replace HS0 := Lib.hid (HS0.out.below hb)
 replace HB := Lib.hid (Cv.next HB.out hb)
 have HCk : Hid (_ = some _) := Lib.hid hr
 have hsk := hb.size
 clear hr hb
 obtain ⟨PT, hPT⟩ : ∃ PT, pathC k = PT := ⟨_, rfl⟩
 obtain ⟨WT, hWT⟩ : ∃ WT, wantC k = WT := ⟨_, rfl⟩
 obtain ⟨KT, hKT⟩ : ∃ KT, kindC i = KT := ⟨_, rfl⟩
 obtain ⟨FT, hFT⟩ : ∃ FT, kindF j = FT := ⟨_, rfl⟩
 have HPT := Lib.hid hPT
 have HWT := Lib.hid hWT
 have HKT := Lib.hid hKT
 have HFT := Lib.hid hFT
 have hps := HPS.out
 rw [hPT] at hps
 have HPZ := Lib.hid hps
 clear hps hPT hWT hKT hFT
 have cp := rowCP HCp.out k HK.out
 rw [HPT.out] at cp
 have cw := rowCW HCv.out k HK.out
 rw [HWT.out] at cw
 have ck := rowCK HCk.out i HI.out
 rw [HKT.out] at ck
 obtain ⟨i0, i1, i2, _⟩ := HO0.out.get
 go_wp2_with fail
 have HX1 : Hid (∀ X : Ext Xk, Calls Tryz.prog 17 #[(.agg #[.slice A0 n0 c0, .slice E0 m0 d0, .slice D0 k0 g0]), .agg #[.int .i64 KT, .int .i64 0, .int .i64 0, .int .i64 0, .int .i64 0, .string PT, .string ⟨#[47, 110]⟩, .string ⟨#[]⟩]] X.w fun e w' => e = .returned (.int .i64 WT) ∧ Below X.w.heap.size X.w w') := Lib.hid fun X => by
  have h := code13_any (.agg #[.slice A0 n0 c0, .slice E0 m0 d0, .slice D0 k0 g0]) (madeV 1) ⟨KT, 0, 0, 0, 0, PT, ⟨#[47, 110]⟩, ⟨#[]⟩⟩ X.w (HS0.out.weak.below X.bel) (by have := HPZ.out; show PT.size ≤ _; omega) (by show (2 : Nat) ≤ _; omega) (by show (0 : Nat) ≤ _; omega)
  rw [show (doV (madeV 1) ⟨KT, 0, 0, 0, 0, PT, ⟨#[47, 110]⟩, ⟨#[]⟩⟩).2.code = WT from by rw [← HPT.out, ← HWT.out, ← HKT.out]; exact codes_path i HI.out k HK.out] at h
  exact h
 have hXc : ∀ (X : Ext Xk) (p : Addr), (Xk.cell? p).isSome = true → X.w.cell? p = Xk.cell? p := fun X p h => X.cell p h
 refine wp_region_ext (by kernel_rfl) (by kernel_rfl) ?_
 repeat (go_big_quiet_step (first | (go_at_call 17; rename_i X; with_reducible exact Calls.ext_of (HX1.out X))))
 refine wpQuiet_nil ?_
 rintro z1 ⟨X1z, rfl⟩
 have hbx := X1z.bel
 clear hXc
 replace HO0 := Lib.hid (HO0.out.mv hbx)
 replace HCp : Hid (_ = some _) := Lib.hid (row_kept hbx HCp.out)
 replace HCv : Hid (_ = some _) := Lib.hid (row_kept hbx HCv.out)
 replace HCk : Hid (_ = some _) := Lib.hid (row_kept hbx HCk.out)
 replace HS0 := Lib.hid (HS0.out.below hbx)
 replace HB := Lib.hid (Cv.next HB.out hbx)
 clear cp cw ck i0 i1 i2
 clear hbx
 have cp := rowCP HCp.out k HK.out
 rw [HPT.out] at cp
 have cw := rowCW HCv.out k HK.out
 rw [HWT.out] at cw
 have ck := rowCK HCk.out i HI.out
 rw [HKT.out] at ck
 obtain ⟨i0, i1, i2, _⟩ := HO0.out.get
 clear HX1
 go_wp2_with fail
 have HX2 : Hid (∀ X : Ext X1z.w, Calls Tryz.prog 17 #[(.agg #[.slice A0 n0 c0, .slice E0 m0 d0, .slice D0 k0 g0]), .agg #[.int .i64 8, .int .i64 0, .int .i64 0, .int .i64 0, .int .i64 0, .string ⟨#[47, 102]⟩, .string PT, .string ⟨#[]⟩]] X.w fun e w' => e = .returned (.int .i64 WT) ∧ Below X.w.heap.size X.w w') := Lib.hid fun X => by
  have h := code13_any (.agg #[.slice A0 n0 c0, .slice E0 m0 d0, .slice D0 k0 g0]) (madeV 1) ⟨8, 0, 0, 0, 0, ⟨#[47, 102]⟩, PT, ⟨#[]⟩⟩ X.w (HS0.out.weak.below X.bel) (by show (2 : Nat) ≤ _; omega) (by have := HPZ.out; show PT.size ≤ _; omega) (by show (0 : Nat) ≤ _; omega)
  rw [show (doV (madeV 1) ⟨8, 0, 0, 0, 0, ⟨#[47, 102]⟩, PT, ⟨#[]⟩⟩).2.code = WT from by rw [← HPT.out, ← HWT.out]; exact codes_link k HK.out] at h
  exact h
 have hXc : ∀ (X : Ext X1z.w) (p : Addr), (X1z.w.cell? p).isSome = true → X.w.cell? p = X1z.w.cell? p := fun X p h => X.cell p h
 refine wp_region_ext (by kernel_rfl) (by kernel_rfl) ?_
 repeat (go_big_quiet_step (first | (go_at_call 17; rename_i X; with_reducible exact Calls.ext_of (HX2.out X))))
 refine wpQuiet_nil ?_
 rintro z2 ⟨X2z, rfl⟩
 have hbx := X2z.bel
 clear hXc
 replace HO0 := Lib.hid (HO0.out.mv hbx)
 replace HCp : Hid (_ = some _) := Lib.hid (row_kept hbx HCp.out)
 replace HCv : Hid (_ = some _) := Lib.hid (row_kept hbx HCv.out)
 replace HCk : Hid (_ = some _) := Lib.hid (row_kept hbx HCk.out)
 replace HS0 := Lib.hid (HS0.out.below hbx)
 replace HB := Lib.hid (Cv.next HB.out hbx)
 clear cp cw ck i0 i1 i2
 clear hbx
 clear HX2
 obtain ⟨Y, hY, hr, hb, hzY⟩ := boxR X2z.w #[.int .i64 3, .int .i64 4, .int .i64 5, .int .i64 6, .int .i64 7, .int .i64 15] 3
 have cf := rowCF hr j HJ.out
 rw [HFT.out] at cf
 replace HO0 := Lib.hid (HO0.out.mv hb)
 replace HCp : Hid (_ = some _) := Lib.hid (row_kept hb HCp.out)
 replace HCv : Hid (_ = some _) := Lib.hid (row_kept hb HCv.out)
 replace HCk : Hid (_ = some _) := Lib.hid (row_kept hb HCk.out)
 replace HS0 := Lib.hid (HS0.out.below hb)
 replace HB := Lib.hid (Cv.next HB.out hb)
 clear hr hb
 obtain ⟨i0, i1, i2, _⟩ := HO0.out.get
 go_wp2_with fail
 obtain ⟨FC, hFC⟩ : ∃ FC, (doV (madeV 1) ⟨FT, 0, ((g : Int) - 5), 0, 0, ⟨#[]⟩, ⟨#[]⟩, ⟨#[]⟩⟩).2.code = FC := ⟨_, rfl⟩
 have HFC := Lib.hid hFC
 have HX3 : Hid (∀ X : Ext Y, Calls Tryz.prog 17 #[(.agg #[.slice A0 n0 c0, .slice E0 m0 d0, .slice D0 k0 g0]), .agg #[.int .i64 FT, .int .i64 0, .int .i64 ((g : Int) - 5), .int .i64 0, .int .i64 0, .string ⟨#[]⟩, .string ⟨#[]⟩, .string ⟨#[]⟩]] X.w fun e w' => e = .returned (.int .i64 FC) ∧ Below X.w.heap.size X.w w') := Lib.hid fun X => by
  have h := code13_any (.agg #[.slice A0 n0 c0, .slice E0 m0 d0, .slice D0 k0 g0]) (madeV 1) ⟨FT, 0, ((g : Int) - 5), 0, 0, ⟨#[]⟩, ⟨#[]⟩, ⟨#[]⟩⟩ X.w (HS0.out.weak.below X.bel) (by show (0 : Nat) ≤ _; omega) (by show (0 : Nat) ≤ _; omega) (by show (0 : Nat) ≤ _; omega)
  rw [show (doV (madeV 1) ⟨FT, 0, ((g : Int) - 5), 0, 0, ⟨#[]⟩, ⟨#[]⟩, ⟨#[]⟩⟩).2.code = FC from HFC.out] at h
  exact h
 have hXc : ∀ (X : Ext Y) (p : Addr), (Y.cell? p).isSome = true → X.w.cell? p = Y.cell? p := fun X p h => X.cell p h
 refine wp_region_ext (by kernel_rfl) (by kernel_rfl) ?_
 repeat (go_big_quiet_step (first | (go_at_call 17; rename_i X; with_reducible exact Calls.ext_of (HX3.out X))))
 refine wpQuiet_nil ?_
 rintro z3 ⟨X3z, rfl⟩
 have hbx := X3z.bel
 clear hXc
 replace HO0 := Lib.hid (HO0.out.mv hbx)
 replace HCp : Hid (_ = some _) := Lib.hid (row_kept hbx HCp.out)
 replace HCv : Hid (_ = some _) := Lib.hid (row_kept hbx HCv.out)
 replace HCk : Hid (_ = some _) := Lib.hid (row_kept hbx HCk.out)
 replace HS0 := Lib.hid (HS0.out.below hbx)
 replace HB := Lib.hid (Cv.next HB.out hbx)
 clear i0 i1 i2
 clear hbx
 obtain ⟨i0, i1, i2, _⟩ := HO0.out.get
 clear HX3 hFC
 have hfc : (FC == 4) = ((g : Int) - 5 != 0) := by rw [← HFC.out, ← HFT.out]; exact codes_fd j HJ.out g HG.out
 obtain ⟨BB, hBB⟩ : ∃ BB, ((g : Int) - 5 != 0) = BB := ⟨_, rfl⟩
 rw [hBB] at hfc
 go_wp2_with fail
 have h := code13_any (.agg #[.slice A0 n0 c0, .slice E0 m0 d0, .slice D0 k0 g0]) (madeV 1) ⟨(17 + (q : Int)), 0, 0, 0, 0, ⟨#[]⟩, ⟨#[]⟩, ⟨#[]⟩⟩ X3z.w HS0.out.weak (by show (0 : Nat) ≤ _; omega) (by show (0 : Nat) ≤ _; omega) (by show (0 : Nat) ≤ _; omega)
 rw [show (doV (madeV 1) ⟨(17 + (q : Int)), 0, 0, 0, 0, ⟨#[]⟩, ⟨#[]⟩, ⟨#[]⟩⟩).2.code = 9 from codes_kind q (by have := HQ.out; omega)] at h
 refine h.mono ?_
 clear h
 rintro e4 y4 ⟨rfl, hb⟩
 replace HO0 := Lib.hid (HO0.out.mv hb)
 replace HCp : Hid (_ = some _) := Lib.hid (row_kept hb HCp.out)
 replace HCv : Hid (_ = some _) := Lib.hid (row_kept hb HCv.out)
 replace HCk : Hid (_ = some _) := Lib.hid (row_kept hb HCk.out)
 replace HS0 := Lib.hid (HS0.out.below hb)
 replace HB := Lib.hid (Cv.next HB.out hb)
 clear i0 i1 i2
 clear hb
 obtain ⟨i0, i1, i2, _⟩ := HO0.out.get
 go_wp2_with fail
 have h := code13_any (.agg #[.slice A0 n0 c0, .slice E0 m0 d0, .slice D0 k0 g0]) (madeV 1) ⟨16, 1, 0, 0, 0, ⟨#[]⟩, ⟨#[]⟩, ⟨#[]⟩⟩ y4 HS0.out.weak (by show (0 : Nat) ≤ _; omega) (by show (0 : Nat) ≤ _; omega) (by show (0 : Nat) ≤ _; omega)
 rw [show (doV (madeV 1) ⟨16, 1, 0, 0, 0, ⟨#[]⟩, ⟨#[]⟩, ⟨#[]⟩⟩).2.code = 9 from codes_sync] at h
 refine h.mono ?_
 clear h
 rintro e5 y5 ⟨rfl, hb⟩
 replace HO0 := Lib.hid (HO0.out.mv hb)
 replace HCp : Hid (_ = some _) := Lib.hid (row_kept hb HCp.out)
 replace HCv : Hid (_ = some _) := Lib.hid (row_kept hb HCv.out)
 replace HCk : Hid (_ = some _) := Lib.hid (row_kept hb HCk.out)
 replace HS0 := Lib.hid (HS0.out.below hb)
 replace HB := Lib.hid (Cv.next HB.out hb)
 clear i0 i1 i2
 clear hb
 obtain ⟨i0, i1, i2, _⟩ := HO0.out.get
 go_wp2_with fail
 go_ret
 exact ⟨rfl, HB.out⟩
end Go.Proofs.YtndcloohcfhejaaGreat
