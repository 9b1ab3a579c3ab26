/- The law ModelRenames: its walk (printed by wip/gen_renames.py). -/
import Derived.Test.YtndcloohcfhejaaGreatM43
set_option linter.unusedVariables false
set_option linter.unusedSimpArgs false
namespace Go.Proofs.YtndcloohcfhejaaGreat
open Go.RowKit
theorem fromN_size : ∀ k < 6, (fromN k).size ≤ 10 := by decide
theorem destN_size : ∀ k < 7, (destN k).size ≤ 10 := by decide
theorem ren_mfind : ∀ i < 6, ∀ j < 7, wantN i j = 0 → mfindV (renT i j) (destN j) = ((mfindV (madeV 1) (fromN i)).1, 0) := by decide +kernel
theorem ren_same : ∀ i < 6, ∀ j < 7, wantN i j ≠ 0 → madeV 1 = renT i j := by decide +kernel
theorem fromN_root : ∀ k < 6, k ≠ 0 → ¬ (fromN k).toList = [47, 100] := by decide +kernel
theorem rowNF {w : World} {g : Nat} {t : TypeId} (h : w.heap[g]? = some (.cells #[.string ⟨#[47, 100]⟩, .string ⟨#[47, 101]⟩, .string ⟨#[47, 102]⟩, .string ⟨#[47, 100, 47, 104]⟩, .string ⟨#[47, 122]⟩, .string ⟨#[47]⟩] t (0, 0))) (k : Nat) (hk : k < 6) : w.cell? ⟨g, k, none⟩ = some (.string (fromN k)) := by
 have : k = 0 ∨ k = 1 ∨ k = 2 ∨ k = 3 ∨ k = 4 ∨ k = 5 := by omega
 rcases this with e | e | e | e | e | e <;> (subst e; rw [cell_of_row w _ _ _ _ (0, 0) h]; rfl)
theorem rowND {w : World} {g : Nat} {t : TypeId} (h : w.heap[g]? = some (.cells #[.string ⟨#[47, 110]⟩, .string ⟨#[47, 101, 47, 110]⟩, .string ⟨#[47, 100, 47, 110]⟩, .string ⟨#[47, 102]⟩, .string ⟨#[47, 122, 47, 110]⟩, .string ⟨#[47, 102, 47, 110]⟩, .string ⟨#[47]⟩] t (0, 0))) (k : Nat) (hk : k < 7) : w.cell? ⟨g, k, none⟩ = some (.string (destN k)) := by
 have : k = 0 ∨ k = 1 ∨ k = 2 ∨ k = 3 ∨ k = 4 ∨ k = 5 ∨ k = 6 := by omega
 rcases this with e | e | e | e | e | e | e <;> (subst e; rw [cell_of_row w _ _ _ _ (0, 0) h]; rfl)
set_option maxRecDepth 100000 in
set_option maxHeartbeats 16000000 in
theorem modelRenames_walk (which : Int) (h0 : (Lit.int .i64 which).wf = true) (dest : Int) (h1 : (Lit.int .i64 dest).wf = true) (w : World) : Calls Tryz.prog 7 #[.int .i64 which, .int .i64 dest] w fun e w' => e = .returned (.bool true) ∧ Below w.heap.size w w' := by
 clear h0 h1
 obtain ⟨i, hi, hik⟩ := Cv.tmod_u64 which 6 (by omega)
 rw [show ((6 : Nat) : Int) = 6 from rfl] at hik
 obtain ⟨j, hj, hjk⟩ := Cv.tmod_u64 dest 7 (by omega)
 rw [show ((7 : Nat) : Int) = 7 from rfl] at hjk
 have ii0 : (0 : Int) ≤ (i : Int) := by omega
 have ii1 : (i : Int) < 6 := by omega
 have jj0 : (0 : Int) ≤ (j : Int) := by omega
 have jj1 : (j : Int) < 7 := by omega
 have ti : (i : Int).toNat = i := by omega
 have tj : (j : Int).toNat = j := by omega
 have hfs := fromN_size i hi
 have hds := destN_size j hj
 obtain ⟨PT, hPT⟩ : ∃ PT, fromN i = PT := ⟨_, rfl⟩
 obtain ⟨QT, hQT⟩ : ∃ QT, destN j = QT := ⟨_, rfl⟩
 obtain ⟨WT, hWT⟩ : ∃ WT, wantN i j = WT := ⟨_, rfl⟩
 rw [hPT] at hfs
 rw [hQT] at hds
 have HPT := Lib.hid hPT
 have HQT := Lib.hid hQT
 have HWT := Lib.hid hWT
 have HI := Lib.hid hi
 have HJ := Lib.hid hj
 clear hPT hQT hWT
 go_enter Tryz.func7, Tryz.ntmps7
 go_wp2_with fail
 refine (awake13 _).mono ?_
 rintro ea V1 ⟨rfl, hb1⟩
 have HB := Lib.hid hb1
 have hw1 := hb1.size
 clear hb1
 go_wp2_with fail
 refine (made_one V1).mono ?_
 rintro eb x0 ⟨v0, rfl, hst, hb1⟩
 obtain ⟨A0, n0, c0, E0, m0, d0, D0, k0, g0, rfl, hI0, -⟩ := hst.at_
 obtain ⟨w0, hV0, hyz0, ho, hb⟩ := box_s x0 (.slice A0 n0 c0) (.slice E0 m0 d0) (.slice D0 k0 g0)
 have HB := Lib.hid (Cv.next HB.out (Cv.next hb1 hb))
 have HS0 := Lib.hid ((hst.lower (Nat.zero_le _)).below hb)
 have hxz0 := hb1.size
 have HO0 := Lib.hid ho
 have HN0 := Lib.hid hI0.1
 clear hst hb1 ho hb hI0
 obtain ⟨Xp, hXp, hr, hb, hzp⟩ := boxR w0 #[.string ⟨#[47, 100]⟩, .string ⟨#[47, 101]⟩, .string ⟨#[47, 102]⟩, .string ⟨#[47, 100, 47, 104]⟩, .string ⟨#[47, 122]⟩, .string ⟨#[47]⟩] 9
 rw [hyz0] at hr hzp
 replace HO0 := Lib.hid (HO0.out.mv hb)
 replace HS0 := Lib.hid (HS0.out.below hb)
 replace HB := Lib.hid (Cv.next HB.out hb)
 have HCp : Hid (_ = some _) := Lib.hid hr
 have hsp := hb.size
 clear hr hb
 have cp := rowNF HCp.out i hi
 rw [HPT.out] at cp
 obtain ⟨Xq, hXq, hr, hb, hzq⟩ := boxR Xp #[.string ⟨#[47, 110]⟩, .string ⟨#[47, 101, 47, 110]⟩, .string ⟨#[47, 100, 47, 110]⟩, .string ⟨#[47, 102]⟩, .string ⟨#[47, 122, 47, 110]⟩, .string ⟨#[47, 102, 47, 110]⟩, .string ⟨#[47]⟩] 9
 rw [hzp] at hr hzq
 replace HO0 := Lib.hid (HO0.out.mv hb)
 replace HCp : Hid (_ = some _) := Lib.hid (row_kept hb HCp.out)
 replace HS0 := Lib.hid (HS0.out.below hb)
 replace HB := Lib.hid (Cv.next HB.out hb)
 have HCq : Hid (_ = some _) := Lib.hid hr
 have hsq := hb.size
 clear hr hb
 have cq := rowND HCq.out j hj
 rw [HQT.out] at cq
 have hiw := HPT.out
 obtain ⟨i0, i1, i2, _⟩ := HO0.out.get
 clear hiw hi hj
 go_wp2_with fail
 have hdo := mDo_any (.agg #[.slice A0 n0 c0, .slice E0 m0 d0, .slice D0 k0 g0]) (madeV 1) ⟨11, 0, 0, 0, 0, PT, QT, ⟨#[]⟩⟩ Xq HS0.out.weak (by show PT.size ≤ _; omega) (by show QT.size ≤ _; omega) (by show (0 : Nat) ≤ _; omega)
 obtain ⟨R1, hR1⟩ : ∃ R, doV (madeV 1) ⟨11, 0, 0, 0, 0, PT, QT, ⟨#[]⟩⟩ = R := ⟨_, rfl⟩
 rw [hR1] at hdo
 have HR1E := Lib.hid hR1
 refine hdo.mono ?_
 clear hdo hR1
 rintro e1 x1 ⟨v1, rv1, rfl, hst, ⟨F1, f1, p1, rfl, hokF, hnF⟩, hb1⟩
 obtain ⟨A1, n1, c1, E1, m1, d1, D1, k1, g1, rfl, hIk, hDk, -⟩ := hst.at_
 obtain ⟨U1, w1, hU1, hV1, hy1, hyz1, ho, hr, hb⟩ := box_sr x1 (.slice A1 n1 c1) (.slice E1 m1 d1) (.slice D1 k1 g1) R1.2.code R1.2.fd R1.2.num R1.2.dir R1.2.data F1 f1 p1
 have hbb : Below Xq.heap.size Xq w1 := Cv.next hb1 hb
 replace HO0 := Lib.hid (HO0.out.mv hbb)
 replace HCp : Hid (_ = some _) := Lib.hid (row_kept hbb HCp.out)
 replace HCq : Hid (_ = some _) := Lib.hid (row_kept hbb HCq.out)
 replace HS0 := Lib.hid (HS0.out.below hbb)
 replace HB := Lib.hid (Cv.next HB.out hbb)
 clear i0 i1 i2
 have HS1 := Lib.hid ((hst.lower (Nat.zero_le _)).below hb)
 have hxz1 := hb1.size
 have HO1 := Lib.hid ho
 have HR1 := Lib.hid hr
 have hsz1 := hbb.size
 clear hst hb1 ho hr hb hbb hokF hnF hIk hDk
 have F1 := Lib.hid (show R1.2.code = WT by rw [← HR1E.out, ← HPT.out, ← HQT.out, ← HWT.out]; exact ren_code i HI.out j HJ.out)
 clear cp cq
 go_upto_block 0 with fail
 go_cut [10] from 39 to 71 (fun v wx => v = .int .i64 WT ∧ wx = w1)
 case first =>
  have hwt := HWT.out
  have hpt := HPT.out
  have hqt := HQT.out
  have hi6 : i = 0 ∨ i = 1 ∨ i = 2 ∨ i = 3 ∨ i = 4 ∨ i = 5 := by have := HI.out; omega
  have hj7 : j = 0 ∨ j = 1 ∨ j = 2 ∨ j = 3 ∨ j = 4 ∨ j = 5 ∨ j = 6 := by have := HJ.out; omega
  clear HI HJ HPT HQT HWT F1 HR1E HS0 HS1 HO0 HO1 HR1 HB HCp HCq ii0 ii1 jj0 jj1 ti tj hik hjk
  rcases hi6 with rfl | rfl | rfl | rfl | rfl | rfl <;> rcases hj7 with rfl | rfl | rfl | rfl | rfl | rfl | rfl
  all_goals
   simp only [fromN, destN, wantN] at hpt hqt hwt
   subst hpt hqt hwt
   go_wp2_with fail
   go_meet
   exact ⟨rfl, rfl⟩
 case rest =>
  obtain ⟨rfl, hwc⟩ := hcut
  have hwd := hwc.symm
  subst hwd
  obtain ⟨r0, r1, r2, r3, r4, r5, _⟩ := HR1.out.get
  rw [F1.out] at r0
  obtain ⟨t0, t1, t2, _⟩ := HO1.out.get
  obtain ⟨i0, i1, i2, _⟩ := HO0.out.get
  have HRT := Lib.hid (show renT i j = R1.1 by rw [← HR1E.out, ← HPT.out, ← HQT.out]; rfl)
  by_cases hw : WT = 0
  ·subst hw
   have HM1 := Lib.hid (ren_mfind i HI.out j HJ.out HWT.out)
   have HG := Lib.hid (ren_gone i HI.out j HJ.out HWT.out)
   have hf1 := mFind_any (.agg #[.slice A0 n0 c0, .slice E0 m0 d0, .slice D0 k0 g0]) (madeV 1) PT w1 HS0.out.weak (by omega)
   obtain ⟨AN, hAN⟩ : ∃ AN, mfindV (madeV 1) PT = AN := ⟨_, rfl⟩
   have HAN := Lib.hid hAN
   rw [hAN] at hf1
   clear hAN
   have HF1 := Lib.hid hf1
   clear hf1
   go_wp2_with fail
   refine HF1.out.mono ?_
   rintro e2 y2 ⟨rfl, hb⟩
   replace HO0 := Lib.hid (HO0.out.mv hb)
   replace HO1 := Lib.hid (HO1.out.mv hb)
   replace HR1 := Lib.hid (HR1.out.mv hb)
   replace HCp : Hid (_ = some _) := Lib.hid (row_kept hb HCp.out)
   replace HCq : Hid (_ = some _) := Lib.hid (row_kept hb HCq.out)
   replace HS0 := Lib.hid (HS0.out.below hb)
   replace HS1 := Lib.hid (HS1.out.below hb)
   replace HB := Lib.hid (Cv.next HB.out hb)
   clear r0 r1 r2 r3 r4 r5 t0 t1 t2 i0 i1 i2
   clear hb HF1
   obtain ⟨t0, t1, t2, _⟩ := HO1.out.get
   have HS2 : Hid (StAt (some 0) y2 (.agg #[.slice A1 n1 c1, .slice E1 m1 d1, .slice D1 k1 g1]) (renT i j)) := Lib.hid (by rw [HRT.out]; exact HS1.out)
   go_wp2_with fail
   have hf2 := mFind_any (.agg #[.slice A1 n1 c1, .slice E1 m1 d1, .slice D1 k1 g1]) (renT i j) QT y2 HS2.out.weak (by omega)
   rw [show mfindV (renT i j) QT = (AN.1, 0) by have h := HM1.out; rw [HPT.out, HQT.out, HAN.out] at h; exact h] at hf2
   refine hf2.mono ?_
   clear hf2
   rintro e3 y3 ⟨rfl, hb⟩
   replace HO0 := Lib.hid (HO0.out.mv hb)
   replace HO1 := Lib.hid (HO1.out.mv hb)
   replace HR1 := Lib.hid (HR1.out.mv hb)
   replace HCp : Hid (_ = some _) := Lib.hid (row_kept hb HCp.out)
   replace HCq : Hid (_ = some _) := Lib.hid (row_kept hb HCq.out)
   replace HS0 := Lib.hid (HS0.out.below hb)
   replace HS1 := Lib.hid (HS1.out.below hb)
   replace HS2 := Lib.hid (HS2.out.below hb)
   replace HB := Lib.hid (Cv.next HB.out hb)
   clear t0 t1 t2
   clear hb
   obtain ⟨t0, t1, t2, _⟩ := HO1.out.get
   by_cases hi0 : i = 0
   ·subst hi0
    have hpd : PT = ⟨#[47, 100]⟩ := HPT.out.symm
    have hcat : QT ++ (⟨#[47, 104]⟩ : ByteArray) = ⟨QT.data ++ #[47, 104]⟩ := by apply ByteArray.ext; simp
    have hcz : (⟨QT.data ++ #[47, 104]⟩ : ByteArray).size ≤ 20 := by show (QT.data ++ #[47, 104]).size ≤ 20; rw [Array.size_append]; have : QT.data.size ≤ 10 := hds; simp; omega
    have hbl := ren_below j HJ.out HWT.out
    rw [HQT.out] at hbl
    obtain ⟨QH, hQH⟩ : ∃ QH, (⟨QT.data ++ #[47, 104]⟩ : ByteArray) = QH := ⟨_, rfl⟩
    rw [hQH] at hbl hcat hcz
    have HBL := Lib.hid hbl
    clear hbl hQH
    subst hpd
    go_wp2_with fail
    have h := code13_any (.agg #[.slice A1 n1 c1, .slice E1 m1 d1, .slice D1 k1 g1]) (renT 0 j) ⟨13, 0, 0, 0, 0, QH, ⟨#[]⟩, ⟨#[]⟩⟩ y3 HS2.out.weak (by show QH.size ≤ _; omega) (by show (0 : Nat) ≤ _; omega) (by show (0 : Nat) ≤ _; omega)
    rw [HBL.out] at h
    refine h.mono ?_
    clear h
    rintro e4 y4 ⟨rfl, hb⟩
    replace HO0 := Lib.hid (HO0.out.mv hb)
    replace HO1 := Lib.hid (HO1.out.mv hb)
    replace HR1 := Lib.hid (HR1.out.mv hb)
    replace HCp : Hid (_ = some _) := Lib.hid (row_kept hb HCp.out)
    replace HCq : Hid (_ = some _) := Lib.hid (row_kept hb HCq.out)
    replace HS0 := Lib.hid (HS0.out.below hb)
    replace HS1 := Lib.hid (HS1.out.below hb)
    replace HS2 := Lib.hid (HS2.out.below hb)
    replace HB := Lib.hid (Cv.next HB.out hb)
    clear t0 t1 t2
    clear hb
    obtain ⟨t0, t1, t2, _⟩ := HO1.out.get
    go_wp2_with fail
    have h := code13_any (.agg #[.slice A1 n1 c1, .slice E1 m1 d1, .slice D1 k1 g1]) (renT 0 j) ⟨13, 0, 0, 0, 0, ⟨#[47, 100]⟩, ⟨#[]⟩, ⟨#[]⟩⟩ y4 HS2.out.weak (by decide) (by show (0 : Nat) ≤ _; omega) (by show (0 : Nat) ≤ _; omega)
    rw [show (doV (renT 0 j) ⟨13, 0, 0, 0, 0, ⟨#[47, 100]⟩, ⟨#[]⟩, ⟨#[]⟩⟩).2.code = 1 from HG.out] at h
    refine h.mono ?_
    clear h
    rintro e9 y9 ⟨rfl, hb⟩
    replace HO0 := Lib.hid (HO0.out.mv hb)
    replace HO1 := Lib.hid (HO1.out.mv hb)
    replace HR1 := Lib.hid (HR1.out.mv hb)
    replace HCp : Hid (_ = some _) := Lib.hid (row_kept hb HCp.out)
    replace HCq : Hid (_ = some _) := Lib.hid (row_kept hb HCq.out)
    replace HS0 := Lib.hid (HS0.out.below hb)
    replace HS1 := Lib.hid (HS1.out.below hb)
    replace HS2 := Lib.hid (HS2.out.below hb)
    replace HB := Lib.hid (Cv.next HB.out hb)
    clear t0 t1 t2
    clear hb
    go_wp2_with fail
    go_ret
    exact ⟨rfl, HB.out⟩
   ·have hpn : ¬ PT.toList = [47, 100] := by rw [← HPT.out]; exact fromN_root i HI.out hi0
    go_wp2_with fail
    have h := code13_any (.agg #[.slice A1 n1 c1, .slice E1 m1 d1, .slice D1 k1 g1]) (renT i j) ⟨13, 0, 0, 0, 0, PT, ⟨#[]⟩, ⟨#[]⟩⟩ y3 HS2.out.weak (by show PT.size ≤ _; omega) (by show (0 : Nat) ≤ _; omega) (by show (0 : Nat) ≤ _; omega)
    rw [show (doV (renT i j) ⟨13, 0, 0, 0, 0, PT, ⟨#[]⟩, ⟨#[]⟩⟩).2.code = 1 by rw [← HPT.out]; exact HG.out] at h
    refine h.mono ?_
    clear h
    rintro e9 y9 ⟨rfl, hb⟩
    replace HO0 := Lib.hid (HO0.out.mv hb)
    replace HO1 := Lib.hid (HO1.out.mv hb)
    replace HR1 := Lib.hid (HR1.out.mv hb)
    replace HCp : Hid (_ = some _) := Lib.hid (row_kept hb HCp.out)
    replace HCq : Hid (_ = some _) := Lib.hid (row_kept hb HCq.out)
    replace HS0 := Lib.hid (HS0.out.below hb)
    replace HS1 := Lib.hid (HS1.out.below hb)
    replace HS2 := Lib.hid (HS2.out.below hb)
    replace HB := Lib.hid (Cv.next HB.out hb)
    clear t0 t1 t2
    clear hb
    go_wp2_with fail
    go_ret
    exact ⟨rfl, HB.out⟩
  ·have qw : (WT != 0) = true := by rw [bne_iff_ne]; exact hw
   have HS2 : Hid (StAt (some 0) w1 (.agg #[.slice A1 n1 c1, .slice E1 m1 d1, .slice D1 k1 g1]) (renT i j)) := Lib.hid (by rw [HRT.out]; exact HS1.out)
   have HK := Lib.hid (ren_same i HI.out j HJ.out (by rw [HWT.out]; exact hw))
   clear hw
   go_wp2_with fail
   refine (plain_any _ _ (madeV 1) (renT i j) w1 HS0.out.weak HS2.out.weak).mono ?_
   rintro e5 V5 ⟨rfl, hb5⟩
   rw [plainV_yes HK.out]
   have HB5 := Lib.hid (Cv.next HB.out hb5)
   clear hb5
   go_wp2_with fail
   go_ret
   exact ⟨rfl, HB5.out⟩
end Go.Proofs.YtndcloohcfhejaaGreat
