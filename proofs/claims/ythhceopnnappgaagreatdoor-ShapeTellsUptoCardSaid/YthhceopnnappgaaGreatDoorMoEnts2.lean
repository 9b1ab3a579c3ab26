/- The model's mayEntries. -/
import Derived.Test.YthhceopnnappgaaGreatDoorM22
set_option linter.unusedVariables false
set_option linter.unusedSimpArgs false
namespace Go.Proofs.YthhceopnnappgaaGreatDoor
open Go.RowKit
set_option maxRecDepth 100000 in
set_option maxHeartbeats 8000000 in
theorem mayents_any (p : Nat) (s : St) (es : List En) (E : Option Addr) (m2 d2 : Nat) (w : World) (h : PtrAt w p s) (hr : RiseI s.inos) (hE : EntsAt none w E m2 es) (hm2 : m2 ≤ 1099511627776) (htx : ∀ e ∈ es, e.name.size ≤ 140737488355328) :
  Calls Tryz.prog 77 #[.pointer (some ⟨p, 0, .none⟩), .slice E m2 d2] w fun e w' => e = .returned (.bool (entsV s.inos es)) ∧ Below w.heap.size w w' := by
 obtain ⟨R, hR⟩ : ∃ R, entsV s.inos es = R := ⟨_, rfl⟩
 rw [hR]
 unfold entsV at hR
 obtain ⟨V, hV, hmany, hal3⟩ := many_arr w 137
 have HP := Lib.hid h
 have HRI := Lib.hid hr
 have HE := Lib.hid hE
 have HAL3 := Lib.hid hal3
 have HR := Lib.hid hR
 have HTX := Lib.hid htx
 have HMY := Lib.hid hmany
 clear h hr hE hal3 hR htx hmany
 go_enter Tryz.func77, Tryz.ntmps77
 go_wp2_with fail
 clear hV
 go_loopw [11] (fun i wr => ∃ (k : Nat) (f : Nat → Nat), i = .int .i64 k ∧ k ≤ m2 ∧ Below w.heap.size w wr ∧ ManyT wr w.heap.size f ∧ (∀ j, f j ≤ k) ∧ entsG s.inos (es.drop k) (prevN es k) f = R) (fun i _ => m2 - (intOf i).toNat)
 case atStart => exact ⟨0, fun _ => 0, rfl, by omega, HAL3.out, HMY.out, fun _ => Nat.le_refl _, HR.out⟩
 case round =>
  obtain ⟨k, f, rfl, hk, hbel, hmy, hfk, hc⟩ := hrel
  have HB := Lib.hid hbel
  have HM := Lib.hid hmy
  have HF := Lib.hid hfk
  have HPr := Lib.hid (HP.out.below hbel)
  have HEr := Lib.hid (HE.out.below hbel)
  clear hbel hmy hfk
  by_cases hlt : k < m2
  ·obtain ⟨g, off, y, rfl, hg, hy, hd, hmem, e0, e1⟩ := HEr.out.get k hlt
   rw [hd, entsG] at hc
   have hsz := HTX.out y hmem
   have k0 : (0 : Int) ≤ (k : Int) := by omega
   have k1 : (k : Int) < (m2 : Int) := by omega
   obtain ⟨BD, hBD⟩ : ∃ BD, entBad s.inos (prevN es k) y = BD := ⟨_, rfl⟩
   rw [hBD] at hc
   have HBD := Lib.hid hBD
   have HC := Lib.hid hc
   have HY := Lib.hid hy
   clear hBD
   clear hc hd hmem hy
   obtain ⟨V2, hV2, v0, v1, hal4, hlt4⟩ := box_en wr y.name y.num
   have HAL4 := Lib.hid hal4
   have HPV := Lib.hid (HPr.out.below hal4)
   have HEV := Lib.hid (HEr.out.below hal4)
   clear hal4
   go_upto_region 5 with fail
   have hx : ∀ (X : Ext V2) (p : Addr), (V2.cell? p).isSome = true → X.w.cell? p = V2.cell? p := fun X p h => X.cell p h
   clear hV2 e0 e1
   obtain ⟨CK, hCK⟩ : ∃ CK, mayL y.name.data.toList = CK := ⟨_, rfl⟩
   have HCK := Lib.hid hCK
   obtain ⟨FD, hFD⟩ : ∃ FD, atV s.inos y.num = FD := ⟨_, rfl⟩
   have HFD := Lib.hid hFD
   have hbd : BD = (!CK || (match prevN es k with | none => false | some q => !ltN q y.name) || decide (y.num = 1) || decide (FD < 0)) := by
    rw [← HBD.out, ← hCK, ← hFD]; unfold entBad chkB mayL
    cases hz : checkL y.name.data.toList <;> rfl
   have HBB := Lib.hid hbd
   clear hCK hFD hbd
   go_cut [46] (fun c wx => c = .bool BD ∧ ∃ X : Ext V2, wx = X.w)
   case first =>
    obtain ⟨N1, hN1⟩ : ∃ N1, (y.num == 1) = N1 := ⟨_, rfl⟩
    have hN1' : decide (y.num = 1) = N1 := by rw [← hN1]; rfl
    have HN1 := Lib.hid hN1'
    obtain ⟨F0, hF0⟩ : ∃ F0, decide (FD < 0) = F0 := ⟨_, rfl⟩
    have HF0 := Lib.hid hF0
    by_cases hk0 : k = 0
    ·have q1 : decide ((0 : Int) < (k : Int)) = false := by rw [decide_eq_false_iff_not]; omega
     have q1n : decide (0 < k) = false := by rw [decide_eq_false_iff_not]; omega
     have hp : prevN es k = none := if_pos hk0
     have HBC := HBB.out
     rw [hp, HN1.out, HF0.out] at HBC
     have HBX := Lib.hid HBC
     clear HBC hp hk0
     cases CK <;> cases N1 <;> (
      refine wre ?_
      repeat (go_big_quiet_step (first | (go_at_call 105; rename_i X; exact Calls.ext_of (by have := may_any y.name X.w hsz; rw [HCK.out] at this; exact this)) | (go_at_call 78; rename_i X; exact Calls.ext_of (by have := mfind_any p s y.num X.w (HPV.out.below X.bel) HRI.out; rw [HFD.out] at this; exact this))))
      refine wpQuiet_nil ?_
      rintro w7 ⟨X, rfl⟩
      go_wp2_with fail
      go_meet
      exact ⟨congrArg Value.bool (by rw [HBX.out]; simp), X, rfl⟩)
    ·obtain ⟨j, rfl⟩ : ∃ j, k = j + 1 := ⟨k - 1, by omega⟩
     have q1 : decide ((0 : Int) < ((j + 1 : Nat) : Int)) = true := by rw [decide_eq_true_eq]; omega
     have q1b : decide ((0 : Int) < (j : Int) + 1) = true := by rw [decide_eq_true_eq]; omega
     obtain ⟨g', off', y', hA', hg', hy', _, hmem', f0, f1⟩ := HEV.out.get j (by omega)
     injection hA' with hA'
     injection hA' with hA1 hA2
     subst hA1 hA2
     have hp : prevN es (j + 1) = some y'.name := by unfold prevN; rw [if_neg (by omega), Nat.add_sub_cancel, hy']; rfl
     have j0 : (0 : Int) ≤ (j : Int) := by omega
     have j1 : (j : Int) < (m2 : Int) := by omega
     have jw : IntKind.i64.wrap ((j : Int) + 1 - 1) = (j : Int) := by rw [IntKind.wrap_i64]; omega
     obtain ⟨LT, hLT⟩ : ∃ LT, Op.bytesLess y'.name.toList y.name.toList = LT := ⟨_, rfl⟩
     have hlt2 : ltN y'.name y.name = LT := by unfold ltN; rw [← hLT, bytesLess_eq, ByteArray.toList_eq, ByteArray.toList_eq]
     have HBC := HBB.out
     rw [hp, HN1.out, HF0.out] at HBC
     dsimp only at HBC
     rw [hlt2] at HBC
     have HBX := Lib.hid HBC
     clear HBC hp hy' hmem' hk0 hlt2
     cases CK <;> cases LT <;> cases N1 <;> (
      refine wre ?_
      repeat (go_big_quiet_step (first | (go_at_call 105; rename_i X; exact Calls.ext_of (by have := may_any y.name X.w hsz; rw [HCK.out] at this; exact this)) | (go_at_call 78; rename_i X; exact Calls.ext_of (by have := mfind_any p s y.num X.w (HPV.out.below X.bel) HRI.out; rw [HFD.out] at this; exact this))))
      refine wpQuiet_nil ?_
      rintro w7 ⟨X, rfl⟩
      go_wp2_with fail
      go_meet
      exact ⟨congrArg Value.bool (by rw [HBX.out]; simp), X, rfl⟩)
   case rest =>
    obtain ⟨rfl, X, rfl⟩ := hcut
    generalize hZe : X.w = Z
    have hZ := hZe ▸ X.bel
    clear hZe X
    have hbx := Cv.next HAL4.out hZ
    have e0 := (hZ.cell (p := ⟨wr.heap.size, 0, .none⟩) hlt4).trans v0
    have HMZ := Lib.hid (HM.out.below hbx)
    have HWZ := Lib.hid (Cv.next HB.out hbx)
    clear hx v0 v1 hbx hZ HBB
    cases BD
    rotate_left
    ·have hr := HC.out
     rw [if_pos rfl] at hr
     have HR2 := Lib.hid hr
     clear hr
     go_wp2_with fail
     go_ret
     exact ⟨Cv.ret_bool HR2.out, HWZ.out⟩
    ·have hr := HC.out
     rw [if_neg (by simp)] at hr
     obtain ⟨b, hb⟩ : ∃ b, bktB y.name = b := ⟨_, rfl⟩
     rw [hb] at hr
     have hb8 : b < 8 := by rw [← hb]; exact bktB_lt _
     have HBK := Lib.hid hb
     have HR2 := Lib.hid hr
     clear hr hb
     go_wp2_with fail
     refine (bucketm_any y.name _ (Nat.le_trans hsz (by unfold maxLen; omega))).mono ?_
     rintro e w2 ⟨rfl, hb2⟩
     rw [HBK.out]
     have hbx := hb2
     have HMZ2 := Lib.hid (HMZ.out.below hb2)
     have HWZ2 := Lib.hid (Cv.next HWZ.out hb2)
     have hfb := HF.out b
     obtain ⟨cb, fz⟩ := HMZ2.out.get b hb8
     have b0 : (0 : Int) ≤ (b : Int) := by omega
     have b8 : (b : Int) < 8 := by omega
     have wf : IntKind.i64.wrap ((f b : Int) + 1) = (f b : Int) + 1 := by rw [IntKind.wrap_i64]; omega
     clear hbx hb2 e0
     by_cases h4 : 4 < f b + 1
     ·have hr := HR2.out
      rw [if_pos h4] at hr
      have HR3 := Lib.hid hr
      have q4 : decide ((4 : Int) < (f b : Int) + 1) = true := by simp; omega
      clear hr
      go_wp2_with fail
      go_ret
      exact ⟨Cv.ret_bool HR3.out, HWZ2.out.setCell (Nat.le_refl _) _⟩
     ·have hr := HR2.out
      rw [if_neg h4] at hr
      have HR3 := Lib.hid hr
      have q4 : decide ((4 : Int) < (f b : Int) + 1) = false := by simp; omega
      clear hr
      go_wp2_with fail
      go_roundw
      case rel => exact ⟨k + 1, fun j => if j = b then f j + 1 else f j, by go_num, by omega, HWZ2.out.setCell (Nat.le_refl _) _, HMZ2.out.set b hb8, fun j => by have := HF.out j; simp only; split <;> omega, by
       have e : prevN es (k + 1) = some y.name := by unfold prevN; rw [if_neg (by omega), Nat.add_sub_cancel, HY.out]; rfl
       rw [e]
       exact HR3.out⟩
      case measure => simp [intOf]; omega
  ·have : es.drop k = [] := List.drop_eq_nil_of_le (by have := HEr.out.1; omega)
   rw [this, entsG] at hc
   have HC := Lib.hid hc
   clear hc this
   go_wp2_with fail
   go_ret
   exact ⟨Cv.ret_bool HC.out, HB.out⟩
end Go.Proofs.YthhceopnnappgaaGreatDoor
