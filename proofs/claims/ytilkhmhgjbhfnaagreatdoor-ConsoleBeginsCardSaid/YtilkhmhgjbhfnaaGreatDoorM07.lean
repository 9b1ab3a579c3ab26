/- Parts of the proof, side by side: MoEnts2, MoInos, MoQueue. -/
import Derived.Test.YtilkhmhgjbhfnaaGreatDoorM05
import Derived.Test.YtilkhmhgjbhfnaaGreatDoorM04
import Derived.Test.YtilkhmhgjbhfnaaGreatDoorM01
import Derived.ArgAppend
set_option linter.unusedVariables false
set_option linter.unusedSimpArgs false
namespace Go.Proofs.YtilkhmhgjbhfnaaGreatDoor
open Go.RowKit
set_option maxRecDepth 100000 in
set_option maxHeartbeats 8000000 in
theorem mayents_any (p : Nat) (s : St) (es : List En) (E : Option Addr) (m2 d2 : Nat) (w : World) (h : PtrAt w p s) (hr : RiseI s.inos) (hE : EntsAt none w E m2 es) (hm2 : m2 ≤ 1099511627776) (htx : ∀ e ∈ es, e.name.size ≤ 140737488355328) :
  Calls Tryz.prog 173 #[.pointer (some ⟨p, 0, .none⟩), .slice E m2 d2] w fun e w' => e = .returned (.bool (entsV s.inos es)) ∧ Below w.heap.size w w' := by
 obtain ⟨R, hR⟩ : ∃ R, entsV s.inos es = R := ⟨_, rfl⟩
 rw [hR]
 unfold entsV at hR
 obtain ⟨V, hV, hmany, hal3⟩ := many_arr w 241
 have HP := Lib.hid h
 have HRI := Lib.hid hr
 have HE := Lib.hid hE
 have HAL3 := Lib.hid hal3
 have HR := Lib.hid hR
 have HTX := Lib.hid htx
 have HMY := Lib.hid hmany
 clear h hr hE hal3 hR htx hmany
 go_enter Tryz.func173, Tryz.ntmps173
 go_wp2_with fail
 clear hV
 go_loopw [11] (fun i wr => ∃ (k : Nat) (f : Nat → Nat), i = .int .i64 k ∧ k ≤ m2 ∧ Below w.heap.size w wr ∧ ManyT wr w.heap.size f ∧ (∀ j, f j ≤ k) ∧ entsG s.inos (es.drop k) (prevN es k) f = R) (fun i _ => m2 - (intOf i).toNat)
 case atStart => exact ⟨0, fun _ => 0, rfl, by omega, HAL3.out, HMY.out, fun _ => Nat.le_refl _, HR.out⟩
 case round =>
  obtain ⟨k, f, rfl, hk, hbel, hmy, hfk, hc⟩ := hrel
  have HB := Lib.hid hbel
  have HM := Lib.hid hmy
  have HF := Lib.hid hfk
  have HPr := Lib.hid (HP.out.below hbel)
  have HEr := Lib.hid (HE.out.below hbel)
  clear hbel hmy hfk
  by_cases hlt : k < m2
  ·obtain ⟨g, off, y, rfl, hg, hy, hd, hmem, e0, e1⟩ := HEr.out.get k hlt
   rw [hd, entsG] at hc
   have hsz := HTX.out y hmem
   have k0 : (0 : Int) ≤ (k : Int) := by omega
   have k1 : (k : Int) < (m2 : Int) := by omega
   obtain ⟨BD, hBD⟩ : ∃ BD, entBad s.inos (prevN es k) y = BD := ⟨_, rfl⟩
   rw [hBD] at hc
   have HBD := Lib.hid hBD
   have HC := Lib.hid hc
   have HY := Lib.hid hy
   clear hBD
   clear hc hd hmem hy
   obtain ⟨V2, hV2, v0, v1, hal4, hlt4⟩ := box_en wr y.name y.num
   have HAL4 := Lib.hid hal4
   have HPV := Lib.hid (HPr.out.below hal4)
   have HEV := Lib.hid (HEr.out.below hal4)
   clear hal4
   go_upto_region 5 with fail
   have hx : ∀ (X : Ext V2) (p : Addr), (V2.cell? p).isSome = true → X.w.cell? p = V2.cell? p := fun X p h => X.cell p h
   clear hV2 e0 e1
   obtain ⟨CK, hCK⟩ : ∃ CK, mayL y.name.data.toList = CK := ⟨_, rfl⟩
   have HCK := Lib.hid hCK
   obtain ⟨FD, hFD⟩ : ∃ FD, atV s.inos y.num = FD := ⟨_, rfl⟩
   have HFD := Lib.hid hFD
   have hbd : BD = (!CK || (match prevN es k with | none => false | some q => !ltN q y.name) || decide (y.num = 1) || decide (FD < 0)) := by
    rw [← HBD.out, ← hCK, ← hFD]; unfold entBad chkB mayL
    cases hz : checkL y.name.data.toList <;> rfl
   have HBB := Lib.hid hbd
   clear hCK hFD hbd
   go_cut [46] (fun c wx => c = .bool BD ∧ ∃ X : Ext V2, wx = X.w)
   case first =>
    obtain ⟨N1, hN1⟩ : ∃ N1, (y.num == 1) = N1 := ⟨_, rfl⟩
    have hN1' : decide (y.num = 1) = N1 := by rw [← hN1]; rfl
    have HN1 := Lib.hid hN1'
    obtain ⟨F0, hF0⟩ : ∃ F0, decide (FD < 0) = F0 := ⟨_, rfl⟩
    have HF0 := Lib.hid hF0
    by_cases hk0 : k = 0
    ·have q1 : decide ((0 : Int) < (k : Int)) = false := by rw [decide_eq_false_iff_not]; omega
     have q1n : decide (0 < k) = false := by rw [decide_eq_false_iff_not]; omega
     have hp : prevN es k = none := if_pos hk0
     have HBC := HBB.out
     rw [hp, HN1.out, HF0.out] at HBC
     have HBX := Lib.hid HBC
     clear HBC hp hk0
     cases CK <;> cases N1 <;> (
      refine wre ?_
      repeat (go_big_quiet_step (first | (go_at_call 206; rename_i X; exact Calls.ext_of (by have := may_any y.name X.w hsz; rw [HCK.out] at this; exact this)) | (go_at_call 140; rename_i X; exact Calls.ext_of (by have := mfind_any p s y.num X.w (HPV.out.below X.bel) HRI.out; rw [HFD.out] at this; exact this))))
      refine wpQuiet_nil ?_
      rintro w7 ⟨X, rfl⟩
      go_wp2_with fail
      go_meet
      exact ⟨congrArg Value.bool (by rw [HBX.out]; simp), X, rfl⟩)
    ·obtain ⟨j, rfl⟩ : ∃ j, k = j + 1 := ⟨k - 1, by omega⟩
     have q1 : decide ((0 : Int) < ((j + 1 : Nat) : Int)) = true := by rw [decide_eq_true_eq]; omega
     have q1b : decide ((0 : Int) < (j : Int) + 1) = true := by rw [decide_eq_true_eq]; omega
     obtain ⟨g', off', y', hA', hg', hy', _, hmem', f0, f1⟩ := HEV.out.get j (by omega)
     injection hA' with hA'
     injection hA' with hA1 hA2
     subst hA1 hA2
     have hp : prevN es (j + 1) = some y'.name := by unfold prevN; rw [if_neg (by omega), Nat.add_sub_cancel, hy']; rfl
     have j0 : (0 : Int) ≤ (j : Int) := by omega
     have j1 : (j : Int) < (m2 : Int) := by omega
     have jw : IntKind.i64.wrap ((j : Int) + 1 - 1) = (j : Int) := by rw [IntKind.wrap_i64]; omega
     obtain ⟨LT, hLT⟩ : ∃ LT, Op.bytesLess y'.name.toList y.name.toList = LT := ⟨_, rfl⟩
     have hlt2 : ltN y'.name y.name = LT := by unfold ltN; rw [← hLT, bytesLess_eq, ByteArray.toList_eq, ByteArray.toList_eq]
     have HBC := HBB.out
     rw [hp, HN1.out, HF0.out] at HBC
     dsimp only at HBC
     rw [hlt2] at HBC
     have HBX := Lib.hid HBC
     clear HBC hp hy' hmem' hk0 hlt2
     cases CK <;> cases LT <;> cases N1 <;> (
      refine wre ?_
      repeat (go_big_quiet_step (first | (go_at_call 206; rename_i X; exact Calls.ext_of (by have := may_any y.name X.w hsz; rw [HCK.out] at this; exact this)) | (go_at_call 140; rename_i X; exact Calls.ext_of (by have := mfind_any p s y.num X.w (HPV.out.below X.bel) HRI.out; rw [HFD.out] at this; exact this))))
      refine wpQuiet_nil ?_
      rintro w7 ⟨X, rfl⟩
      go_wp2_with fail
      go_meet
      exact ⟨congrArg Value.bool (by rw [HBX.out]; simp), X, rfl⟩)
   case rest =>
    obtain ⟨rfl, X, rfl⟩ := hcut
    generalize hZe : X.w = Z
    have hZ := hZe ▸ X.bel
    clear hZe X
    have hbx := Cv.next HAL4.out hZ
    have e0 := (hZ.cell (p := ⟨wr.heap.size, 0, .none⟩) hlt4).trans v0
    have HMZ := Lib.hid (HM.out.below hbx)
    have HWZ := Lib.hid (Cv.next HB.out hbx)
    clear hx v0 v1 hbx hZ HBB
    cases BD
    rotate_left
    ·have hr := HC.out
     rw [if_pos rfl] at hr
     have HR2 := Lib.hid hr
     clear hr
     go_wp2_with fail
     go_ret
     exact ⟨Cv.ret_bool HR2.out, HWZ.out⟩
    ·have hr := HC.out
     rw [if_neg (by simp)] at hr
     obtain ⟨b, hb⟩ : ∃ b, bktB y.name = b := ⟨_, rfl⟩
     rw [hb] at hr
     have hb8 : b < 8 := by rw [← hb]; exact bktB_lt _
     have HBK := Lib.hid hb
     have HR2 := Lib.hid hr
     clear hr hb
     go_wp2_with fail
     refine (bucketm_any y.name _ (Nat.le_trans hsz (by unfold maxLen; omega))).mono ?_
     rintro e w2 ⟨rfl, hb2⟩
     rw [HBK.out]
     have hbx := hb2
     have HMZ2 := Lib.hid (HMZ.out.below hb2)
     have HWZ2 := Lib.hid (Cv.next HWZ.out hb2)
     have hfb := HF.out b
     obtain ⟨cb, fz⟩ := HMZ2.out.get b hb8
     have b0 : (0 : Int) ≤ (b : Int) := by omega
     have b8 : (b : Int) < 8 := by omega
     have wf : IntKind.i64.wrap ((f b : Int) + 1) = (f b : Int) + 1 := by rw [IntKind.wrap_i64]; omega
     clear hbx hb2 e0
     by_cases h4 : 4 < f b + 1
     ·have hr := HR2.out
      rw [if_pos h4] at hr
      have HR3 := Lib.hid hr
      have q4 : decide ((4 : Int) < (f b : Int) + 1) = true := by simp; omega
      clear hr
      go_wp2_with fail
      go_ret
      exact ⟨Cv.ret_bool HR3.out, HWZ2.out.setCell (Nat.le_refl _) _⟩
     ·have hr := HR2.out
      rw [if_neg h4] at hr
      have HR3 := Lib.hid hr
      have q4 : decide ((4 : Int) < (f b : Int) + 1) = false := by simp; omega
      clear hr
      go_wp2_with fail
      go_roundw
      case rel => exact ⟨k + 1, fun j => if j = b then f j + 1 else f j, by go_num, by omega, HWZ2.out.setCell (Nat.le_refl _) _, HMZ2.out.set b hb8, fun j => by have := HF.out j; simp only; split <;> omega, by
       have e : prevN es (k + 1) = some y.name := by unfold prevN; rw [if_neg (by omega), Nat.add_sub_cancel, HY.out]; rfl
       rw [e]
       exact HR3.out⟩
      case measure => simp [intOf]; omega
  ·have : es.drop k = [] := List.drop_eq_nil_of_le (by have := HEr.out.1; omega)
   rw [this, entsG] at hc
   have HC := Lib.hid hc
   clear hc this
   go_wp2_with fail
   go_ret
   exact ⟨Cv.ret_bool HC.out, HB.out⟩
end Go.Proofs.YtilkhmhgjbhfnaaGreatDoor
namespace Go.Proofs.YtilkhmhgjbhfnaaGreatDoor
open Go.RowKit
theorem RiseI.of_nums {made : List Int} {is : List Ino} (h : numsP made none is = true) : RiseI is := by
 have hp := numsP_pair h
 intro i j x y hij hx hy
 rw [List.pairwise_iff_getElem] at hp
 obtain ⟨h1, h2⟩ := List.getElem?_eq_some_iff.1 hx
 obtain ⟨h3, h4⟩ := List.getElem?_eq_some_iff.1 hy
 have := hp i j h1 h3 hij
 rw [h2, h4] at this
 exact this
def mInosV (s : St) : Bool := rootB s.inos && numsP s.made none s.inos && shapesM s.inos s.inos
set_option maxRecDepth 100000 in
set_option maxHeartbeats 8000000 in
theorem mayinos_any (p : Nat) (s : St) (w : World) (h : PtrAt w p s) :
  Calls Tryz.prog 119 #[.pointer (some ⟨p, 0, .none⟩)] w fun e w' => e = .returned (.bool (mInosV s)) ∧ Below w.heap.size w w' := by
 obtain ⟨A, n, c, E, m, d, D, k, e, hp, c0, c1, c2, hI, hD, hM, hn, _, hk⟩ := h.val
 obtain ⟨R, hR⟩ : ∃ R, mInosV s = R := ⟨_, rfl⟩
 rw [hR]
 unfold mInosV at hR
 have hnl := hI.1
 by_cases hn0 : n = 0
 ·go_enter Tryz.func119, Tryz.ntmps119
  go_wp2_with fail
  go_ret
  have hnil : s.inos = [] := List.eq_nil_of_length_eq_zero (by omega)
  exact ⟨by rw [← hR, hnil]; rfl, Below.refl _ _⟩
 obtain ⟨g, off, x, E0, m0, d0, rfl, hg, hx, hd, hmem, f0, f1, f2, f3, f4, f5⟩ := hI.get 0 (by omega)
 obtain ⟨xs, hxs⟩ : ∃ xs, s.inos = x :: xs := by
  cases e : s.inos with
  | nil => rw [e] at hx; cases hx
  | cons y ys => rw [e] at hx; injection hx with hx; subst hx; exact ⟨_, rfl⟩
 have hroot : rootB s.inos = (decide (x.num = 1) && x.dir) := by rw [hxs]; rfl
 have q0 : ((n : Int) == 0) = false := by rw [beq_eq_false_iff_ne]; omega
 have n1 : 0 < n := by omega
 have n2 : (0 : Int) < (n : Int) := by omega
 have f00 : w.cell? ⟨g, off, none⟩ = some (.int .i64 x.num) := by have := f0; simpa using this
 have f11 : w.cell? ⟨g, off + 1, none⟩ = some (.bool x.dir) := by have := f1; simpa using this
 rw [hroot] at hR
 have HR := Lib.hid hR
 have HI := Lib.hid hI
 have HXS := Lib.hid hxs
 have HP := Lib.hid h
 have HZ := Lib.hid h.sized
 clear hR hx hd hmem f0 f1 f2 f3 f4 f5 hxs hroot hn0 h
 by_cases hrt : x.num = 1 ∧ x.dir = true
 rotate_left
 ·have hr := HR.out
  have e1 : (decide (x.num = 1) && x.dir) = false := by
   rw [Bool.and_eq_false_iff, decide_eq_false_iff_not]
   by_cases h1 : x.num = 1
   ·right
    cases hd : x.dir
    ·rfl
    ·exact absurd ⟨h1, hd⟩ hrt
   ·exact Or.inl h1
  rw [e1, Bool.false_and, Bool.false_and] at hr
  have HR2 := Lib.hid hr
  obtain ⟨N1, hN1⟩ : ∃ N1, (x.num != 1) = N1 := ⟨_, rfl⟩
  obtain ⟨DX, hDX⟩ : ∃ DX, x.dir = DX := ⟨_, rfl⟩
  rw [hDX] at f11
  clear hr e1
  cases N1
  ·have : x.num = 1 := by simpa using hN1
   cases DX
   ·clear hrt
    go_enter Tryz.func119, Tryz.ntmps119
    go_wp2_with fail
    go_ret
    exact ⟨Cv.ret_bool HR2.out, Below.refl _ _⟩
   ·exact absurd ⟨this, hDX⟩ hrt
  ·clear hrt
   go_enter Tryz.func119, Tryz.ntmps119
   go_wp2_with fail
   go_ret
   exact ⟨Cv.ret_bool HR2.out, Below.refl _ _⟩
 obtain ⟨hx1, hx2⟩ := hrt
 rw [hx2] at f11
 have qn : (x.num != 1) = false := by rw [hx1]; rfl
 have hr := HR.out
 rw [decide_eq_true hx1, hx2, Bool.true_and, Bool.true_and] at hr
 obtain ⟨NV, hNV⟩ : ∃ NV, numsP s.made none s.inos = NV := ⟨_, rfl⟩
 rw [hNV] at hr
 have hnm : numsM s.made (s.inos.drop 1) x.num = NV := by rw [← hNV, HXS.out]; rfl
 have HNV := Lib.hid hNV
 have HNM := Lib.hid hnm
 have HR2 := Lib.hid hr
 clear hr hNV hnm hx1 hx2
 go_enter Tryz.func119, Tryz.ntmps119
 go_wp2_with fail
 go_loopw [3] (fun i wr => ∃ (q : Nat) (y : Ino), i = .int .i64 q ∧ 1 ≤ q ∧ q ≤ n ∧ Below w.heap.size w wr ∧ s.inos[q - 1]? = some y ∧ numsM s.made (s.inos.drop q) y.num = NV) (fun i _ => n - (intOf i).toNat)
 case atStart => exact ⟨1, x, rfl, by omega, by omega, Below.refl _ _, by rw [HXS.out]; rfl, HNM.out⟩
 case round =>
  obtain ⟨q, y, rfl, hq1, hqn, hbel, hy, hc⟩ := hrel
  have HB := Lib.hid hbel
  have HIr := Lib.hid (HI.out.below hbel)
  have HPr := Lib.hid (HP.out.below hbel)
  have r0 := (hbel.cell (p := ⟨p, 0, .none⟩) hp).trans c0
  have hX := @Ext.cell wr
  clear hbel
  by_cases hlt : q < n
  ·obtain ⟨j, rfl⟩ : ∃ j, q = j + 1 := ⟨q - 1, by omega⟩
   rw [Nat.add_sub_cancel] at hy
   obtain ⟨g', off', z, E2, m2, d2, hA', hg', hz, hd, hmem, e0, e1, e2, e3, e4, e5⟩ := HIr.out.get (j + 1) (by omega)
   injection hA' with hA'
   injection hA' with hA1 hA2
   subst hA1 hA2
   obtain ⟨g', off', y', E3, m3, d3, hA', hg3, hy', _, _, t0, _, _, _, _, _⟩ := HIr.out.get j (by omega)
   injection hA' with hA'
   injection hA' with hA1 hA2
   subst hA1 hA2
   have ey : y' = y := by rw [hy] at hy'; exact (Option.some.inj hy').symm
   subst ey
   rw [hd, numsM] at hc
   obtain ⟨GV, hGV⟩ : ∃ GV, givenV s.made z.num = GV := ⟨_, rfl⟩
   have hzn := HZ.out.nums.1 z hmem
   have HC := Lib.hid hc
   have HGV := Lib.hid hGV
   have HZ2 := Lib.hid hz
   have j0 : (0 : Int) ≤ (j : Int) + 1 := by omega
   have j1 : (j : Int) + 1 < (n : Int) := by omega
   have j2 : (0 : Int) ≤ (j : Int) := by omega
   have j3 : (j : Int) < (n : Int) := by omega
   have jw : IntKind.i64.wrap ((j : Int) + 1 - 1) = (j : Int) := by rw [IntKind.wrap_i64]; omega
   have jw2 : IntKind.i64.wrap (j : Int) = (j : Int) := by rw [IntKind.wrap_i64]; omega
   obtain ⟨LE, hLE⟩ : ∃ LE, decide (z.num ≤ y'.num) = LE := ⟨_, rfl⟩
   have HLE := Lib.hid hLE
   clear hc hGV hz hd hmem hy hy' e1 e2 e3 e4 e5
   go_wp2_with fail
   refine wre ?_
   cases LE
   ·repeat (go_big_quiet_step (first | (go_at_call 172; rename_i X; exact Calls.ext_of (by have := maynum_any p s z.num X.w (HPr.out.below X.bel) hzn.1 hzn.2.1; rw [HGV.out] at this; exact this))))
    refine wpQuiet_nil ?_
    rintro w7 ⟨X, rfl⟩
    have HB7 := Lib.hid (HB.out.trans (X.bel.mono HB.out.size))
    have hle : ¬ z.num ≤ y'.num := by have := HLE.out; rw [decide_eq_false_iff_not] at this; exact this
    clear hX
    cases GV
    ·have hc := HC.out
     rw [HGV.out, if_pos (.inr rfl)] at hc
     have hr := HR2.out
     rw [← hc, Bool.false_and] at hr
     have HR3 := Lib.hid hr
     clear hc hr
     go_wp2_with fail
     go_ret
     exact ⟨Cv.ret_bool HR3.out, HB7.out⟩
    ·have hc := HC.out
     rw [HGV.out, if_neg (by rintro (h | h); exact hle h; cases h)] at hc
     have HC3 := Lib.hid hc
     clear hc
     go_wp2_with fail
     go_roundw
     case rel => exact ⟨j + 1 + 1, z, by go_num, by omega, by omega, HB7.out, by rw [Nat.add_sub_cancel]; exact HZ2.out, HC3.out⟩
     case measure => simp [intOf]; omega
   ·repeat (go_big_quiet_step (fail))
    refine wpQuiet_nil ?_
    rintro w7 ⟨X, rfl⟩
    have HB7 := Lib.hid (HB.out.trans (X.bel.mono HB.out.size))
    have hle : z.num ≤ y'.num := by have := HLE.out; rw [decide_eq_true_eq] at this; exact this
    have hc := HC.out
    rw [if_pos (.inl hle)] at hc
    have hr := HR2.out
    rw [← hc, Bool.false_and] at hr
    have HR3 := Lib.hid hr
    clear hX hc hr hle
    go_wp2_with fail
    go_ret
    exact ⟨Cv.ret_bool HR3.out, HB7.out⟩
  ·have hnil : s.inos.drop q = [] := List.drop_eq_nil_of_le (by have := HI.out.1; omega)
   rw [hnil, numsM] at hc
   have HC := Lib.hid hc
   have q1 : decide ((q : Int) < (n : Int)) = false := by rw [decide_eq_false_iff_not]; omega
   have hnv := HNV.out
   rw [← hc] at hnv
   have HRI := Lib.hid (RiseI.of_nums hnv)
   have hr := HR2.out
   rw [← hc, Bool.true_and] at hr
   have HR3 := Lib.hid hr
   clear hc hnil hy hnv hr hX
   go_wp2_with fail
   clear q1
   go_loopw [77] (fun i wr2 => ∃ q : Nat, i = .int .i64 q ∧ q ≤ n ∧ Below w.heap.size w wr2 ∧ shapesM s.inos (s.inos.drop q) = R) (fun i _ => n - (intOf i).toNat)
   case atStart => exact ⟨0, rfl, by omega, HB.out, HR3.out⟩
   case round =>
    obtain ⟨q, rfl, hq, hbel2, hc⟩ := hrel
    have HB2 := Lib.hid hbel2
    have HI2 := Lib.hid (HI.out.below hbel2)
    have HP2 := Lib.hid (HP.out.below hbel2)
    clear hbel2
    by_cases hlt2 : q < n
    ·obtain ⟨g', off', z, E2, m2, d2, hA', hg', hz, hd, hmem, e0, e1, e2, e3, e4, e5⟩ := HI2.out.get q hlt2
     injection hA' with hA'
     injection hA' with hA1 hA2
     subst hA1 hA2
     rw [hd, shapesM] at hc
     have k0 : (0 : Int) ≤ (q : Int) := by omega
     have k1 : (q : Int) < (n : Int) := by omega
     have htx := (HZ.out.text z hmem).2
     have hm2 : m2 ≤ 1099511627776 := by have := e4.1; have := HZ.out.big; have := bulkE_le hz; omega
     obtain ⟨V2, hV2, v0, v1, v2, v3, hal4, hlt4⟩ := box_ino _ z.num z.dir E2 m2 d2 z.data
     have HAL4 := Lib.hid hal4
     have HPV := Lib.hid (HP2.out.below hal4)
     have HEV := Lib.hid (e4.below hal4)
     obtain ⟨EV, hEV⟩ : ∃ EV, entsV s.inos z.ents = EV := ⟨_, rfl⟩
     have HEVV := Lib.hid hEV
     have HEL := Lib.hid e4.1
     have HC2 := Lib.hid hc
     have HTX := Lib.hid htx
     have hX := @Ext.cell V2
     clear hal4 hEV hc hd hz e4 htx
     obtain ⟨DX, hDX⟩ : ∃ DX, z.dir = DX := ⟨_, rfl⟩
     rw [hDX] at v1 e1 hV2
     have HDX := Lib.hid hDX
     obtain ⟨DS, hDS⟩ : ∃ DS : Nat, z.data.size = DS := ⟨_, rfl⟩
     have HDS := Lib.hid hDS
     have HB4 := Lib.hid (Cv.next HB2.out HAL4.out)
     have hds : DS ≤ 140737488355328 := by rw [← hDS]; exact (HZ.out.text z hmem).1
     clear hDX
     cases DX
     ·by_cases hm0 : m2 = 0
      ·have qe : z.ents = [] := List.eq_nil_of_length_eq_zero (by have := HEL.out; omega)
       have q0 : decide ((0 : Int) < (m2 : Int)) = false := by rw [decide_eq_false_iff_not]; omega
       have q0n : decide (0 < m2) = false := by rw [decide_eq_false_iff_not]; omega
       by_cases hd2 : 256 < DS
       ·have q1 : decide ((256 : Int) < (DS : Int)) = true := by rw [decide_eq_true_eq]; omega
        have hc := HC2.out
        rw [if_neg (by rw [HDX.out]; decide), if_pos (.inr (by rw [HDS.out]; exact hd2))] at hc
        have HC3 := Lib.hid hc
        clear hc hm0 qe
        go_wp2_with fail
        go_ret
        exact ⟨Cv.ret_bool HC3.out, HB4.out⟩
       ·have q1 : decide ((256 : Int) < (DS : Int)) = false := by rw [decide_eq_false_iff_not]; omega
        have hc := HC2.out
        rw [if_neg (by rw [HDX.out]; decide), if_neg (by rintro (h | h); exact h qe; rw [HDS.out] at h; omega)] at hc
        have HC3 := Lib.hid hc
        clear hc hm0 qe
        go_wp2_with fail
        go_roundw
        case rel => exact ⟨q + 1, by go_num, by omega, HB4.out, HC3.out⟩
        case measure => simp [intOf]; omega
      ·have qe : z.ents ≠ [] := fun h => hm0 (by have := HEL.out; rw [h] at this; simpa using this.symm)
       have q0 : decide ((0 : Int) < (m2 : Int)) = true := by rw [decide_eq_true_eq]; omega
       have q0n : decide (0 < m2) = true := by rw [decide_eq_true_eq]; omega
       have hc := HC2.out
       rw [if_neg (by rw [HDX.out]; decide), if_pos (.inl qe)] at hc
       have HC3 := Lib.hid hc
       clear hc hm0 qe
       go_wp2_with fail
       go_ret
       exact ⟨Cv.ret_bool HC3.out, HB4.out⟩
     ·by_cases hd0 : DS = 0
      ·have qs : z.data.toList = [] := by
        rw [ByteArray.toList_eq]
        exact List.eq_nil_of_length_eq_zero (by have := HDS.out; rw [hd0] at this; exact this)
       have HD0 : Hid (z.data.size = 0) := Lib.hid (by rw [HDS.out]; exact hd0)
       clear hd0 hDS
       go_wp2_with fail
       refine (mayents_any p s z.ents E2 m2 d2 _ HPV.out HRI.out HEV.out hm2 HTX.out).mono ?_
       rintro e5 w5 ⟨rfl, hb5⟩
       rw [HEVV.out]
       have y1 : w5.cell? ⟨_, 1, .none⟩ = _ := (hb5.cell hlt4).trans v1
       have HB5 := Lib.hid (Cv.next HB4.out hb5)
       clear hb5
       cases EV
       ·have hc := HC2.out
        rw [if_pos HDX.out, if_pos (.inr HEVV.out)] at hc
        have HC3 := Lib.hid hc
        clear hc
        go_wp2_with fail
        go_ret
        exact ⟨Cv.ret_bool HC3.out, HB5.out⟩
       ·have hc := HC2.out
        rw [if_pos HDX.out, if_neg (by rintro (h | h); exact h HD0.out; rw [HEVV.out] at h; cases h)] at hc
        have HC3 := Lib.hid hc
        clear hc
        go_wp2_with fail
        go_roundw
        case rel => exact ⟨q + 1, by go_num, by omega, HB5.out, HC3.out⟩
        case measure => simp [intOf]; omega
      ·have qs : ¬ z.data.toList = [] := by
        intro h
        rw [ByteArray.toList_eq] at h
        apply hd0
        have h2 : z.data.size = z.data.data.toList.length := rfl
        rw [← HDS.out, h2, h]
        rfl
       have hc := HC2.out
       rw [if_pos HDX.out, if_pos (.inl (by rw [HDS.out]; exact hd0))] at hc
       have HC3 := Lib.hid hc
       clear hc
       go_wp2_with fail
       go_ret
       exact ⟨Cv.ret_bool HC3.out, HB4.out⟩
    ·have hnil : s.inos.drop q = [] := List.drop_eq_nil_of_le (by have := HI.out.1; omega)
     rw [hnil, shapesM] at hc
     have HC2 := Lib.hid hc
     have q2 : decide ((q : Int) < (n : Int)) = false := by rw [decide_eq_false_iff_not]; omega
     clear hc hnil
     go_wp2_with fail
     go_ret
     exact ⟨Cv.ret_bool HC2.out, HB2.out⟩
structure Que (w : World) (base : Nat) (e : TypeId) (ao : Option Addr) (cap : Nat) (xs : List Int) : Prop where
 le : xs.length ≤ cap
 max : cap ≤ maxLen
 row : 0 < cap → ∃ g off cur, ao = some ⟨g, off, .none⟩ ∧ base ≤ g ∧ w.heap[g]? = some (.cells cur e (0, 0)) ∧ off + cap ≤ cur.size ∧ ∀ j t, xs[j]? = some t → cur[off + j]? = some (.int .i64 t)
theorem Que.below {w w' : World} {base : Nat} {e : TypeId} {ao : Option Addr} {cap : Nat} {xs : List Int} (h : Que w base e ao cap xs) (hb : Below w.heap.size w w') : Que w' base e ao cap xs :=
 ⟨h.le, h.max, fun hc => by
  obtain ⟨g, off, cur, h1, h2, h3, h4, h5⟩ := h.row hc
  exact ⟨g, off, cur, h1, h2, (hb.block g (Array.getElem?_eq_some_iff.1 h3).1).trans h3, h4, h5⟩⟩
theorem Que.keep {w w' : World} {base : Nat} {e : TypeId} {ao : Option Addr} {cap : Nat} {xs : List Int} (h : Que w base e ao cap xs) (hb : ∀ g, base ≤ g → g < w.heap.size → w'.heap[g]? = w.heap[g]?) : Que w' base e ao cap xs :=
 ⟨h.le, h.max, fun hc => by
  obtain ⟨g, off, cur, h1, h2, h3, h4, h5⟩ := h.row hc
  exact ⟨g, off, cur, h1, h2, (hb g h2 (Array.getElem?_eq_some_iff.1 h3).1).trans h3, h4, h5⟩⟩
theorem Que.set {w : World} {base : Nat} {e : TypeId} {ao : Option Addr} {cap : Nat} {xs : List Int} (h : Que w base e ao cap xs) {b o : Nat} (hb : b < base) (v : Value) : Que (w.setCell ⟨b, o, .none⟩ v) base e ao cap xs :=
 h.keep fun g hg _ => Below.heap_setCell w ⟨b, o, .none⟩ v g (by show g ≠ b; omega)
theorem Que.one (w : World) (e : TypeId) (x : Int) : Que (w.alloc (.cells #[.int .i64 x] e)) w.heap.size e (some ⟨w.heap.size, 0, .none⟩) 1 [x] :=
 ⟨Nat.le_refl _, by unfold maxLen; omega, fun _ => ⟨w.heap.size, 0, #[.int .i64 x], rfl, Nat.le_refl _, heap_alloc_new w _, Nat.le_refl _, fun j t hj => by
  cases j with
  | zero =>
   have : x = t := by simpa using hj
   rw [this]; rfl
  | succ j => simp at hj⟩⟩
theorem Que.head {w : World} {base : Nat} {e : TypeId} {ao : Option Addr} {cap : Nat} {t : Int} {ts : List Int} (h : Que w base e ao cap (t :: ts)) : ∃ g off, ao = some ⟨g, off, .none⟩ ∧ base ≤ g ∧ g < w.heap.size ∧ w.cell? ⟨g, off, .none⟩ = some (.int .i64 t) ∧ ts.length + 1 ≤ cap := by
 have hle := h.le
 rw [List.length_cons] at hle
 obtain ⟨g, off, cur, h1, h2, h3, h4, h5⟩ := h.row (by omega)
 refine ⟨g, off, h1, h2, (Array.getElem?_eq_some_iff.1 h3).1, ?_, hle⟩
 rw [cell_of_row w g off cur _ (0, 0) h3]
 exact h5 0 t rfl
theorem Que.tail {w : World} {base : Nat} {e : TypeId} {g off cap : Nat} {t : Int} {ts : List Int} (h : Que w base e (some ⟨g, off, .none⟩) cap (t :: ts)) (ao' : Option Addr) (hao : 1 < cap → ao' = some ⟨g, off + 1, .none⟩) : Que w base e ao' (cap - 1) ts := by
 have hle := h.le
 rw [List.length_cons] at hle
 refine ⟨by omega, by have := h.max; omega, fun hc => ?_⟩
 obtain ⟨g1, off1, cur, h1, h2, h3, h4, h5⟩ := h.row (by omega)
 injection h1 with h1
 injection h1 with e1 e2
 subst e1 e2
 refine ⟨g, off + 1, cur, hao (by omega), h2, h3, by omega, fun j u hj => ?_⟩
 rw [show off + 1 + j = off + (j + 1) by omega]
 exact h5 (j + 1) u (by simpa using hj)
theorem Que.of_owns {w : World} {base B : Nat} {e : TypeId} {v : Value} {n : Nat} {xs : List Int} (h : w.ownsRow B e 1 v n (xs.map (Value.int .i64))) (hb : base ≤ B) (hn : 0 < n) : ∃ ao cap, v = .slice ao n cap ∧ Que w base e ao cap xs := by
 obtain ⟨hl, h⟩ := h
 rw [List.length_map] at hl
 rcases h with ⟨_, h2⟩ | ⟨g, cap, cur, hv, hg, hh, hnc, hcm, hcs, htk⟩
 ·omega
 ·refine ⟨_, cap, hv, by omega, hcm, fun _ => ⟨g, 0, cur, rfl, by omega, hh, by omega, fun j t hj => ?_⟩⟩
  have h1 : (xs.map (Value.int .i64))[j]? = some (.int .i64 t) := by rw [List.getElem?_map, hj]; rfl
  rw [← htk, List.getElem?_take] at h1
  split at h1
  ·rw [Nat.zero_add, ← Array.getElem?_toList]; exact h1
  ·cases h1
theorem Que.app {P : Program} {w : World} {base : Nat} {e : TypeId} {ao : Option Addr} {cap : Nat} {xs : List Int} (h : Que w base e ao cap xs) (hb : base ≤ w.heap.size) (t ty : TypeId) (i : TypeInfo) (z : Value)
  (ht : P.underlying t = some (.slice e)) (hi : P.info? e = some i) (hz : i.zero = some z) (hsize : i.size = 1) (hby : i.bytes = 8) (hzs : z.cells.size = 1) (ad : Addr) (c : Nat) (k : Int)
  (hk : ∀ j u, ([.int .i64 k] : List Value)[j]? = some u → w.cell? (ad.add j) = some u) (h63 : xs.length + 1 ≤ 1099511627777) :
  ∃ ao' cap' w', (Builtin.append_ #[t, t] ty #[.slice ao xs.length cap, .slice (some ad) 1 c]).run P w = .ok (.slice ao' (xs.length + 1) cap') w' ∧ Que w' base e ao' cap' (xs ++ [k]) ∧ Below base w w' := by
 have hle := h.le
 have grow : ∀ v' w', w'.ownsRow w.heap.size e 1 v' (xs.length + 1) (xs.map (Value.int .i64) ++ [.int .i64 k]) → w.grownBy w' none → (Builtin.append_ #[t, t] ty #[.slice ao xs.length cap, .slice (some ad) 1 c]).run P w = .ok v' w' →
   ∃ ao' cap' w', (Builtin.append_ #[t, t] ty #[.slice ao xs.length cap, .slice (some ad) 1 c]).run P w = .ok (.slice ao' (xs.length + 1) cap') w' ∧ Que w' base e ao' cap' (xs ++ [k]) ∧ Below base w w' := by
  intro v' w' ho hg hr
  have ho2 : w'.ownsRow w.heap.size e 1 v' (xs.length + 1) ((xs ++ [k]).map (Value.int .i64)) := by rw [List.map_append]; exact ho
  obtain ⟨ao', cap', rfl, hq⟩ := Que.of_owns ho2 hb (by omega)
  exact ⟨ao', cap', w', hr, hq, (Below.refl _ _).grown hg hb (fun _ e => by cases e)⟩
 by_cases hroom : xs.length + 1 ≤ cap
 ·obtain ⟨g, off, cur, rfl, hg, hh, hoc, hcs⟩ := h.row (by omega)
  have hlt : g < w.heap.size := (Array.getElem?_eq_some_iff.1 hh).1
  have hrun := run_append_room_cells (P := P) w t ty e i ht hi g off xs.length cap ad 1 c [.int .i64 k] (by rw [hsize]; rfl) hk (fun u hu => by simp at hu; subst hu; rfl) hroom
   (fun j hj => by
    have : j = 0 := by simpa using hj
    subst this
    rw [hsize, cell_of_row w g _ cur _ (0, 0) hh, Array.getElem?_eq_getElem (by omega)]; rfl)
   (fun j hj => frozen_of_row w g _ cur _ hh)
  rw [hsize, Nat.mul_one] at hrun
  refine ⟨_, _, _, hrun, ⟨by rw [List.length_append]; exact hroom, h.max, fun _ => ⟨g, off, _, rfl, hg, heap_setCell_same w g (off + xs.length) cur _ _ hh, by simpa using hoc, fun j u hj => ?_⟩⟩, (Below.refl _ _).setCell (p := ⟨g, off + xs.length, .none⟩) hg _⟩
  rw [Array.getElem?_setIfInBounds]
  by_cases e1 : j = xs.length
  ·subst e1
   have : k = u := by simpa using hj
   subst this
   rw [if_pos rfl, if_pos (by omega)]
  ·rw [if_neg (by omega)]
   have hj2 : j < xs.length := by
    have := (List.getElem?_eq_some_iff.1 hj).1
    rw [List.length_append] at this
    have h1 : [k].length = 1 := rfl
    omega
   rw [List.getElem?_append_left hj2] at hj
   exact hcs j u hj
 ·have hfull : cap < xs.length + 1 := by omega
  by_cases hc0 : 0 < cap
  ·obtain ⟨g, off, cur, rfl, hg, hh, hoc, hcs⟩ := h.row hc0
   obtain ⟨v', w', hr, r1, r2⟩ := run_append_arg_grows (P := P) w t ty e i z 1 8 ht hi hz hsize hby hzs (by omega) ⟨g, off, .none⟩ xs.length cap (xs.map (Value.int .i64)) (by simp)
    (fun j u hu => by
     rw [List.getElem?_map] at hu
     cases hx : xs[j]? with
     | none => rw [hx] at hu; cases hu
     | some y =>
      rw [hx] at hu
      have : Value.int .i64 y = u := by simpa using hu
      rw [Addr.add_lit, cell_of_row w g _ cur _ (0, 0) hh, hcs j y hx, this])
    ad 1 c [.int .i64 k] rfl hk hfull (by unfold maxLen; omega) (by omega)
   exact grow v' w' r1 r2 hr
  ·have hx : xs = [] := List.eq_nil_of_length_eq_zero (by omega)
   have hc : cap = 0 := by omega
   subst hx hc
   cases ao with
   | some b =>
    obtain ⟨v', w', hr, r1, r2⟩ := run_append_arg_grows (P := P) w t ty e i z 1 8 ht hi hz hsize hby hzs (by omega) b 0 0 [] rfl (fun j u hu => by simp at hu) ad 1 c [.int .i64 k] rfl hk (by omega) (by unfold maxLen; omega) (by omega)
    exact grow v' w' r1 r2 hr
   | none =>
    obtain ⟨v', w', hr, r1, r2, _⟩ := run_append_own (P := P) w w.heap.size t ty e i z 1 8 ht hi hz hsize hby hzs (by omega) (.slice none 0 0) 0 [] (World.ownsRow_nil w _ e 1) ad 1 c [.int .i64 k] rfl hk (fun u hu => by simp at hu; subst hu; rfl) (by unfold maxLen; omega) (by omega) (Nat.le_refl _)
    exact grow v' w' r1 r2 hr
theorem wpList_append_que {P : Program} (w : World) {ops : Array Oper} {rest : List Oper} {o : Oper} {a : Act} {Q : Exit → Act → World → Prop} (hgd : o.guard = none) (s x : Operand) (t : TypeId)
  (hop : o.op = Op.call { callee := Callee.builtin Builtin.append, args := #[s, x], argTypes := #[t, t] }) (base : Nat) (e : TypeId) (ao : Option Addr) (cap n : Nat) (xs : List Int) (hn : xs.length = n) (hs : a.eval s = .slice ao n cap)
  (h : Que w base e ao cap xs) (hb : base ≤ w.heap.size) (i : TypeInfo) (z : Value)
  (ht : P.underlying t = some (.slice e)) (hi : P.info? e = some i) (hz : i.zero = some z) (hsize : i.size = 1) (hby : i.bytes = 8) (hzs : z.cells.size = 1) (ad : Addr) (c : Nat) (k : Int) (hx : a.eval x = .slice (some ad) 1 c)
  (hk : ∀ j u, ([.int .i64 k] : List Value)[j]? = some u → w.cell? (ad.add j) = some u) (h63 : n + 1 ≤ 1099511627777)
  (hK : ∀ ao' cap' w', Que w' base e ao' cap' (xs ++ [k]) → Below base w w' → wpList P ops Q rest (a.put o.dst (.slice ao' (n + 1) cap')) w') : wpList P ops Q (o :: rest) a w := by
 subst hn
 refine wpList_plain hgd fun K hK' => ?_
 obtain ⟨ao', cap', w', hrun, r1, r2⟩ := h.app (P := P) hb t o.type i z ht hi hz hsize hby hzs ad c k hk h63
 unfold Oper.wp
 simp [execOp, hop, resolve, invoke, builtin, hs, hx, hrun, Result.andThen]
 exact hK' _ _ (hK ao' cap' w' r1 r2)
end Go.Proofs.YtilkhmhgjbhfnaaGreatDoor
