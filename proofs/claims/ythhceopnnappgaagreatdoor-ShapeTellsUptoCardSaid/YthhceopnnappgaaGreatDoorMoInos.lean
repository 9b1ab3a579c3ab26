/- The model's mayInodes. -/
import Derived.Test.YthhceopnnappgaaGreatDoorMoEnts2
import Derived.Test.YthhceopnnappgaaGreatDoorM19
set_option linter.unusedVariables false
set_option linter.unusedSimpArgs false
namespace Go.Proofs.YthhceopnnappgaaGreatDoor
open Go.RowKit
theorem RiseI.of_nums {made : List Int} {is : List Ino} (h : numsP made none is = true) : RiseI is := by
 have hp := numsP_pair h
 intro i j x y hij hx hy
 rw [List.pairwise_iff_getElem] at hp
 obtain ⟨h1, h2⟩ := List.getElem?_eq_some_iff.1 hx
 obtain ⟨h3, h4⟩ := List.getElem?_eq_some_iff.1 hy
 have := hp i j h1 h3 hij
 rw [h2, h4] at this
 exact this
def mInosV (s : St) : Bool := rootB s.inos && numsP s.made none s.inos && shapesM s.inos s.inos
set_option maxRecDepth 100000 in
set_option maxHeartbeats 8000000 in
theorem mayinos_any (p : Nat) (s : St) (w : World) (h : PtrAt w p s) :
  Calls Tryz.prog 52 #[.pointer (some ⟨p, 0, .none⟩)] w fun e w' => e = .returned (.bool (mInosV s)) ∧ Below w.heap.size w w' := by
 obtain ⟨A, n, c, E, m, d, D, k, e, hp, c0, c1, c2, hI, hD, hM, hn, _, hk⟩ := h.val
 obtain ⟨R, hR⟩ : ∃ R, mInosV s = R := ⟨_, rfl⟩
 rw [hR]
 unfold mInosV at hR
 have hnl := hI.1
 by_cases hn0 : n = 0
 ·go_enter Tryz.func52, Tryz.ntmps52
  go_wp2_with fail
  go_ret
  have hnil : s.inos = [] := List.eq_nil_of_length_eq_zero (by omega)
  exact ⟨by rw [← hR, hnil]; rfl, Below.refl _ _⟩
 obtain ⟨g, off, x, E0, m0, d0, rfl, hg, hx, hd, hmem, f0, f1, f2, f3, f4, f5⟩ := hI.get 0 (by omega)
 obtain ⟨xs, hxs⟩ : ∃ xs, s.inos = x :: xs := by
  cases e : s.inos with
  | nil => rw [e] at hx; cases hx
  | cons y ys => rw [e] at hx; injection hx with hx; subst hx; exact ⟨_, rfl⟩
 have hroot : rootB s.inos = (decide (x.num = 1) && x.dir) := by rw [hxs]; rfl
 have q0 : ((n : Int) == 0) = false := by rw [beq_eq_false_iff_ne]; omega
 have n1 : 0 < n := by omega
 have n2 : (0 : Int) < (n : Int) := by omega
 have f00 : w.cell? ⟨g, off, none⟩ = some (.int .i64 x.num) := by have := f0; simpa using this
 have f11 : w.cell? ⟨g, off + 1, none⟩ = some (.bool x.dir) := by have := f1; simpa using this
 rw [hroot] at hR
 have HR := Lib.hid hR
 have HI := Lib.hid hI
 have HXS := Lib.hid hxs
 have HP := Lib.hid h
 have HZ := Lib.hid h.sized
 clear hR hx hd hmem f0 f1 f2 f3 f4 f5 hxs hroot hn0 h
 by_cases hrt : x.num = 1 ∧ x.dir = true
 rotate_left
 ·have hr := HR.out
  have e1 : (decide (x.num = 1) && x.dir) = false := by
   rw [Bool.and_eq_false_iff, decide_eq_false_iff_not]
   by_cases h1 : x.num = 1
   ·right
    cases hd : x.dir
    ·rfl
    ·exact absurd ⟨h1, hd⟩ hrt
   ·exact Or.inl h1
  rw [e1, Bool.false_and, Bool.false_and] at hr
  have HR2 := Lib.hid hr
  obtain ⟨N1, hN1⟩ : ∃ N1, (x.num != 1) = N1 := ⟨_, rfl⟩
  obtain ⟨DX, hDX⟩ : ∃ DX, x.dir = DX := ⟨_, rfl⟩
  rw [hDX] at f11
  clear hr e1
  cases N1
  ·have : x.num = 1 := by simpa using hN1
   cases DX
   ·clear hrt
    go_enter Tryz.func52, Tryz.ntmps52
    go_wp2_with fail
    go_ret
    exact ⟨Cv.ret_bool HR2.out, Below.refl _ _⟩
   ·exact absurd ⟨this, hDX⟩ hrt
  ·clear hrt
   go_enter Tryz.func52, Tryz.ntmps52
   go_wp2_with fail
   go_ret
   exact ⟨Cv.ret_bool HR2.out, Below.refl _ _⟩
 obtain ⟨hx1, hx2⟩ := hrt
 rw [hx2] at f11
 have qn : (x.num != 1) = false := by rw [hx1]; rfl
 have hr := HR.out
 rw [decide_eq_true hx1, hx2, Bool.true_and, Bool.true_and] at hr
 obtain ⟨NV, hNV⟩ : ∃ NV, numsP s.made none s.inos = NV := ⟨_, rfl⟩
 rw [hNV] at hr
 have hnm : numsM s.made (s.inos.drop 1) x.num = NV := by rw [← hNV, HXS.out]; rfl
 have HNV := Lib.hid hNV
 have HNM := Lib.hid hnm
 have HR2 := Lib.hid hr
 clear hr hNV hnm hx1 hx2
 go_enter Tryz.func52, Tryz.ntmps52
 go_wp2_with fail
 go_loopw [3] (fun i wr => ∃ (q : Nat) (y : Ino), i = .int .i64 q ∧ 1 ≤ q ∧ q ≤ n ∧ Below w.heap.size w wr ∧ s.inos[q - 1]? = some y ∧ numsM s.made (s.inos.drop q) y.num = NV) (fun i _ => n - (intOf i).toNat)
 case atStart => exact ⟨1, x, rfl, by omega, by omega, Below.refl _ _, by rw [HXS.out]; rfl, HNM.out⟩
 case round =>
  obtain ⟨q, y, rfl, hq1, hqn, hbel, hy, hc⟩ := hrel
  have HB := Lib.hid hbel
  have HIr := Lib.hid (HI.out.below hbel)
  have HPr := Lib.hid (HP.out.below hbel)
  have r0 := (hbel.cell (p := ⟨p, 0, .none⟩) hp).trans c0
  have hX := @Ext.cell wr
  clear hbel
  by_cases hlt : q < n
  ·obtain ⟨j, rfl⟩ : ∃ j, q = j + 1 := ⟨q - 1, by omega⟩
   rw [Nat.add_sub_cancel] at hy
   obtain ⟨g', off', z, E2, m2, d2, hA', hg', hz, hd, hmem, e0, e1, e2, e3, e4, e5⟩ := HIr.out.get (j + 1) (by omega)
   injection hA' with hA'
   injection hA' with hA1 hA2
   subst hA1 hA2
   obtain ⟨g', off', y', E3, m3, d3, hA', hg3, hy', _, _, t0, _, _, _, _, _⟩ := HIr.out.get j (by omega)
   injection hA' with hA'
   injection hA' with hA1 hA2
   subst hA1 hA2
   have ey : y' = y := by rw [hy] at hy'; exact (Option.some.inj hy').symm
   subst ey
   rw [hd, numsM] at hc
   obtain ⟨GV, hGV⟩ : ∃ GV, givenV s.made z.num = GV := ⟨_, rfl⟩
   have hzn := HZ.out.nums.1 z hmem
   have HC := Lib.hid hc
   have HGV := Lib.hid hGV
   have HZ2 := Lib.hid hz
   have j0 : (0 : Int) ≤ (j : Int) + 1 := by omega
   have j1 : (j : Int) + 1 < (n : Int) := by omega
   have j2 : (0 : Int) ≤ (j : Int) := by omega
   have j3 : (j : Int) < (n : Int) := by omega
   have jw : IntKind.i64.wrap ((j : Int) + 1 - 1) = (j : Int) := by rw [IntKind.wrap_i64]; omega
   have jw2 : IntKind.i64.wrap (j : Int) = (j : Int) := by rw [IntKind.wrap_i64]; omega
   obtain ⟨LE, hLE⟩ : ∃ LE, decide (z.num ≤ y'.num) = LE := ⟨_, rfl⟩
   have HLE := Lib.hid hLE
   clear hc hGV hz hd hmem hy hy' e1 e2 e3 e4 e5
   go_wp2_with fail
   refine wre ?_
   cases LE
   ·repeat (go_big_quiet_step (first | (go_at_call 76; rename_i X; exact Calls.ext_of (by have := maynum_any p s z.num X.w (HPr.out.below X.bel) hzn.1 hzn.2.1; rw [HGV.out] at this; exact this))))
    refine wpQuiet_nil ?_
    rintro w7 ⟨X, rfl⟩
    have HB7 := Lib.hid (HB.out.trans (X.bel.mono HB.out.size))
    have hle : ¬ z.num ≤ y'.num := by have := HLE.out; rw [decide_eq_false_iff_not] at this; exact this
    clear hX
    cases GV
    ·have hc := HC.out
     rw [HGV.out, if_pos (.inr rfl)] at hc
     have hr := HR2.out
     rw [← hc, Bool.false_and] at hr
     have HR3 := Lib.hid hr
     clear hc hr
     go_wp2_with fail
     go_ret
     exact ⟨Cv.ret_bool HR3.out, HB7.out⟩
    ·have hc := HC.out
     rw [HGV.out, if_neg (by rintro (h | h); exact hle h; cases h)] at hc
     have HC3 := Lib.hid hc
     clear hc
     go_wp2_with fail
     go_roundw
     case rel => exact ⟨j + 1 + 1, z, by go_num, by omega, by omega, HB7.out, by rw [Nat.add_sub_cancel]; exact HZ2.out, HC3.out⟩
     case measure => simp [intOf]; omega
   ·repeat (go_big_quiet_step (fail))
    refine wpQuiet_nil ?_
    rintro w7 ⟨X, rfl⟩
    have HB7 := Lib.hid (HB.out.trans (X.bel.mono HB.out.size))
    have hle : z.num ≤ y'.num := by have := HLE.out; rw [decide_eq_true_eq] at this; exact this
    have hc := HC.out
    rw [if_pos (.inl hle)] at hc
    have hr := HR2.out
    rw [← hc, Bool.false_and] at hr
    have HR3 := Lib.hid hr
    clear hX hc hr hle
    go_wp2_with fail
    go_ret
    exact ⟨Cv.ret_bool HR3.out, HB7.out⟩
  ·have hnil : s.inos.drop q = [] := List.drop_eq_nil_of_le (by have := HI.out.1; omega)
   rw [hnil, numsM] at hc
   have HC := Lib.hid hc
   have q1 : decide ((q : Int) < (n : Int)) = false := by rw [decide_eq_false_iff_not]; omega
   have hnv := HNV.out
   rw [← hc] at hnv
   have HRI := Lib.hid (RiseI.of_nums hnv)
   have hr := HR2.out
   rw [← hc, Bool.true_and] at hr
   have HR3 := Lib.hid hr
   clear hc hnil hy hnv hr hX
   go_wp2_with fail
   clear q1
   go_loopw [77] (fun i wr2 => ∃ q : Nat, i = .int .i64 q ∧ q ≤ n ∧ Below w.heap.size w wr2 ∧ shapesM s.inos (s.inos.drop q) = R) (fun i _ => n - (intOf i).toNat)
   case atStart => exact ⟨0, rfl, by omega, HB.out, HR3.out⟩
   case round =>
    obtain ⟨q, rfl, hq, hbel2, hc⟩ := hrel
    have HB2 := Lib.hid hbel2
    have HI2 := Lib.hid (HI.out.below hbel2)
    have HP2 := Lib.hid (HP.out.below hbel2)
    clear hbel2
    by_cases hlt2 : q < n
    ·obtain ⟨g', off', z, E2, m2, d2, hA', hg', hz, hd, hmem, e0, e1, e2, e3, e4, e5⟩ := HI2.out.get q hlt2
     injection hA' with hA'
     injection hA' with hA1 hA2
     subst hA1 hA2
     rw [hd, shapesM] at hc
     have k0 : (0 : Int) ≤ (q : Int) := by omega
     have k1 : (q : Int) < (n : Int) := by omega
     have htx := (HZ.out.text z hmem).2
     have hm2 : m2 ≤ 1099511627776 := by have := e4.1; have := HZ.out.big; have := bulkE_le hz; omega
     obtain ⟨V2, hV2, v0, v1, v2, v3, hal4, hlt4⟩ := box_ino _ z.num z.dir E2 m2 d2 z.data
     have HAL4 := Lib.hid hal4
     have HPV := Lib.hid (HP2.out.below hal4)
     have HEV := Lib.hid (e4.below hal4)
     obtain ⟨EV, hEV⟩ : ∃ EV, entsV s.inos z.ents = EV := ⟨_, rfl⟩
     have HEVV := Lib.hid hEV
     have HEL := Lib.hid e4.1
     have HC2 := Lib.hid hc
     have HTX := Lib.hid htx
     have hX := @Ext.cell V2
     clear hal4 hEV hc hd hz e4 htx
     obtain ⟨DX, hDX⟩ : ∃ DX, z.dir = DX := ⟨_, rfl⟩
     rw [hDX] at v1 e1 hV2
     have HDX := Lib.hid hDX
     obtain ⟨DS, hDS⟩ : ∃ DS : Nat, z.data.size = DS := ⟨_, rfl⟩
     have HDS := Lib.hid hDS
     have HB4 := Lib.hid (Cv.next HB2.out HAL4.out)
     have hds : DS ≤ 140737488355328 := by rw [← hDS]; exact (HZ.out.text z hmem).1
     clear hDX
     cases DX
     ·by_cases hm0 : m2 = 0
      ·have qe : z.ents = [] := List.eq_nil_of_length_eq_zero (by have := HEL.out; omega)
       have q0 : decide ((0 : Int) < (m2 : Int)) = false := by rw [decide_eq_false_iff_not]; omega
       have q0n : decide (0 < m2) = false := by rw [decide_eq_false_iff_not]; omega
       by_cases hd2 : 256 < DS
       ·have q1 : decide ((256 : Int) < (DS : Int)) = true := by rw [decide_eq_true_eq]; omega
        have hc := HC2.out
        rw [if_neg (by rw [HDX.out]; decide), if_pos (.inr (by rw [HDS.out]; exact hd2))] at hc
        have HC3 := Lib.hid hc
        clear hc hm0 qe
        go_wp2_with fail
        go_ret
        exact ⟨Cv.ret_bool HC3.out, HB4.out⟩
       ·have q1 : decide ((256 : Int) < (DS : Int)) = false := by rw [decide_eq_false_iff_not]; omega
        have hc := HC2.out
        rw [if_neg (by rw [HDX.out]; decide), if_neg (by rintro (h | h); exact h qe; rw [HDS.out] at h; omega)] at hc
        have HC3 := Lib.hid hc
        clear hc hm0 qe
        go_wp2_with fail
        go_roundw
        case rel => exact ⟨q + 1, by go_num, by omega, HB4.out, HC3.out⟩
        case measure => simp [intOf]; omega
      ·have qe : z.ents ≠ [] := fun h => hm0 (by have := HEL.out; rw [h] at this; simpa using this.symm)
       have q0 : decide ((0 : Int) < (m2 : Int)) = true := by rw [decide_eq_true_eq]; omega
       have q0n : decide (0 < m2) = true := by rw [decide_eq_true_eq]; omega
       have hc := HC2.out
       rw [if_neg (by rw [HDX.out]; decide), if_pos (.inl qe)] at hc
       have HC3 := Lib.hid hc
       clear hc hm0 qe
       go_wp2_with fail
       go_ret
       exact ⟨Cv.ret_bool HC3.out, HB4.out⟩
     ·by_cases hd0 : DS = 0
      ·have qs : z.data.toList = [] := by
        rw [ByteArray.toList_eq]
        exact List.eq_nil_of_length_eq_zero (by have := HDS.out; rw [hd0] at this; exact this)
       have HD0 : Hid (z.data.size = 0) := Lib.hid (by rw [HDS.out]; exact hd0)
       clear hd0 hDS
       go_wp2_with fail
       refine (mayents_any p s z.ents E2 m2 d2 _ HPV.out HRI.out HEV.out hm2 HTX.out).mono ?_
       rintro e5 w5 ⟨rfl, hb5⟩
       rw [HEVV.out]
       have y1 : w5.cell? ⟨_, 1, .none⟩ = _ := (hb5.cell hlt4).trans v1
       have HB5 := Lib.hid (Cv.next HB4.out hb5)
       clear hb5
       cases EV
       ·have hc := HC2.out
        rw [if_pos HDX.out, if_pos (.inr HEVV.out)] at hc
        have HC3 := Lib.hid hc
        clear hc
        go_wp2_with fail
        go_ret
        exact ⟨Cv.ret_bool HC3.out, HB5.out⟩
       ·have hc := HC2.out
        rw [if_pos HDX.out, if_neg (by rintro (h | h); exact h HD0.out; rw [HEVV.out] at h; cases h)] at hc
        have HC3 := Lib.hid hc
        clear hc
        go_wp2_with fail
        go_roundw
        case rel => exact ⟨q + 1, by go_num, by omega, HB5.out, HC3.out⟩
        case measure => simp [intOf]; omega
      ·have qs : ¬ z.data.toList = [] := by
        intro h
        rw [ByteArray.toList_eq] at h
        apply hd0
        have h2 : z.data.size = z.data.data.toList.length := rfl
        rw [← HDS.out, h2, h]
        rfl
       have hc := HC2.out
       rw [if_pos HDX.out, if_pos (.inl (by rw [HDS.out]; exact hd0))] at hc
       have HC3 := Lib.hid hc
       clear hc
       go_wp2_with fail
       go_ret
       exact ⟨Cv.ret_bool HC3.out, HB4.out⟩
    ·have hnil : s.inos.drop q = [] := List.drop_eq_nil_of_le (by have := HI.out.1; omega)
     rw [hnil, shapesM] at hc
     have HC2 := Lib.hid hc
     have q2 : decide ((q : Int) < (n : Int)) = false := by rw [decide_eq_false_iff_not]; omega
     clear hc hnil
     go_wp2_with fail
     go_ret
     exact ⟨Cv.ret_bool HC2.out, HB2.out⟩
end Go.Proofs.YthhceopnnappgaaGreatDoor
