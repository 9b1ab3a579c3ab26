/- Parts of the proof, side by side: MoOpen, MoIsOpen, MoMay, PlainSum, LaPutP, FsByFd2. -/
import Derived.Test.YtilkhmhgjbhfnaaGreatDoorM07
import Derived.Test.YtilkhmhgjbhfnaaGreatDoorM06
import Derived.Test.YtilkhmhgjbhfnaaGreatDoorM05
import Derived.Test.YtilkhmhgjbhfnaaGreatDoorM08
set_option linter.unusedVariables false
set_option linter.unusedSimpArgs false
namespace Go.Proofs.YtilkhmhgjbhfnaaGreatDoor
open Go.RowKit
set_option maxRecDepth 100000 in
set_option maxHeartbeats 8000000 in
theorem mayopen_any (p : Nat) (s : St) (w : World) (h : PtrAt w p s) (hri : RiseI s.inos) :
  Calls Tryz.prog 120 #[.pointer (some ⟨p, 0, .none⟩)] w fun e w' => e = .returned (.bool (opensV s)) ∧ Below w.heap.size w w' := by
 obtain ⟨A, n, c, E, m, d, D, k, e, hp, c0, c1, c2, hI, hD, hM, hn, hm, hk⟩ := h.val
 obtain ⟨R, hR⟩ : ∃ R, opensV s = R := ⟨_, rfl⟩
 rw [hR]
 unfold opensV at hR
 have HR := Lib.hid hR
 have HI := Lib.hid hI
 have HD := Lib.hid hD
 have HKL := Lib.hid hM.1
 have HP := Lib.hid h
 have HRI := Lib.hid hri
 clear hR hI hD hM h
 go_enter Tryz.func120, Tryz.ntmps120
 go_wp2_with fail
 go_loopw [11] (fun i wr => ∃ q : Nat, i = .int .i64 q ∧ q ≤ m ∧ Below w.heap.size w wr ∧ opensG s.inos s.made.length (s.opn.drop q) (prevD s.opn q) = R) (fun i _ => m - (intOf i).toNat)
 case atStart => exact ⟨0, rfl, by omega, Below.refl _ _, HR.out⟩
 case round =>
  obtain ⟨q, rfl, hq, hbel, hc⟩ := hrel
  have z0 := (hbel.cell (p := ⟨p, 0, .none⟩) hp).trans c0
  have z1 := (hbel.cell (p := ⟨p, 1, .none⟩) hp).trans c1
  have z2 := (hbel.cell (p := ⟨p, 2, .none⟩) hp).trans c2
  have HB := Lib.hid hbel
  have HDr := Lib.hid (HD.out.below hbel)
  have hpr : p < wr.heap.size := Nat.lt_of_lt_of_le hp hbel.size
  clear hbel
  by_cases hlt : q < m
  ·obtain ⟨g, off, y, rfl, hg, hy, hd, hmem, e0, e1, e2⟩ := HDr.out.get q hlt
   rw [hd, opensG] at hc
   have k0 : (0 : Int) ≤ (q : Int) := by omega
   have k1 : (q : Int) < (m : Int) := by omega
   obtain ⟨BD, hBD⟩ : ∃ BD, dsBad s.inos s.made.length y = BD := ⟨_, rfl⟩
   obtain ⟨PD, hPD⟩ : ∃ PD, dsPrev (prevD s.opn q) y = PD := ⟨_, rfl⟩
   rw [hBD, hPD] at hc
   have HBD := Lib.hid hBD
   have HPD := Lib.hid hPD
   have HC := Lib.hid hc
   have HY := Lib.hid hy
   clear hc hd hmem hy hBD hPD
   obtain ⟨V2, hV2, v0, v1, v2, hal4, hlt4⟩ := box_ds wr y.core y.fd y.num
   have hbv := Cv.next HB.out hal4
   have HPV := Lib.hid (HP.out.below hbv)
   have HIV := Lib.hid (HI.out.below hbv)
   have HDV := Lib.hid (HD.out.below hbv)
   have x0 := (hal4.cell (p := ⟨p, 0, .none⟩) hpr).trans z0
   have x1 := (hal4.cell (p := ⟨p, 1, .none⟩) hpr).trans z1
   have x2 := (hal4.cell (p := ⟨p, 2, .none⟩) hpr).trans z2
   have HBV := Lib.hid hbv
   have hpv : p < V2.heap.size := Nat.lt_of_lt_of_le hpr hal4.size
   clear hal4 hbv
   go_upto_region 4 with fail
   clear hV2 z0 z1 z2 e0 e1 e2
   obtain ⟨B1, hB1⟩ : ∃ B1, (decide (y.core < 0) || decide ((k : Int) ≤ y.core) || decide (y.fd < 0) || decide (4 ≤ y.fd)) = B1 := ⟨_, rfl⟩
   have HB1 := Lib.hid hB1
   clear hB1
   go_cut [38] (fun c wx => c = .bool B1 ∧ ∃ X : Ext V2, wx = X.w)
   case first =>
    obtain ⟨D1, hD1⟩ : ∃ D1, decide (y.core < 0) = D1 := ⟨_, rfl⟩
    obtain ⟨D2, hD2⟩ : ∃ D2, decide ((k : Int) ≤ y.core) = D2 := ⟨_, rfl⟩
    obtain ⟨D3, hD3⟩ : ∃ D3, decide (y.fd < 0) = D3 := ⟨_, rfl⟩
    obtain ⟨D4, hD4⟩ : ∃ D4, decide (4 ≤ y.fd) = D4 := ⟨_, rfl⟩
    have hx : ∀ (X : Ext V2) (p : Addr), (V2.cell? p).isSome = true → X.w.cell? p = V2.cell? p := fun X p h => X.cell p h
    have hbb := HB1.out
    rw [hD1, hD2, hD3, hD4] at hbb
    have HBX := Lib.hid hbb
    clear hbb
    cases D1 <;> cases D2 <;> cases D3 <;> (
     refine wre ?_
     repeat (go_big_quiet_step (fail))
     refine wpQuiet_nil ?_
     rintro w7 ⟨X, rfl⟩
     go_wp2_with fail
     go_meet
     exact ⟨congrArg Value.bool (by rw [← HBX.out]; simp), X, rfl⟩)
   case rest =>
    obtain ⟨rfl, X, rfl⟩ := hcut
    generalize hZe : X.w = Z
    have hZ := hZe ▸ X.bel
    have HPZ := Lib.hid (HPV.out.below hZ)
    have HIZ := Lib.hid (HIV.out.below hZ)
    have HDZ := Lib.hid (HDV.out.below hZ)
    have HBZ := Lib.hid (Cv.next HBV.out hZ)
    have y0 := (hZ.cell (p := ⟨p, 0, .none⟩) hpv).trans x0
    have y1 := (hZ.cell (p := ⟨p, 1, .none⟩) hpv).trans x1
    have y2 := (hZ.cell (p := ⟨p, 2, .none⟩) hpv).trans x2
    have u0 := (hZ.cell (p := ⟨wr.heap.size, 0, .none⟩) hlt4).trans v0
    have u1 := (hZ.cell (p := ⟨wr.heap.size, 1, .none⟩) hlt4).trans v1
    have u2 := (hZ.cell (p := ⟨wr.heap.size, 2, .none⟩) hlt4).trans v2
    have hpz : p < Z.heap.size := Nat.lt_of_lt_of_le hpv hZ.size
    have hltz : wr.heap.size < Z.heap.size := Nat.lt_of_lt_of_le hlt4 hZ.size
    clear hZe hZ X x0 x1 x2 v0 v1 v2 HPV HIV HDV HBV
    cases B1
    rotate_left
    ·have hbt : BD = true := by rw [← HBD.out, HKL.out]; unfold dsBad; rw [HB1.out]; simp
     have hr := HC.out
     rw [if_pos hbt] at hr
     have HR2 := Lib.hid hr
     clear hr
     go_wp2_with fail
     go_ret
     exact ⟨Cv.ret_bool HR2.out, HBZ.out⟩
    go_upto_region 6 with fail
    go_cut [82] (fun c wx => c = .bool PD ∧ ∃ X : Ext Z, wx = X.w)
    case first =>
     have hx : ∀ (X : Ext Z) (p : Addr), (Z.cell? p).isSome = true → X.w.cell? p = Z.cell? p := fun X p h => X.cell p h
     by_cases hq0 : q = 0
     ·have hP : PD = false := by rw [← HPD.out, prevD, if_pos hq0]; rfl
      have q1 : decide ((0 : Int) < (q : Int)) = false := by rw [decide_eq_false_iff_not]; omega
      have q1n : decide (0 < q) = false := by rw [decide_eq_false_iff_not]; omega
      clear hq0
      refine wre ?_
      repeat (go_big_quiet_step (fail))
      refine wpQuiet_nil ?_
      rintro w7 ⟨X, rfl⟩
      go_wp2_with fail
      go_meet
      exact ⟨congrArg Value.bool hP.symm, X, rfl⟩
     ·obtain ⟨j, rfl⟩ : ∃ j, q = j + 1 := ⟨q - 1, by omega⟩
      obtain ⟨g3, off3, o, hA3, hg3, hy3, _, _, f0, f1, f2⟩ := HDZ.out.get j (by omega)
      injection hA3 with hA3
      injection hA3 with hA1 hA2
      subst hA1 hA2
      have q1 : decide ((0 : Int) < ((j + 1 : Nat) : Int)) = true := by rw [decide_eq_true_eq]; omega
      have q1b : decide ((0 : Int) < (j : Int) + 1) = true := by rw [decide_eq_true_eq]; omega
      have j0 : (0 : Int) ≤ (j : Int) := by omega
      have j1 : (j : Int) < (m : Int) := by omega
      have jw : IntKind.i64.wrap ((j : Int) + 1 - 1) = (j : Int) := by rw [IntKind.wrap_i64]; omega
      have hP : dsPrev (some o) y = PD := by rw [← HPD.out, prevD, if_neg (by omega), Nat.add_sub_cancel, hy3]
      obtain ⟨D1, hD1⟩ : ∃ D1, decide (y.core < o.core) = D1 := ⟨_, rfl⟩
      obtain ⟨D2, hD2⟩ : ∃ D2, (o.core == y.core) = D2 := ⟨_, rfl⟩
      obtain ⟨D3, hD3⟩ : ∃ D3, decide (y.fd ≤ o.fd) = D3 := ⟨_, rfl⟩
      unfold dsPrev at hP
      have HP2 := Lib.hid hP
      clear hP hy3 hq0
      cases D1 <;> cases D2 <;> (
       refine wre ?_
       repeat (go_big_quiet_step (fail))
       refine wpQuiet_nil ?_
       rintro w7 ⟨X, rfl⟩
       go_wp2_with fail
       go_meet
       exact ⟨congrArg Value.bool (by rw [← HP2.out]; simp_all), X, rfl⟩)
    case rest =>
     obtain ⟨rfl, X, rfl⟩ := hcut
     generalize hZe : X.w = Y
     have hZ := hZe ▸ X.bel
     have HPY := Lib.hid (HPZ.out.below hZ)
     have HIY := Lib.hid (HIZ.out.below hZ)
     have HBY := Lib.hid (Cv.next HBZ.out hZ)
     have x0 := (hZ.cell (p := ⟨p, 0, .none⟩) hpz).trans y0
     have v2 := (hZ.cell (p := ⟨wr.heap.size, 2, .none⟩) hltz).trans u2
     have hpy : p < Y.heap.size := Nat.lt_of_lt_of_le hpz hZ.size
     clear hZe hZ X y0 y1 y2 u0 u1 u2 HPZ HIZ HBZ HDZ
     cases PD
     rotate_left
     ·have hr := HC.out
      have hr2 : false = R := by
       by_cases hb : BD = true
       ·rw [if_pos hb] at hr; exact hr
       ·rw [if_neg hb, if_pos rfl] at hr; exact hr
      have HR2 := Lib.hid hr2
      clear hr hr2
      go_wp2_with fail
      go_ret
      exact ⟨Cv.ret_bool HR2.out, HBY.out⟩
     go_wp2_with fail
     refine (mfind_any p s y.num _ HPY.out HRI.out).mono ?_
     rintro e5 w5 ⟨rfl, hb5⟩
     have p0 := (hb5.cell (p := ⟨p, 0, .none⟩) hpy).trans x0
     have HI5 := Lib.hid (HIY.out.below hb5)
     have HB5 := Lib.hid (Cv.next HBY.out hb5)
     clear hb5 x0 v2
     rcases atV_cases s.inos y.num with ⟨hat, _⟩ | ⟨i, x, hat, hx, _, _⟩
     ·rw [hat]
      have hbt : BD = true := by rw [← HBD.out]; unfold dsBad; rw [hat]; simp [inoAt]
      have hr := HC.out
      rw [if_pos hbt] at hr
      have HR2 := Lib.hid hr
      clear hr hat
      go_wp2_with fail
      go_ret
      exact ⟨Cv.ret_bool HR2.out, HB5.out⟩
     ·rw [hat]
      have hbd : BD = x.dir := by rw [← HBD.out, HKL.out]; unfold dsBad; rw [HB1.out, hat, inoAt_nat, hx]; simp
      have hin : i < n := by have := (List.getElem?_eq_some_iff.1 hx).1; have := HI5.out.1; omega
      obtain ⟨g2, off2, x', E3, m3, d3, rfl, hg2, hx', _, _, _, i1, _, _, _, _⟩ := HI5.out.get i hin
      have ex : x = x' := by rw [hx] at hx'; exact Option.some.inj hx'
      subst ex
      have q0 : decide ((i : Int) < 0) = false := by simp
      have i0 : (0 : Int) ≤ (i : Int) := by omega
      have i9 : (i : Int) < (n : Int) := by omega
      rw [← hbd] at i1
      clear hx hx' hat hbd
      cases BD
      ·have hr := HC.out
       rw [if_neg (by simp), if_neg (by simp)] at hr
       have HR2 := Lib.hid hr
       clear hr
       go_wp2_with fail
       go_roundw
       case rel => exact ⟨q + 1, by go_num, by omega, HB5.out, by
        have e : prevD s.opn (q + 1) = some y := by unfold prevD; rw [if_neg (by omega), Nat.add_sub_cancel]; exact HY.out
        rw [e]
        exact HR2.out⟩
       case measure => simp [intOf]; omega
      ·have hr := HC.out
       rw [if_pos rfl] at hr
       have HR2 := Lib.hid hr
       clear hr
       go_wp2_with fail
       go_ret
       exact ⟨Cv.ret_bool HR2.out, HB5.out⟩
  ·have : s.opn.drop q = [] := List.drop_eq_nil_of_le (by have := HDr.out.1; omega)
   rw [this, opensG] at hc
   have HC := Lib.hid hc
   have q1 : decide ((q : Int) < (m : Int)) = false := by rw [decide_eq_false_iff_not]; omega
   clear hc this
   go_wp2_with fail
   go_ret
   exact ⟨Cv.ret_bool HC.out, HB.out⟩
end Go.Proofs.YtilkhmhgjbhfnaaGreatDoor
namespace Go.Proofs.YtilkhmhgjbhfnaaGreatDoor
open Go.RowKit
theorem open1_any (a b num k : Int) (bx : Nat) (w : World) (hb : w.cell? ⟨bx, 0, .none⟩ = some (.int .i64 num)) (hlt : bx < w.heap.size) :
  Calls Tryz.prog 175 #[.agg #[.int .i64 a, .int .i64 b, .int .i64 k], .pointer (some ⟨bx, 0, .none⟩)] w fun e w' => e = .returned (.bool (k == num)) ∧ Below w.heap.size w w' := by
 obtain ⟨V2, hV2, v0, v1, v2, hal4, hlt4⟩ := box_ds w a b k
 have z := (hal4.cell (p := ⟨bx, 0, .none⟩) hlt).trans hb
 have HAL := Lib.hid hal4
 clear hal4
 go_enter Tryz.func175, Tryz.ntmps175
 go_wp2_with fail
 go_ret
 exact ⟨rfl, HAL.out⟩
set_option maxRecDepth 100000 in
set_option maxHeartbeats 4000000 in
theorem indexopen_any (xs : List Ds) (A : Option Addr) (n c : Nat) (num : Int) (bx : Nat) (w : World) (hI : DescsAt none w A n xs) (hn : n ≤ 1099511627776) (hb : w.cell? ⟨bx, 0, .none⟩ = some (.int .i64 num)) (hblt : bx < w.heap.size) :
  Calls Tryz.prog 138 #[.slice A n c, .func (.func 175) #[] #[.pointer (some ⟨bx, 0, .none⟩)]] w fun e w' => ∃ r : Int, e = .returned (.int .i64 r) ∧ Below w.heap.size w w' ∧ (openB xs num = decide (0 ≤ r)) := by
 obtain ⟨R, hR⟩ : ∃ R, openB xs num = R := ⟨_, rfl⟩
 rw [hR]
 have HI := Lib.hid hI
 have HR := Lib.hid hR
 clear hI hR
 go_enter Tryz.func138, Tryz.ntmps138
 go_wp2_with fail
 go_loopw [8] (fun j wr => ∃ q : Nat, j = .int .i64 q ∧ q ≤ n ∧ Below w.heap.size w wr ∧ openB (xs.drop q) num = R) (fun j _ => n - (intOf j).toNat)
 case atStart => exact ⟨0, rfl, by omega, Below.refl _ _, HR.out⟩
 case round =>
  obtain ⟨q, rfl, hq, hbel, hc⟩ := hrel
  have HB := Lib.hid hbel
  have HIr := Lib.hid (HI.out.below hbel)
  have hbr := (hbel.cell (p := ⟨bx, 0, .none⟩) hblt).trans hb
  have hbl : bx < wr.heap.size := Nat.lt_of_lt_of_le hblt hbel.size
  have HBR := Lib.hid hbr
  clear hbel hbr
  by_cases hlt : q < n
  ·obtain ⟨g, off, y, rfl, hg, hy, hd, hmem, e0, e1, e2⟩ := HIr.out.get q hlt
   rw [hd, openB] at hc
   have HC := Lib.hid hc
   have k0 : (0 : Int) ≤ (q : Int) := by omega
   clear hc hd hmem hy
   go_wp2_with fail
   refine (open1_any _ _ num y.num bx _ HBR.out hbl).mono ?_
   rintro e5 w5 ⟨rfl, hb5⟩
   have HB5 := Lib.hid (HB.out.trans (hb5.mono HB.out.size))
   clear hb5 e0 e1 e2
   obtain ⟨bb, hbb⟩ : ∃ bb, (y.num == num) = bb := ⟨_, rfl⟩
   rw [hbb]
   have hc := HC.out
   cases bb
   ·have hnx : ¬ y.num = num := by rw [beq_eq_false_iff_ne] at hbb; exact hbb
    rw [if_neg hnx] at hc
    have HC2 := Lib.hid hc
    clear hc hbb hnx
    go_wp2_with fail
    go_roundw
    case rel => exact ⟨q + 1, by go_num, by omega, HB5.out, HC2.out⟩
    case measure => simp [intOf]; omega
   ·have hnx : y.num = num := by rw [beq_iff_eq] at hbb; exact hbb
    rw [if_pos hnx] at hc
    have HC2 := Lib.hid hc
    clear hc hbb hnx
    go_wp2_with fail
    go_ret
    refine ⟨(q : Int), rfl, HB5.out, ?_⟩
    rw [← HC2.out, decide_eq_true (show (0 : Int) ≤ (q : Int) by omega)]
  ·have hnil : xs.drop q = [] := List.drop_eq_nil_of_le (by have := HI.out.1; omega)
   rw [hnil, openB] at hc
   have HC := Lib.hid hc
   clear hc hnil
   go_wp2_with fail
   go_ret
   exact ⟨-1, rfl, HB.out, HC.out.symm⟩
theorem containsopen_any (xs : List Ds) (A : Option Addr) (n c : Nat) (num : Int) (bx : Nat) (w : World) (hI : DescsAt none w A n xs) (hn : n ≤ 1099511627776) (hb : w.cell? ⟨bx, 0, .none⟩ = some (.int .i64 num)) (hblt : bx < w.heap.size) :
  Calls Tryz.prog 174 #[.slice A n c, .func (.func 175) #[] #[.pointer (some ⟨bx, 0, .none⟩)]] w fun e w' => e = .returned (.bool (openB xs num)) ∧ Below w.heap.size w w' := by
 go_enter Tryz.func174, Tryz.ntmps174
 go_wp2_with fail
 refine (indexopen_any xs A n c num bx w hI hn hb hblt).mono ?_
 rintro e5 w5 ⟨r, rfl, hbel, hr⟩
 by_cases h0 : 0 ≤ r
 ·have q0 : decide ((0 : Int) ≤ r) = true := decide_eq_true h0
  rw [q0] at hr
  have HR := Lib.hid hr
  clear hr
  go_wp2_with fail
  go_ret
  exact ⟨Cv.ret_bool HR.out.symm, hbel⟩
 ·have q0 : decide ((0 : Int) ≤ r) = false := decide_eq_false h0
  rw [q0] at hr
  have HR := Lib.hid hr
  clear hr
  go_wp2_with fail
  go_ret
  exact ⟨Cv.ret_bool HR.out.symm, hbel⟩
theorem misopen_any (p : Nat) (s : St) (num : Int) (w : World) (h : PtrAt w p s) :
  Calls Tryz.prog 122 #[.pointer (some ⟨p, 0, .none⟩), .int .i64 num] w fun e w' => e = .returned (.bool (openB s.opn num)) ∧ Below w.heap.size w w' := by
 obtain ⟨A, n, c, E, m, d, D, k, e, hp, c0, c1, c2, hI, hD, hM, hn, hm, _⟩ := h.val
 obtain ⟨W, hW⟩ : ∃ W, w.alloc (.cells #[.int .i64 num] 3) = W := ⟨_, rfl⟩
 have hal : Below w.heap.size w W := by rw [← hW]; exact (Below.refl _ _).alloc (Nat.le_refl _) _
 have hsz : W.heap.size = w.heap.size + 1 := by rw [← hW]; simp
 have hc : W.cell? ⟨w.heap.size, 0, .none⟩ = some (.int .i64 num) := by rw [← hW]; exact World.cell?_alloc_mark w _ _ (0, 0) _
 have x1 := (hal.cell (p := ⟨p, 1, .none⟩) hp).trans c1
 have HD := Lib.hid (hD.below hal)
 have HAL := Lib.hid hal
 have hlt : w.heap.size < W.heap.size := by omega
 have HC := Lib.hid hc
 have HLT := Lib.hid hlt
 clear hI hD hM hal c0 c2 hsz hc hlt
 go_enter Tryz.func122, Tryz.ntmps122
 go_wp2_with fail
 refine (containsopen_any s.opn E m d num w.heap.size W HD.out hm HC.out HLT.out).mono ?_
 rintro e5 w5 ⟨rfl, hbel⟩
 have HB := Lib.hid (Cv.next HAL.out hbel)
 clear hbel
 go_wp2_with fail
 go_ret
 exact ⟨rfl, HB.out⟩
theorem entsG_found (is : List Ino) : ∀ (es : List En) (p : Option ByteArray) (many : Nat → Nat), entsG is es p many = true → ∀ e ∈ es, 0 ≤ atV is e.num
 | [], _, _, _, e, he => by simp at he
 | y :: es, p, many, h, e, he => by
  unfold entsG at h
  split at h
  ·cases h
  ·rename_i hb
   split at h
   ·cases h
   ·rcases List.mem_cons.1 he with h1 | h1
    ·subst h1
     apply Classical.byContradiction
     intro hn
     exact hb (by unfold entBad; rw [decide_eq_true (show atV is e.num < 0 by omega)]; simp)
    ·exact entsG_found is es _ _ h e h1
theorem shapes_linked (is : List Ino) : ∀ (xs : List Ino), shapesM is xs = true → ∀ x ∈ xs, (x.dir = false → x.ents = []) ∧ ∀ e ∈ x.ents, 0 ≤ atV is e.num
 | [], _, x, hx => by simp at hx
 | y :: xs, h, x, hx => by
  unfold shapesM at h
  by_cases hd : y.dir = true
  ·rw [if_pos hd] at h
   split at h
   ·cases h
   ·rename_i hc
    rcases List.mem_cons.1 hx with h1 | h1
    ·subst h1
     refine ⟨fun h2 => (by rw [hd] at h2; cases h2), ?_⟩
     have : entsV is x.ents = true := by
      cases hv : entsV is x.ents
      ·exact absurd (.inr hv) hc
      ·rfl
     exact entsG_found is _ _ _ this
    ·exact shapes_linked is xs h x h1
  ·rw [if_neg hd] at h
   split at h
   ·cases h
   ·rename_i hc
    rcases List.mem_cons.1 hx with h1 | h1
    ·subst h1
     have he : x.ents = [] := by
      apply Classical.byContradiction
      intro hn
      exact hc (.inl hn)
     exact ⟨fun _ => he, by rw [he]; simp⟩
    ·exact shapes_linked is xs h x h1
theorem mInos_facts {s : St} (hm : mMadeV s = true) (h : mInosV s = true) : RiseI s.inos ∧ Linked s.inos ∧ s.inos.length ≤ 257 ∧ ∃ x0, s.inos[0]? = some x0 ∧ x0.num = 1 := by
 unfold mInosV at h
 rw [Bool.and_eq_true, Bool.and_eq_true] at h
 obtain ⟨⟨h1, h2⟩, h3⟩ := h
 unfold mMadeV at hm
 rw [Bool.and_eq_true, Bool.and_eq_true] at hm
 cases e : s.inos with
 | nil => rw [e] at h1; cases h1
 | cons x xs =>
  rw [e] at h1 h2 h3
  unfold rootB at h1
  rw [Bool.and_eq_true, decide_eq_true_eq] at h1
  refine ⟨RiseI.of_nums h2, shapes_linked _ _ h3, ?_, x, rfl, h1.1⟩
  have := nums_len s.made xs x.num hm.2 h2 (by omega)
  rw [List.length_cons]
  omega
set_option maxRecDepth 100000 in
set_option maxHeartbeats 8000000 in
theorem mmay_any (v : Value) (s : St) (w : World) (h : StAt none w v s) :
  Calls Tryz.prog 76 #[v] w fun e w' => e = .returned (.bool (mayV s)) ∧ Below w.heap.size w w' := by
 obtain ⟨⟨A, n, c, B, m, d, D, k, e, rfl, hI, hD, hM, h5, h6, h7⟩, hz⟩ := h
 obtain ⟨W, hW, b0, b1, b2, hal, hlt0⟩ := box_st w A n c B m d D k e
 obtain ⟨R, hR⟩ : ∃ R, mayV s = R := ⟨_, rfl⟩
 rw [hR]
 rw [mayV_eq] at hR
 have hrow : W.heap[w.heap.size]? = some (.cells #[.slice A n c, .slice B m d, .slice D k e] 31 (0, 0)) := by rw [← hW]; exact heap_alloc_new w _
 have hp : PtrAt W w.heap.size s := ⟨⟨A, n, c, B, m, d, D, k, e, hrow, hI.below hal, hD.below hal, hM.below hal, h5, h6, h7⟩, hz⟩
 have HP := Lib.hid hp
 have HI := Lib.hid hI
 have HAL := Lib.hid hal
 have HR := Lib.hid hR
 obtain ⟨BM, hBM⟩ : ∃ BM, mMadeV s = BM := ⟨_, rfl⟩
 obtain ⟨BI, hBI⟩ : ∃ BI, mInosV s = BI := ⟨_, rfl⟩
 obtain ⟨BO, hBO⟩ : ∃ BO, opensV s = BO := ⟨_, rfl⟩
 have HBM := Lib.hid hBM
 have HBI := Lib.hid hBI
 have HBO := Lib.hid hBO
 clear hI hD hM hz hrow hp hal hR hBM hBI hBO
 go_enter Tryz.func76, Tryz.ntmps76
 go_wp2_with fail
 refine (maymade_any w.heap.size s W HP.out).mono ?_
 rintro e1 w1 ⟨rfl, rfl⟩
 rw [HBM.out]
 cases BM
 ·have hr := HR.out
  have hbm := HBM.out
  unfold mMadeV at hbm
  rw [hbm, Bool.false_and, Bool.false_and, Bool.false_and] at hr
  have HR2 := Lib.hid hr
  clear hr hbm
  go_wp2_with fail
  go_ret
  exact ⟨Cv.ret_bool HR2.out, HAL.out⟩
 go_wp2_with fail
 refine (mayinos_any w.heap.size s W HP.out).mono ?_
 rintro e2 w2 ⟨rfl, hb2⟩
 rw [HBI.out]
 have HP2 := Lib.hid (HP.out.below hb2)
 have HB2 := Lib.hid (Cv.next HAL.out hb2)
 clear hb2
 cases BI
 ·have hr := HR.out
  have hbi := HBI.out
  unfold mInosV at hbi
  rw [hbi, Bool.and_false, Bool.false_and, Bool.false_and] at hr
  have HR2 := Lib.hid hr
  clear hr hbi
  go_wp2_with fail
  go_ret
  exact ⟨Cv.ret_bool HR2.out, HB2.out⟩
 obtain ⟨hri, hlk, hle, x0, hx0, hxn⟩ := mInos_facts HBM.out HBI.out
 have HRI := Lib.hid hri
 have HLK := Lib.hid hlk
 have HLE := Lib.hid hle
 have HX0 := Lib.hid hx0
 have HXN := Lib.hid hxn
 clear hri hlk hle hx0 hxn
 go_wp2_with fail
 refine (mayopen_any w.heap.size s _ HP2.out HRI.out).mono ?_
 rintro e3 w3 ⟨rfl, hb3⟩
 rw [HBO.out]
 have HP3 := Lib.hid (HP2.out.below hb3)
 have HB3 := Lib.hid (Cv.next HB2.out hb3)
 clear hb3
 cases BO
 ·have hr := HR.out
  rw [HBO.out, Bool.and_false, Bool.false_and] at hr
  have HR2 := Lib.hid hr
  clear hr
  go_wp2_with fail
  go_ret
  exact ⟨Cv.ret_bool HR2.out, HB3.out⟩
 have hr := HR.out
 have hbm := HBM.out
 unfold mMadeV at hbm
 have hbi := HBI.out
 unfold mInosV at hbi
 rw [hbm, hbi, HBO.out, Bool.true_and, Bool.true_and, Bool.true_and] at hr
 have HR2 := Lib.hid hr
 clear hr hbm hbi
 go_wp2_with fail
 refine (mreached_any w.heap.size s x0 _ HP3.out HRI.out HLK.out HX0.out HXN.out HLE.out).mono ?_
 rintro e4 w4 ⟨G1, G2, rfl, hnu, hfl, hb4⟩
 rw [show s.inos.length = n from HI.out.1] at hnu hfl ⊢
 have HNU := Lib.hid hnu
 have HFL := Lib.hid hfl
 have HB4 := Lib.hid (Cv.next HB3.out hb4)
 have HP4 := Lib.hid (HP3.out.below hb4)
 obtain ⟨MV, hMV⟩ : ∃ MV, manyV s.inos = MV := ⟨_, rfl⟩
 obtain ⟨FV, hFV⟩ : ∃ FV, reachV s.inos = FV := ⟨_, rfl⟩
 rw [hMV] at HNU
 rw [hFV] at HFL
 have hr := HR2.out
 rw [hMV, hFV] at hr
 have HR3 := Lib.hid hr
 have hln : s.inos.length = n := HI.out.1
 have HLN := Lib.hid hln
 clear hnu hfl hb4 hMV hFV hr HR2 HR hln
 obtain ⟨A2, n2, c2, E2, m2, d2, D2, k2, e2, hp4, p0, p1, p2, hI4, _, _, hn4, _, _⟩ := HP4.out.val
 have hn2 : n2 = n := by rw [← hI4.1]; exact HLN.out
 subst hn2
 have HI4 := Lib.hid hI4
 clear hI4 p1 p2 b0 b1 b2 h5 h6 h7
 go_wp2_with fail
 clear hW
 go_loopw [5, 24] (fun _ i wr => ∃ q : Nat, i = .int .i64 q ∧ q ≤ n2 ∧ Below w4.heap.size w4 wr ∧ finalM s (s.inos.drop q) (decide (q = 0)) (MV.drop q) (FV.drop q) = R) (fun _ i _ => n2 - (intOf i).toNat)
 case atStart => exact ⟨0, rfl, by omega, Below.refl _ _, HR3.out⟩
 case round =>
  obtain ⟨q, rfl, hq, hbel, hc⟩ := hrel
  have HBr := Lib.hid hbel
  have HIr := Lib.hid (HI4.out.below hbel)
  have hnr := (HNU.out.below hbel)
  have hfr := (HFL.out.below hbel)
  have HPr := Lib.hid (HP4.out.below hbel)
  clear hbel
  by_cases hlt : q < n2
  ·obtain ⟨g, off, x, E3, m3, d3, rfl, hg, hx, hd, hmem, e0, e1, e2, hok, hE, e3⟩ := HIr.out.get q hlt
   have k0 : (0 : Int) ≤ (q : Int) := by omega
   have k1 : (q : Int) < (n2 : Int) := by omega
   obtain ⟨V1, hV1, u0, u1, u2, u3, hal, hlt1⟩ := box_ino wr x.num x.dir E3 m3 d3 x.data
   rw [hd] at hc
   obtain ⟨m, hm⟩ : ∃ m, MV.getD q 0 = m := ⟨_, rfl⟩
   obtain ⟨f, hf⟩ : ∃ f, FV.getD q false = f := ⟨_, rfl⟩
   obtain ⟨mc, _⟩ := (hnr.below hal).get q hlt
   obtain ⟨fc, _⟩ := (hfr.below hal).get q hlt
   rw [hm] at mc
   rw [hf] at fc
   have hh1 : (MV.drop q).headD 0 = m := by rw [← hm]; simp [List.headD_eq_head?_getD, List.head?_drop]
   have hh2 : (FV.drop q).headD false = f := by rw [← hf]; simp [List.headD_eq_head?_getD, List.head?_drop]
   have ht1 : (MV.drop q).tail = MV.drop (q + 1) := by simp
   have ht2 : (FV.drop q).tail = FV.drop (q + 1) := by simp
   rw [finalM, hh1, hh2, ht1, ht2] at hc
   have HBV := Lib.hid (Cv.next HBr.out hal)
   have HPV := Lib.hid (HPr.out.below hal)
   have q9 : decide (q + 1 = 0) = false := by simp
   obtain ⟨NX, hNX⟩ : ∃ NX, finalM s (s.inos.drop (q + 1)) false (MV.drop (q + 1)) (FV.drop (q + 1)) = NX := ⟨_, rfl⟩
   rw [hNX] at hc
   have HNX := Lib.hid hNX
   have HQ9 := Lib.hid q9
   clear hd hmem hok hE hx hh1 hh2 ht1 ht2 hm hf hnr hfr hal hNX q9
   by_cases hq0 : q = 0
   ·have qe : ((q : Int) == 0) = true := by rw [beq_iff_eq]; omega
    rw [decide_eq_true hq0, if_pos rfl] at hc
    have HC := Lib.hid hc
    clear hc hq0
    go_wp2_with fail
    go_roundw
    case rel => exact ⟨q + 1, by go_num, by omega, HBV.out, by rw [HQ9.out, HNX.out]; exact HC.out⟩
    case measure => simp [intOf]; omega
   ·have qe : ((q : Int) == 0) = false := by rw [beq_eq_false_iff_ne]; omega
    rw [decide_eq_false hq0, if_neg (by simp)] at hc
    clear hq0
    obtain ⟨DX, hDX⟩ : ∃ DX, x.dir = DX := ⟨_, rfl⟩
    rw [hDX] at hc e1 u1
    have hV1' := hV1
    rw [hDX] at hV1'
    clear hV1 hDX
    cases DX
    ·cases f
     ·by_cases hm0 : 0 < m
      ·have qm : decide ((0 : Int) < (m : Int)) = true := by rw [decide_eq_true_eq]; omega
       rw [if_neg (by simp), if_pos ⟨rfl, rfl, .inl hm0⟩] at hc
       have HC := Lib.hid hc
       have hmz : ¬ m = 0 := by omega
       clear hc
       go_wp2_with fail
       go_ret
       exact ⟨Cv.ret_bool HC.out, Cv.next HB4.out HBV.out⟩
      ·obtain rfl : m = 0 := by omega
       obtain ⟨OB, hOB⟩ : ∃ OB, openB s.opn x.num = OB := ⟨_, rfl⟩
       rw [hOB] at hc
       have HC := Lib.hid hc
       have HOB := Lib.hid hOB
       clear hc hm0 hOB
       go_wp2_with fail
       refine (misopen_any w.heap.size s x.num _ HPV.out).mono ?_
       rintro e9 w9 ⟨rfl, hb9⟩
       rw [HOB.out]
       have HB9 := Lib.hid (Cv.next HBV.out hb9)
       clear hb9
       cases OB
       ·have hc : false = R := by have h := HC.out; simpa using h
        have HC2 := Lib.hid hc
        clear hc
        go_wp2_with fail
        go_ret
        exact ⟨Cv.ret_bool HC2.out, Cv.next HB4.out HB9.out⟩
       ·have hc : NX = R := by have h := HC.out; simpa using h
        have HC2 := Lib.hid hc
        clear hc
        go_wp2_with fail
        go_roundw
        case rel => exact ⟨q + 1, by go_num, by omega, HB9.out, by rw [HQ9.out, HNX.out]; exact HC2.out⟩
        case measure => simp [intOf]; omega
     ·rw [if_neg (by simp), if_neg (by simp)] at hc
      have HC := Lib.hid hc
      clear hc
      go_wp2_with fail
      go_roundw
      case rel => exact ⟨q + 1, by go_num, by omega, HBV.out, by rw [HQ9.out, HNX.out]; exact HC.out⟩
      case measure => simp [intOf]; omega
    ·by_cases hm1 : m = 1
     ·subst hm1
      cases f
      ·rw [if_pos ⟨rfl, .inr rfl⟩] at hc
       have HC := Lib.hid hc
       clear hc
       go_wp2_with fail
       go_ret
       exact ⟨Cv.ret_bool HC.out, Cv.next HB4.out HBV.out⟩
      ·rw [if_neg (by simp), if_neg (by simp)] at hc
       have HC := Lib.hid hc
       clear hc
       go_wp2_with fail
       go_roundw
       case rel => exact ⟨q + 1, by go_num, by omega, HBV.out, by rw [HQ9.out, HNX.out]; exact HC.out⟩
       case measure => simp [intOf]; omega
     ·have qm : ((m : Int) != 1) = true := by rw [bne_iff_ne]; omega
      rw [if_pos ⟨rfl, .inl hm1⟩] at hc
      have HC := Lib.hid hc
      have qm2 : (m == 1) = false := by rw [beq_eq_false_iff_ne]; exact hm1
      have qm3 : (m != 1) = true := by rw [bne_iff_ne]; exact hm1
      clear hc
      go_wp2_with fail
      go_ret
      exact ⟨Cv.ret_bool HC.out, Cv.next HB4.out HBV.out⟩
  ·have hnil : s.inos.drop q = [] := List.drop_eq_nil_of_le (by have := HIr.out.1; omega)
   rw [hnil, finalM] at hc
   have HC := Lib.hid hc
   have q1 : decide ((q : Int) < (n2 : Int)) = false := by rw [decide_eq_false_iff_not]; omega
   clear hc hnil hnr hfr
   go_wp2_with fail
   go_ret
   exact ⟨Cv.ret_bool HC.out, Cv.next HB4.out HBr.out⟩
end Go.Proofs.YtilkhmhgjbhfnaaGreatDoor
namespace Go.Proofs.YtilkhmhgjbhfnaaGreatDoor
def hP : Nat := 1099511628211
def hM : Nat := 18446744073709551616
def hQ : Nat := 14886173955864302971
def firstN : Nat := 14695981039346656037
theorem hM_eq : hM = 2 ^ 64 := by decide +kernel
theorem hM_pos : 0 < hM := by decide +kernel
theorem firstN_lt : firstN < hM := by decide +kernel
def stepN (h : Nat) (b : UInt8) : Nat := (h ^^^ b.toNat) * hP % hM
def sumN (l : List UInt8) : Nat := l.foldl stepN firstN
theorem stepN_lt (h : Nat) (b : UInt8) : stepN h b < hM := Nat.mod_lt _ hM_pos
theorem foldl_lt (l : List UInt8) : ∀ h : Nat, h < hM → l.foldl stepN h < hM := by
 induction l with
 | nil => intro h hh; exact hh
 | cons b l ih => intro h _; exact ih _ (stepN_lt h b)
theorem sumN_lt (l : List UInt8) : sumN l < hM := foldl_lt l _ firstN_lt
theorem foldl_snoc (f : Nat → UInt8 → Nat) (n : Nat) (l : List UInt8) (b : UInt8) : (l ++ [b]).foldl f n = f (l.foldl f n) b := by
 rw [List.foldl_append]; rfl
theorem sumN_snoc (l : List UInt8) (b : UInt8) : sumN (l ++ [b]) = stepN (sumN l) b := foldl_snoc stepN firstN l b
theorem sumN_nil : sumN [] = firstN := List.foldl_nil
theorem xor_lt {h : Nat} (hh : h < hM) (b : UInt8) : h ^^^ b.toNat < hM := by
 rw [hM_eq] at *
 exact Nat.xor_lt_two_pow hh (Nat.lt_of_lt_of_le b.toNat_lt (Nat.pow_le_pow_right (by omega) (by omega)))
def hexDigits : List UInt8 := [48, 49, 50, 51, 52, 53, 54, 55, 56, 57, 97, 98, 99, 100, 101, 102]
def hexDigit (x k : Nat) : UInt8 := hexDigits.getD (x / 16 ^ (15 - k) % 16) 0
def hexN (x : Nat) : List UInt8 := (List.range 16).map (hexDigit x)
theorem madeG_all : ∀ (l : List Int), madeG l = true → ∀ x ∈ l, 0 ≤ x ∧ x ≤ 32
 | [], _, x, hx => by simp at hx
 | y :: l, h, x, hx => by
  unfold madeG at h
  split at h
  ·cases h
  ·rcases List.mem_cons.1 hx with h1 | h1
   ·subst h1; omega
   ·exact madeG_all l h x h1
theorem entsG_names (is : List Ino) : ∀ (es : List En) (p : Option ByteArray) (many : Nat → Nat), entsG is es p many = true → ∀ e ∈ es, e.name.size ≤ 12
 | [], _, _, _, e, he => by simp at he
 | y :: es, p, many, h, e, he => by
  unfold entsG at h
  split at h
  ·cases h
  ·rename_i hb
   split at h
   ·cases h
   ·rcases List.mem_cons.1 he with h1 | h1
    ·subst h1
     apply Classical.byContradiction
     intro hn
     apply hb
     have hs : e.name.data.toList.length = e.name.size := Array.length_toList
     have hc : chkB e.name = 801 := by
      unfold chkB checkL
      rw [if_pos (by omega)]
     unfold entBad
     rw [hc]
     simp
    ·exact entsG_names is es _ _ h e h1
theorem shapes_more (is : List Ino) : ∀ (xs : List Ino), shapesM is xs = true → ∀ x ∈ xs, x.data.size ≤ 256 ∧ ∀ e ∈ x.ents, e.name.size ≤ 12
 | [], _, x, hx => by simp at hx
 | y :: xs, h, x, hx => by
  unfold shapesM at h
  by_cases hd : y.dir = true
  ·rw [if_pos hd] at h
   split at h
   ·cases h
   ·rename_i hc
    rcases List.mem_cons.1 hx with h1 | h1
    ·subst h1
     have : entsV is x.ents = true := by
      cases hv : entsV is x.ents
      ·exact absurd (.inr hv) hc
      ·rfl
     refine ⟨?_, entsG_names is _ _ _ this⟩
     have : x.data.size = 0 := by
      apply Classical.byContradiction
      intro hn
      exact hc (.inl hn)
     omega
    ·exact shapes_more is xs h x h1
  ·rw [if_neg hd] at h
   split at h
   ·cases h
   ·rename_i hc
    rcases List.mem_cons.1 hx with h1 | h1
    ·subst h1
     have he : x.ents = [] := by
      apply Classical.byContradiction
      intro hn
      exact hc (.inl hn)
     refine ⟨?_, by rw [he]; simp⟩
     apply Classical.byContradiction
     intro hn
     exact hc (.inr (by omega))
    ·exact shapes_more is xs h x h1
theorem mem_bulk : ∀ (is : List Ino) (x : Ino), x ∈ is → x.ents.length ≤ bulkE is
 | [], x, h => by simp at h
 | y :: is, x, h => by
  have h3 : bulkE (y :: is) = y.ents.length + bulkE is := rfl
  rcases List.mem_cons.1 h with h1 | h1
  ·subst h1; omega
  ·have := mem_bulk is x h1; omega
structure MayOk (s : St) : Prop where
 made : 1 ≤ s.made.length ∧ s.made.length ≤ 8 ∧ ∀ m ∈ s.made, 0 ≤ m ∧ m ≤ 32
 inos : 1 ≤ s.inos.length ∧ s.inos.length ≤ 257
 nums : ∀ x ∈ s.inos, 1 ≤ x.num ∧ x.num ≤ 257
 data : ∀ x ∈ s.inos, x.data.size ≤ 256 ∧ ∀ e ∈ x.ents, e.name.size ≤ 12
 linked : Linked s.inos
 rise : RiseI s.inos
theorem may_facts {s : St} (h : mayV s = true) : MayOk s := by
 rw [mayV_eq, Bool.and_eq_true, Bool.and_eq_true, Bool.and_eq_true] at h
 obtain ⟨⟨⟨h1, h2⟩, _⟩, _⟩ := h
 have hm : mMadeV s = true := h1
 have hi : mInosV s = true := h2
 obtain ⟨f1, f2, f3, x0, f4, f5⟩ := mInos_facts hm hi
 rw [Bool.and_eq_true, Bool.and_eq_true, decide_eq_true_eq, decide_eq_true_eq] at h1
 rw [Bool.and_eq_true, Bool.and_eq_true] at h2
 refine ⟨⟨h1.1.1, h1.1.2, madeG_all _ h1.2⟩, ⟨?_, f3⟩, ?_, shapes_more _ _ h2.2, f2, f1⟩
 ·have := (List.getElem?_eq_some_iff.1 f4).1
  omega
 ·cases e : s.inos with
  | nil => intro x hx; simp at hx
  | cons y ys =>
   rw [e] at f4 h2
   have hy : y = x0 := by simpa using f4
   subst hy
   obtain ⟨p1, _, p3⟩ := nums_pair s.made ys y.num h2.1.2
   intro x hx
   rcases List.mem_cons.1 hx with h3 | h3
   ·subst h3; omega
   ·have := p1 x h3
    have := given_le h1.2 (p3 x h3)
    omega
theorem MayOk.ino {s : St} (h : MayOk s) (hb : bulkE s.inos ≤ 1099511627776) (x : Ino) (hx : x ∈ s.inos) : InoOk x := by
 have h1 := h.nums x hx
 have h2 := h.data x hx
 refine ⟨by omega, by omega, by have := mem_bulk _ _ hx; omega, fun e he => ?_⟩
 have h3 := (h.linked x hx).2 e he
 have h4 := h2.2 e he
 obtain ⟨y, hy, hn⟩ := atV_lt (is := s.inos) (t := e.num) (k := (atV s.inos e.num).toNat) (by omega)
 have h5 := h.nums y (List.mem_of_getElem? hy)
 omega
end Go.Proofs.YtilkhmhgjbhfnaaGreatDoor
namespace Go.Proofs.YtilkhmhgjbhfnaaGreatDoor
open Go.RowKit
theorem setData_of {is : List Ino} {num : Int} {i : Nat} {x : Ino} (h1 : atV is num = (i : Int)) (h2 : is[i]? = some x) (d : ByteArray) : setData is num d = is.set i { x with data := d } := by
 unfold setData
 rw [h1, Int.toNat_natCast, modify_set _ _ _ _ h2]
end Go.Proofs.YtilkhmhgjbhfnaaGreatDoor
