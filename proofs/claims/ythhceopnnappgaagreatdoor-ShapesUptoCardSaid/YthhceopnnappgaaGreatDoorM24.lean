/- Parts of the proof, side by side: MoOpen, MoIsOpen. -/
import Derived.Test.YthhceopnnappgaaGreatDoorM22
import Derived.Test.YthhceopnnappgaaGreatDoorM20
import Derived.Test.YthhceopnnappgaaGreatDoorM19
set_option linter.unusedVariables false
set_option linter.unusedSimpArgs false
namespace Go.Proofs.YthhceopnnappgaaGreatDoor
open Go.RowKit
set_option maxRecDepth 100000 in
set_option maxHeartbeats 8000000 in
theorem mayopen_any (p : Nat) (s : St) (w : World) (h : PtrAt w p s) (hri : RiseI s.inos) :
  Calls Tryz.prog 53 #[.pointer (some ⟨p, 0, .none⟩)] w fun e w' => e = .returned (.bool (opensV s)) ∧ Below w.heap.size w w' := by
 obtain ⟨A, n, c, E, m, d, D, k, e, hp, c0, c1, c2, hI, hD, hM, hn, hm, hk⟩ := h.val
 obtain ⟨R, hR⟩ : ∃ R, opensV s = R := ⟨_, rfl⟩
 rw [hR]
 unfold opensV at hR
 have HR := Lib.hid hR
 have HI := Lib.hid hI
 have HD := Lib.hid hD
 have HKL := Lib.hid hM.1
 have HP := Lib.hid h
 have HRI := Lib.hid hri
 clear hR hI hD hM h
 go_enter Tryz.func53, Tryz.ntmps53
 go_wp2_with fail
 go_loopw [11] (fun i wr => ∃ q : Nat, i = .int .i64 q ∧ q ≤ m ∧ Below w.heap.size w wr ∧ opensG s.inos s.made.length (s.opn.drop q) (prevD s.opn q) = R) (fun i _ => m - (intOf i).toNat)
 case atStart => exact ⟨0, rfl, by omega, Below.refl _ _, HR.out⟩
 case round =>
  obtain ⟨q, rfl, hq, hbel, hc⟩ := hrel
  have z0 := (hbel.cell (p := ⟨p, 0, .none⟩) hp).trans c0
  have z1 := (hbel.cell (p := ⟨p, 1, .none⟩) hp).trans c1
  have z2 := (hbel.cell (p := ⟨p, 2, .none⟩) hp).trans c2
  have HB := Lib.hid hbel
  have HDr := Lib.hid (HD.out.below hbel)
  have hpr : p < wr.heap.size := Nat.lt_of_lt_of_le hp hbel.size
  clear hbel
  by_cases hlt : q < m
  ·obtain ⟨g, off, y, rfl, hg, hy, hd, hmem, e0, e1, e2⟩ := HDr.out.get q hlt
   rw [hd, opensG] at hc
   have k0 : (0 : Int) ≤ (q : Int) := by omega
   have k1 : (q : Int) < (m : Int) := by omega
   obtain ⟨BD, hBD⟩ : ∃ BD, dsBad s.inos s.made.length y = BD := ⟨_, rfl⟩
   obtain ⟨PD, hPD⟩ : ∃ PD, dsPrev (prevD s.opn q) y = PD := ⟨_, rfl⟩
   rw [hBD, hPD] at hc
   have HBD := Lib.hid hBD
   have HPD := Lib.hid hPD
   have HC := Lib.hid hc
   have HY := Lib.hid hy
   clear hc hd hmem hy hBD hPD
   obtain ⟨V2, hV2, v0, v1, v2, hal4, hlt4⟩ := box_ds wr y.core y.fd y.num
   have hbv := Cv.next HB.out hal4
   have HPV := Lib.hid (HP.out.below hbv)
   have HIV := Lib.hid (HI.out.below hbv)
   have HDV := Lib.hid (HD.out.below hbv)
   have x0 := (hal4.cell (p := ⟨p, 0, .none⟩) hpr).trans z0
   have x1 := (hal4.cell (p := ⟨p, 1, .none⟩) hpr).trans z1
   have x2 := (hal4.cell (p := ⟨p, 2, .none⟩) hpr).trans z2
   have HBV := Lib.hid hbv
   have hpv : p < V2.heap.size := Nat.lt_of_lt_of_le hpr hal4.size
   clear hal4 hbv
   go_upto_region 4 with fail
   clear hV2 z0 z1 z2 e0 e1 e2
   obtain ⟨B1, hB1⟩ : ∃ B1, (decide (y.core < 0) || decide ((k : Int) ≤ y.core) || decide (y.fd < 0) || decide (4 ≤ y.fd)) = B1 := ⟨_, rfl⟩
   have HB1 := Lib.hid hB1
   clear hB1
   go_cut [38] (fun c wx => c = .bool B1 ∧ ∃ X : Ext V2, wx = X.w)
   case first =>
    obtain ⟨D1, hD1⟩ : ∃ D1, decide (y.core < 0) = D1 := ⟨_, rfl⟩
    obtain ⟨D2, hD2⟩ : ∃ D2, decide ((k : Int) ≤ y.core) = D2 := ⟨_, rfl⟩
    obtain ⟨D3, hD3⟩ : ∃ D3, decide (y.fd < 0) = D3 := ⟨_, rfl⟩
    obtain ⟨D4, hD4⟩ : ∃ D4, decide (4 ≤ y.fd) = D4 := ⟨_, rfl⟩
    have hx : ∀ (X : Ext V2) (p : Addr), (V2.cell? p).isSome = true → X.w.cell? p = V2.cell? p := fun X p h => X.cell p h
    have hbb := HB1.out
    rw [hD1, hD2, hD3, hD4] at hbb
    have HBX := Lib.hid hbb
    clear hbb
    cases D1 <;> cases D2 <;> cases D3 <;> (
     refine wre ?_
     repeat (go_big_quiet_step (fail))
     refine wpQuiet_nil ?_
     rintro w7 ⟨X, rfl⟩
     go_wp2_with fail
     go_meet
     exact ⟨congrArg Value.bool (by rw [← HBX.out]; simp), X, rfl⟩)
   case rest =>
    obtain ⟨rfl, X, rfl⟩ := hcut
    generalize hZe : X.w = Z
    have hZ := hZe ▸ X.bel
    have HPZ := Lib.hid (HPV.out.below hZ)
    have HIZ := Lib.hid (HIV.out.below hZ)
    have HDZ := Lib.hid (HDV.out.below hZ)
    have HBZ := Lib.hid (Cv.next HBV.out hZ)
    have y0 := (hZ.cell (p := ⟨p, 0, .none⟩) hpv).trans x0
    have y1 := (hZ.cell (p := ⟨p, 1, .none⟩) hpv).trans x1
    have y2 := (hZ.cell (p := ⟨p, 2, .none⟩) hpv).trans x2
    have u0 := (hZ.cell (p := ⟨wr.heap.size, 0, .none⟩) hlt4).trans v0
    have u1 := (hZ.cell (p := ⟨wr.heap.size, 1, .none⟩) hlt4).trans v1
    have u2 := (hZ.cell (p := ⟨wr.heap.size, 2, .none⟩) hlt4).trans v2
    have hpz : p < Z.heap.size := Nat.lt_of_lt_of_le hpv hZ.size
    have hltz : wr.heap.size < Z.heap.size := Nat.lt_of_lt_of_le hlt4 hZ.size
    clear hZe hZ X x0 x1 x2 v0 v1 v2 HPV HIV HDV HBV
    cases B1
    rotate_left
    ·have hbt : BD = true := by rw [← HBD.out, HKL.out]; unfold dsBad; rw [HB1.out]; simp
     have hr := HC.out
     rw [if_pos hbt] at hr
     have HR2 := Lib.hid hr
     clear hr
     go_wp2_with fail
     go_ret
     exact ⟨Cv.ret_bool HR2.out, HBZ.out⟩
    go_upto_region 6 with fail
    go_cut [82] (fun c wx => c = .bool PD ∧ ∃ X : Ext Z, wx = X.w)
    case first =>
     have hx : ∀ (X : Ext Z) (p : Addr), (Z.cell? p).isSome = true → X.w.cell? p = Z.cell? p := fun X p h => X.cell p h
     by_cases hq0 : q = 0
     ·have hP : PD = false := by rw [← HPD.out, prevD, if_pos hq0]; rfl
      have q1 : decide ((0 : Int) < (q : Int)) = false := by rw [decide_eq_false_iff_not]; omega
      have q1n : decide (0 < q) = false := by rw [decide_eq_false_iff_not]; omega
      clear hq0
      refine wre ?_
      repeat (go_big_quiet_step (fail))
      refine wpQuiet_nil ?_
      rintro w7 ⟨X, rfl⟩
      go_wp2_with fail
      go_meet
      exact ⟨congrArg Value.bool hP.symm, X, rfl⟩
     ·obtain ⟨j, rfl⟩ : ∃ j, q = j + 1 := ⟨q - 1, by omega⟩
      obtain ⟨g3, off3, o, hA3, hg3, hy3, _, _, f0, f1, f2⟩ := HDZ.out.get j (by omega)
      injection hA3 with hA3
      injection hA3 with hA1 hA2
      subst hA1 hA2
      have q1 : decide ((0 : Int) < ((j + 1 : Nat) : Int)) = true := by rw [decide_eq_true_eq]; omega
      have q1b : decide ((0 : Int) < (j : Int) + 1) = true := by rw [decide_eq_true_eq]; omega
      have j0 : (0 : Int) ≤ (j : Int) := by omega
      have j1 : (j : Int) < (m : Int) := by omega
      have jw : IntKind.i64.wrap ((j : Int) + 1 - 1) = (j : Int) := by rw [IntKind.wrap_i64]; omega
      have hP : dsPrev (some o) y = PD := by rw [← HPD.out, prevD, if_neg (by omega), Nat.add_sub_cancel, hy3]
      obtain ⟨D1, hD1⟩ : ∃ D1, decide (y.core < o.core) = D1 := ⟨_, rfl⟩
      obtain ⟨D2, hD2⟩ : ∃ D2, (o.core == y.core) = D2 := ⟨_, rfl⟩
      obtain ⟨D3, hD3⟩ : ∃ D3, decide (y.fd ≤ o.fd) = D3 := ⟨_, rfl⟩
      unfold dsPrev at hP
      have HP2 := Lib.hid hP
      clear hP hy3 hq0
      cases D1 <;> cases D2 <;> (
       refine wre ?_
       repeat (go_big_quiet_step (fail))
       refine wpQuiet_nil ?_
       rintro w7 ⟨X, rfl⟩
       go_wp2_with fail
       go_meet
       exact ⟨congrArg Value.bool (by rw [← HP2.out]; simp_all), X, rfl⟩)
    case rest =>
     obtain ⟨rfl, X, rfl⟩ := hcut
     generalize hZe : X.w = Y
     have hZ := hZe ▸ X.bel
     have HPY := Lib.hid (HPZ.out.below hZ)
     have HIY := Lib.hid (HIZ.out.below hZ)
     have HBY := Lib.hid (Cv.next HBZ.out hZ)
     have x0 := (hZ.cell (p := ⟨p, 0, .none⟩) hpz).trans y0
     have v2 := (hZ.cell (p := ⟨wr.heap.size, 2, .none⟩) hltz).trans u2
     have hpy : p < Y.heap.size := Nat.lt_of_lt_of_le hpz hZ.size
     clear hZe hZ X y0 y1 y2 u0 u1 u2 HPZ HIZ HBZ HDZ
     cases PD
     rotate_left
     ·have hr := HC.out
      have hr2 : false = R := by
       by_cases hb : BD = true
       ·rw [if_pos hb] at hr; exact hr
       ·rw [if_neg hb, if_pos rfl] at hr; exact hr
      have HR2 := Lib.hid hr2
      clear hr hr2
      go_wp2_with fail
      go_ret
      exact ⟨Cv.ret_bool HR2.out, HBY.out⟩
     go_wp2_with fail
     refine (mfind_any p s y.num _ HPY.out HRI.out).mono ?_
     rintro e5 w5 ⟨rfl, hb5⟩
     have p0 := (hb5.cell (p := ⟨p, 0, .none⟩) hpy).trans x0
     have HI5 := Lib.hid (HIY.out.below hb5)
     have HB5 := Lib.hid (Cv.next HBY.out hb5)
     clear hb5 x0 v2
     rcases atV_cases s.inos y.num with ⟨hat, _⟩ | ⟨i, x, hat, hx, _, _⟩
     ·rw [hat]
      have hbt : BD = true := by rw [← HBD.out]; unfold dsBad; rw [hat]; simp [inoAt]
      have hr := HC.out
      rw [if_pos hbt] at hr
      have HR2 := Lib.hid hr
      clear hr hat
      go_wp2_with fail
      go_ret
      exact ⟨Cv.ret_bool HR2.out, HB5.out⟩
     ·rw [hat]
      have hbd : BD = x.dir := by rw [← HBD.out, HKL.out]; unfold dsBad; rw [HB1.out, hat, inoAt_nat, hx]; simp
      have hin : i < n := by have := (List.getElem?_eq_some_iff.1 hx).1; have := HI5.out.1; omega
      obtain ⟨g2, off2, x', E3, m3, d3, rfl, hg2, hx', _, _, _, i1, _, _, _, _⟩ := HI5.out.get i hin
      have ex : x = x' := by rw [hx] at hx'; exact Option.some.inj hx'
      subst ex
      have q0 : decide ((i : Int) < 0) = false := by simp
      have i0 : (0 : Int) ≤ (i : Int) := by omega
      have i9 : (i : Int) < (n : Int) := by omega
      rw [← hbd] at i1
      clear hx hx' hat hbd
      cases BD
      ·have hr := HC.out
       rw [if_neg (by simp), if_neg (by simp)] at hr
       have HR2 := Lib.hid hr
       clear hr
       go_wp2_with fail
       go_roundw
       case rel => exact ⟨q + 1, by go_num, by omega, HB5.out, by
        have e : prevD s.opn (q + 1) = some y := by unfold prevD; rw [if_neg (by omega), Nat.add_sub_cancel]; exact HY.out
        rw [e]
        exact HR2.out⟩
       case measure => simp [intOf]; omega
      ·have hr := HC.out
       rw [if_pos rfl] at hr
       have HR2 := Lib.hid hr
       clear hr
       go_wp2_with fail
       go_ret
       exact ⟨Cv.ret_bool HR2.out, HB5.out⟩
  ·have : s.opn.drop q = [] := List.drop_eq_nil_of_le (by have := HDr.out.1; omega)
   rw [this, opensG] at hc
   have HC := Lib.hid hc
   have q1 : decide ((q : Int) < (m : Int)) = false := by rw [decide_eq_false_iff_not]; omega
   clear hc this
   go_wp2_with fail
   go_ret
   exact ⟨Cv.ret_bool HC.out, HB.out⟩
end Go.Proofs.YthhceopnnappgaaGreatDoor
namespace Go.Proofs.YthhceopnnappgaaGreatDoor
open Go.RowKit
theorem open1_any (a b num k : Int) (bx : Nat) (w : World) (hb : w.cell? ⟨bx, 0, .none⟩ = some (.int .i64 num)) (hlt : bx < w.heap.size) :
  Calls Tryz.prog 80 #[.agg #[.int .i64 a, .int .i64 b, .int .i64 k], .pointer (some ⟨bx, 0, .none⟩)] w fun e w' => e = .returned (.bool (k == num)) ∧ Below w.heap.size w w' := by
 obtain ⟨V2, hV2, v0, v1, v2, hal4, hlt4⟩ := box_ds w a b k
 have z := (hal4.cell (p := ⟨bx, 0, .none⟩) hlt).trans hb
 have HAL := Lib.hid hal4
 clear hal4
 go_enter Tryz.func80, Tryz.ntmps80
 go_wp2_with fail
 go_ret
 exact ⟨rfl, HAL.out⟩
set_option maxRecDepth 100000 in
set_option maxHeartbeats 4000000 in
theorem indexopen_any (xs : List Ds) (A : Option Addr) (n c : Nat) (num : Int) (bx : Nat) (w : World) (hI : DescsAt none w A n xs) (hn : n ≤ 1099511627776) (hb : w.cell? ⟨bx, 0, .none⟩ = some (.int .i64 num)) (hblt : bx < w.heap.size) :
  Calls Tryz.prog 109 #[.slice A n c, .func (.func 80) #[] #[.pointer (some ⟨bx, 0, .none⟩)]] w fun e w' => ∃ r : Int, e = .returned (.int .i64 r) ∧ Below w.heap.size w w' ∧ (openB xs num = decide (0 ≤ r)) := by
 obtain ⟨R, hR⟩ : ∃ R, openB xs num = R := ⟨_, rfl⟩
 rw [hR]
 have HI := Lib.hid hI
 have HR := Lib.hid hR
 clear hI hR
 go_enter Tryz.func109, Tryz.ntmps109
 go_wp2_with fail
 go_loopw [8] (fun j wr => ∃ q : Nat, j = .int .i64 q ∧ q ≤ n ∧ Below w.heap.size w wr ∧ openB (xs.drop q) num = R) (fun j _ => n - (intOf j).toNat)
 case atStart => exact ⟨0, rfl, by omega, Below.refl _ _, HR.out⟩
 case round =>
  obtain ⟨q, rfl, hq, hbel, hc⟩ := hrel
  have HB := Lib.hid hbel
  have HIr := Lib.hid (HI.out.below hbel)
  have hbr := (hbel.cell (p := ⟨bx, 0, .none⟩) hblt).trans hb
  have hbl : bx < wr.heap.size := Nat.lt_of_lt_of_le hblt hbel.size
  have HBR := Lib.hid hbr
  clear hbel hbr
  by_cases hlt : q < n
  ·obtain ⟨g, off, y, rfl, hg, hy, hd, hmem, e0, e1, e2⟩ := HIr.out.get q hlt
   rw [hd, openB] at hc
   have HC := Lib.hid hc
   have k0 : (0 : Int) ≤ (q : Int) := by omega
   clear hc hd hmem hy
   go_wp2_with fail
   refine (open1_any _ _ num y.num bx _ HBR.out hbl).mono ?_
   rintro e5 w5 ⟨rfl, hb5⟩
   have HB5 := Lib.hid (HB.out.trans (hb5.mono HB.out.size))
   clear hb5 e0 e1 e2
   obtain ⟨bb, hbb⟩ : ∃ bb, (y.num == num) = bb := ⟨_, rfl⟩
   rw [hbb]
   have hc := HC.out
   cases bb
   ·have hnx : ¬ y.num = num := by rw [beq_eq_false_iff_ne] at hbb; exact hbb
    rw [if_neg hnx] at hc
    have HC2 := Lib.hid hc
    clear hc hbb hnx
    go_wp2_with fail
    go_roundw
    case rel => exact ⟨q + 1, by go_num, by omega, HB5.out, HC2.out⟩
    case measure => simp [intOf]; omega
   ·have hnx : y.num = num := by rw [beq_iff_eq] at hbb; exact hbb
    rw [if_pos hnx] at hc
    have HC2 := Lib.hid hc
    clear hc hbb hnx
    go_wp2_with fail
    go_ret
    refine ⟨(q : Int), rfl, HB5.out, ?_⟩
    rw [← HC2.out, decide_eq_true (show (0 : Int) ≤ (q : Int) by omega)]
  ·have hnil : xs.drop q = [] := List.drop_eq_nil_of_le (by have := HI.out.1; omega)
   rw [hnil, openB] at hc
   have HC := Lib.hid hc
   clear hc hnil
   go_wp2_with fail
   go_ret
   exact ⟨-1, rfl, HB.out, HC.out.symm⟩
theorem containsopen_any (xs : List Ds) (A : Option Addr) (n c : Nat) (num : Int) (bx : Nat) (w : World) (hI : DescsAt none w A n xs) (hn : n ≤ 1099511627776) (hb : w.cell? ⟨bx, 0, .none⟩ = some (.int .i64 num)) (hblt : bx < w.heap.size) :
  Calls Tryz.prog 79 #[.slice A n c, .func (.func 80) #[] #[.pointer (some ⟨bx, 0, .none⟩)]] w fun e w' => e = .returned (.bool (openB xs num)) ∧ Below w.heap.size w w' := by
 go_enter Tryz.func79, Tryz.ntmps79
 go_wp2_with fail
 refine (indexopen_any xs A n c num bx w hI hn hb hblt).mono ?_
 rintro e5 w5 ⟨r, rfl, hbel, hr⟩
 by_cases h0 : 0 ≤ r
 ·have q0 : decide ((0 : Int) ≤ r) = true := decide_eq_true h0
  rw [q0] at hr
  have HR := Lib.hid hr
  clear hr
  go_wp2_with fail
  go_ret
  exact ⟨Cv.ret_bool HR.out.symm, hbel⟩
 ·have q0 : decide ((0 : Int) ≤ r) = false := decide_eq_false h0
  rw [q0] at hr
  have HR := Lib.hid hr
  clear hr
  go_wp2_with fail
  go_ret
  exact ⟨Cv.ret_bool HR.out.symm, hbel⟩
theorem misopen_any (p : Nat) (s : St) (num : Int) (w : World) (h : PtrAt w p s) :
  Calls Tryz.prog 55 #[.pointer (some ⟨p, 0, .none⟩), .int .i64 num] w fun e w' => e = .returned (.bool (openB s.opn num)) ∧ Below w.heap.size w w' := by
 obtain ⟨A, n, c, E, m, d, D, k, e, hp, c0, c1, c2, hI, hD, hM, hn, hm, _⟩ := h.val
 obtain ⟨W, hW⟩ : ∃ W, w.alloc (.cells #[.int .i64 num] 3) = W := ⟨_, rfl⟩
 have hal : Below w.heap.size w W := by rw [← hW]; exact (Below.refl _ _).alloc (Nat.le_refl _) _
 have hsz : W.heap.size = w.heap.size + 1 := by rw [← hW]; simp
 have hc : W.cell? ⟨w.heap.size, 0, .none⟩ = some (.int .i64 num) := by rw [← hW]; exact World.cell?_alloc_mark w _ _ (0, 0) _
 have x1 := (hal.cell (p := ⟨p, 1, .none⟩) hp).trans c1
 have HD := Lib.hid (hD.below hal)
 have HAL := Lib.hid hal
 have hlt : w.heap.size < W.heap.size := by omega
 have HC := Lib.hid hc
 have HLT := Lib.hid hlt
 clear hI hD hM hal c0 c2 hsz hc hlt
 go_enter Tryz.func55, Tryz.ntmps55
 go_wp2_with fail
 refine (containsopen_any s.opn E m d num w.heap.size W HD.out hm HC.out HLT.out).mono ?_
 rintro e5 w5 ⟨rfl, hbel⟩
 have HB := Lib.hid (Cv.next HAL.out hbel)
 clear hbel
 go_wp2_with fail
 go_ret
 exact ⟨rfl, HB.out⟩
end Go.Proofs.YthhceopnnappgaaGreatDoor
