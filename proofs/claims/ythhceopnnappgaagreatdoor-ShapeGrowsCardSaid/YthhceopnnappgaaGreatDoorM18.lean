/- Parts of the proof, side by side: Rows0, FsBoxIno, FsOpen, FsGrab. -/
import Derived.Test.YthhceopnnappgaaGreatDoorStOwn
import Derived.Test.YthhceopnnappgaaGreatDoorFsRename
import Derived.Test.YthhceopnnappgaaGreatDoorM02
import Derived.Deep.Cut
import Derived.Deep.DeepCutAuto
import Derived.Test.YthhceopnnappgaaGreatDoorFsCopy
import Derived.Test.YthhceopnnappgaaGreatDoorM04
set_option linter.unusedVariables false
set_option linter.unusedSimpArgs false
namespace Go.Proofs.YthhceopnnappgaaGreatDoor
open Go.RowKit
theorem row_three {w : World} {b : Nat} {t : TypeId} {a0 a1 a2 : Value} (h : w.heap[b]? = some (.cells #[a0, a1, a2] t (0, 0))) (x y z : Value) : (((w.setCell ⟨b, 0, none⟩ x).setCell ⟨b, 1, none⟩ y).setCell ⟨b, 2, none⟩ z).heap[b]? = some (.cells #[x, y, z] t (0, 0)) :=
 heap_setCell_same _ b 2 _ _ z (heap_setCell_same _ b 1 _ _ y (heap_setCell_same w b 0 _ _ x h))
theorem row_far {w : World} {b g k : Nat} {u : Value} {o : Option Obj} (h : w.heap[b]? = o) (hne : b ≠ g) : (w.setCell ⟨g, k, none⟩ u).heap[b]? = o := (Below.heap_setCell w ⟨g, k, none⟩ u b hne).trans h
theorem row_past {w : World} {b : Nat} {x : Obj} {o : Option Obj} (h : w.heap[b]? = o) (hlt : b < w.heap.size) : (w.alloc x).heap[b]? = o := (heap_alloc_old w x hlt).trans h
theorem row_new (w : World) (o : Obj) (b : Nat) (hb : b = w.heap.size) : (w.alloc o).heap[b]? = some o := by subst hb; exact heap_alloc_new w o
theorem row_kept {u w5 : World} {g : Nat} {o : Obj} (hb : Below u.heap.size u w5) (h : u.heap[g]? = some o) : w5.heap[g]? = some o := (hb.block g (Array.getElem?_eq_some_iff.1 h).1).trans h
theorem al1 (w : World) (o : Obj) : (w.alloc o).drew.heap[w.heap.size]? = some o := heap_alloc_new w o
theorem al2a (w : World) (o o' : Obj) : ((w.alloc o).alloc o').drew.heap[w.heap.size]? = some o := row_past (heap_alloc_new w o) (by simp)
theorem al2b (w : World) (o o' : Obj) : ((w.alloc o).alloc o').drew.heap[w.heap.size + 1]? = some o' := row_new (w.alloc o) o' _ (by simp)
theorem row4 {w : World} {b : Nat} {a0 a1 a2 a3 : Value} (h : w.heap[b]? = some (.cells #[a0, a1, a2, a3] 52 (0, 0))) : w.cell? ⟨b, 0, none⟩ = some a0 ∧ w.cell? ⟨b, 1, none⟩ = some a1 ∧ w.cell? ⟨b, 2, none⟩ = some a2 ∧ w.cell? ⟨b, 3, none⟩ = some a3 ∧ ∀ j, w.frozen? ⟨b, j, none⟩ = false := by
 refine ⟨?_, ?_, ?_, ?_, fun j => frozen_of_row w b j _ _ h⟩ <;> (rw [cell_of_row w b _ _ _ (0, 0) h]; rfl)
theorem box_ds (w : World) (core fd num : Int) : ∃ W, w.alloc (.cells #[.int .i64 core, .int .i64 fd, .int .i64 num] 67) = W ∧ W.cell? ⟨w.heap.size, 0, .none⟩ = some (.int .i64 core) ∧ W.cell? ⟨w.heap.size, 1, .none⟩ = some (.int .i64 fd) ∧ W.cell? ⟨w.heap.size, 2, .none⟩ = some (.int .i64 num) ∧ Below w.heap.size w W ∧ w.heap.size < W.heap.size := by
 refine ⟨_, rfl, ?_, ?_, ?_, (Below.refl _ _).alloc (Nat.le_refl _) _, by simp⟩
 ·exact (World.cell?_alloc_mark w _ _ (0, 0) _).trans rfl
 ·exact (World.cell?_alloc_mark w _ _ (0, 0) _).trans rfl
 ·exact (World.cell?_alloc_mark w _ _ (0, 0) _).trans rfl
def prevD (ds : List Ds) (k : Nat) : Option Ds := if k = 0 then none else ds[k - 1]?
set_option maxRecDepth 100000 in
set_option maxHeartbeats 8000000 in
theorem opens_any (v : Value) (s : St) (w : World) (h : StAt none w v s) :
  Calls Tryz.prog 36 #[v] w fun e w' => e = .returned (.bool (opensV s)) ∧ Below w.heap.size w w' := by
 obtain ⟨⟨A, n, c, B, m, d, D, k, e, rfl, hI, hD, hM, h5, h6, h7⟩, hz⟩ := h
 obtain ⟨R, hR⟩ : ∃ R, opensV s = R := ⟨_, rfl⟩
 rw [hR]
 unfold opensV at hR
 have hbig := hz.big
 have hn := hD.1
 have hn1 := hI.1
 have hkm := hM.1
 have hm2 : m ≤ 1099511627776 := by omega
 have hn2 : n ≤ 1099511627776 := by omega
 have hk2 : k ≤ 1099511627776 := by omega
 rw [hkm] at hR
 obtain ⟨W, hW, b0, b1, b2, hal, hlt0⟩ := box_st w A n c B m d D k e
 have HS := Lib.hid ((StAt.of_parts hI hD hM h5 h6 h7 hz).below hal)
 have HI := Lib.hid (hI.below hal)
 have HD := Lib.hid (hD.below hal)
 have HAL := Lib.hid hal
 have HR := Lib.hid hR
 clear hI hD hM hz hR hal hbig hn hn1 hkm
 go_enter Tryz.func36, Tryz.ntmps36
 go_wp2_with fail
 clear hW
 go_loopw [3, 4, 5, 6] (fun i _ _ _ wr => ∃ q : Nat, i = .int .i64 q ∧ q ≤ m ∧ Below W.heap.size W wr ∧ opensG s.inos k (s.opn.drop q) (prevD s.opn q) = R) (fun i _ _ _ _ => m - (intOf i).toNat)
 case atStart => exact ⟨0, rfl, by omega, Below.refl _ _, HR.out⟩
 case round =>
  obtain ⟨q, rfl, hq, hbel, hc⟩ := hrel
  have z0 := (hbel.cell (p := ⟨w.heap.size, 0, .none⟩) hlt0).trans b0
  have z1 := (hbel.cell (p := ⟨w.heap.size, 1, .none⟩) hlt0).trans b1
  have z2 := (hbel.cell (p := ⟨w.heap.size, 2, .none⟩) hlt0).trans b2
  have HB := Lib.hid hbel
  have HDr := Lib.hid (HD.out.below hbel)
  clear hbel b0 b1 b2
  by_cases hlt : q < m
  ·obtain ⟨g, off, y, rfl, hg, hy, hd, hmem, e0, e1, e2⟩ := HDr.out.get q hlt
   rw [hd, opensG] at hc
   have k0 : (0 : Int) ≤ (q : Int) := by omega
   have k1 : (q : Int) < (m : Int) := by omega
   obtain ⟨BD, hBD⟩ : ∃ BD, dsBad s.inos k y = BD := ⟨_, rfl⟩
   obtain ⟨PD, hPD⟩ : ∃ PD, dsPrev (prevD s.opn q) y = PD := ⟨_, rfl⟩
   rw [hBD, hPD] at hc
   have HBD := Lib.hid hBD
   have HPD := Lib.hid hPD
   have HC := Lib.hid hc
   have HY := Lib.hid hy
   clear hc hd hmem hy hBD hPD
   obtain ⟨V2, hV2, v0, v1, v2, hal4, hlt4⟩ := box_ds wr y.core y.fd y.num
   have hbv := Cv.next HB.out hal4
   have HSV := Lib.hid (HS.out.below hbv)
   have HIV := Lib.hid (HI.out.below hbv)
   have HDV := Lib.hid (HD.out.below hbv)
   have x0 := (hal4.cell (p := ⟨w.heap.size, 0, .none⟩) (Nat.lt_of_lt_of_le hlt0 HB.out.size)).trans z0
   have x1 := (hal4.cell (p := ⟨w.heap.size, 1, .none⟩) (Nat.lt_of_lt_of_le hlt0 HB.out.size)).trans z1
   have x2 := (hal4.cell (p := ⟨w.heap.size, 2, .none⟩) (Nat.lt_of_lt_of_le hlt0 HB.out.size)).trans z2
   have HBV := Lib.hid hbv
   clear hal4 hbv
   go_wp2_with fail
   refine (at_any _ s y.num _ HSV.out).mono ?_
   rintro e5 w5 ⟨rfl, hb5⟩
   have p0 := (hb5.cell (p := ⟨w.heap.size, 0, .none⟩) (Nat.lt_of_lt_of_le hlt0 HBV.out.size)).trans x0
   have p1 := (hb5.cell (p := ⟨w.heap.size, 1, .none⟩) (Nat.lt_of_lt_of_le hlt0 HBV.out.size)).trans x1
   have p2 := (hb5.cell (p := ⟨w.heap.size, 2, .none⟩) (Nat.lt_of_lt_of_le hlt0 HBV.out.size)).trans x2
   have d0 := (hb5.cell (p := ⟨wr.heap.size, 0, .none⟩) hlt4).trans v0
   have d1 := (hb5.cell (p := ⟨wr.heap.size, 1, .none⟩) hlt4).trans v1
   have d2 := (hb5.cell (p := ⟨wr.heap.size, 2, .none⟩) hlt4).trans v2
   have HI5 := Lib.hid (HIV.out.below hb5)
   have HD5 := Lib.hid (HDV.out.below hb5)
   have HB5 := Lib.hid (Cv.next HBV.out hb5)
   have hl5 : wr.heap.size < w5.heap.size := Nat.lt_of_lt_of_le hlt4 hb5.size
   clear hb5 x0 x1 x2 v0 v1 v2 z0 z1 z2 e0 e1 e2 hV2
   obtain ⟨T, hT⟩ : ∃ T, atV s.inos y.num = T := ⟨_, rfl⟩
   rw [hT]
   have HT := Lib.hid hT
   clear hT
   go_upto_region 6 with fail
   go_cut [55] (fun c wx => c = .bool BD ∧ w5 = wx)
   case first =>
    by_cases c1 : y.core < 0
    ·go_wp2_with fail
     go_meet
     exact ⟨congrArg Value.bool (by rw [← HBD.out]; unfold dsBad; simp [c1]), rfl⟩
    by_cases c2 : (k : Int) ≤ y.core
    ·go_wp2_with fail
     go_meet
     exact ⟨congrArg Value.bool (by rw [← HBD.out]; unfold dsBad; simp [c2]), rfl⟩
    by_cases c3 : y.fd < 0
    ·go_wp2_with fail
     go_meet
     exact ⟨congrArg Value.bool (by rw [← HBD.out]; unfold dsBad; simp [c3]), rfl⟩
    by_cases c4 : 4 ≤ y.fd
    ·go_wp2_with fail
     go_meet
     exact ⟨congrArg Value.bool (by rw [← HBD.out]; unfold dsBad; simp [c4]), rfl⟩
    rcases atV_cases s.inos y.num with ⟨hat, _⟩ | ⟨i, x, hat, hx, _, _⟩
    ·have ht : T = -1 := by rw [← HT.out]; exact hat
     subst ht
     go_wp2_with fail
     go_meet
     exact ⟨congrArg Value.bool (by rw [← HBD.out]; unfold dsBad; rw [hat]; simp [inoAt]), rfl⟩
    ·have ht : T = (i : Int) := by rw [← HT.out]; exact hat
     subst ht
     have hin : i < n := by have := (List.getElem?_eq_some_iff.1 hx).1; have := HI5.out.1; omega
     obtain ⟨g2, off2, x', E, m3, d3, rfl, hg2, hx', _, _, _, i1, _, _, _, _⟩ := HI5.out.get i hin
     have ex : x = x' := by rw [hx] at hx'; exact Option.some.inj hx'
     subst ex
     have q0 : decide ((i : Int) < 0) = false := by simp
     have i0 : (0 : Int) ≤ (i : Int) := by omega
     have i9 : (i : Int) < (n : Int) := by omega
     have HX := Lib.hid hx
     have HA2 := Lib.hid hat
     clear hx hx' hat
     go_wp2_with fail
     go_meet
     exact ⟨congrArg Value.bool (by rw [← HBD.out]; unfold dsBad; rw [HA2.out, inoAt_nat, HX.out]; simp; intro hh; exfalso; omega), rfl⟩
   case rest =>
    obtain ⟨rfl, rfl⟩ := hcut
    cases BD
    rotate_left
    ·have hr := HC.out
     rw [if_pos rfl] at hr
     have HR2 := Lib.hid hr
     clear hr
     go_wp2_with fail
     go_ret
     exact ⟨Cv.ret_bool HR2.out, Cv.next HAL.out HB5.out⟩
    ·have hr := HC.out
     rw [if_neg (by simp)] at hr
     have HR2 := Lib.hid hr
     clear hr
     by_cases hq0 : q = 0
     ·have hP : PD = false := by rw [← HPD.out, prevD, if_pos hq0]; rfl
      subst hP
      have q1 : decide ((0 : Int) < (q : Int)) = false := by simp; omega
      have hr := HR2.out
      rw [if_neg (by simp)] at hr
      have HR3 := Lib.hid hr
      clear hr
      go_wp2_with fail
      go_roundw
      case rel => exact ⟨q + 1, by go_num, by omega, HB5.out, by
       have e : prevD s.opn (q + 1) = some y := by unfold prevD; rw [if_neg (by omega), Nat.add_sub_cancel]; exact HY.out
       rw [e]
       exact HR3.out⟩
      case measure => simp [intOf]; omega
     ·obtain ⟨j, rfl⟩ : ∃ j, q = j + 1 := ⟨q - 1, by omega⟩
      obtain ⟨g3, off3, o, hA3, hg3, hy3, _, _, f0, f1, f2⟩ := HD5.out.get j (by omega)
      injection hA3 with hA3
      injection hA3 with hA1 hA2
      subst hA1 hA2
      have q1 : decide ((0 : Int) < ((j + 1 : Nat) : Int)) = true := by rw [decide_eq_true_eq]; omega
      have q1b : decide ((0 : Int) < (j : Int) + 1) = true := by rw [decide_eq_true_eq]; omega
      have j0 : (0 : Int) ≤ (j : Int) := by omega
      have j1 : (j : Int) < (m : Int) := by omega
      have jw : IntKind.i64.wrap ((j : Int) + 1 - 1) = (j : Int) := by rw [IntKind.wrap_i64]; omega
      have hP : PD = dsPrev (some o) y := by rw [← HPD.out, prevD, if_neg (by omega), Nat.add_sub_cancel, hy3]
      have HP := Lib.hid hP
      obtain ⟨V3, hV3, o0, o1, o2, hal6, hlt6⟩ := box_ds w5 o.core o.fd o.num
      have r0 := (hal6.cell (p := ⟨wr.heap.size, 0, .none⟩) hl5).trans d0
      have r1 := (hal6.cell (p := ⟨wr.heap.size, 1, .none⟩) hl5).trans d1
      have HB6 := Lib.hid (Cv.next HB5.out hal6)
      clear hal6 hP hy3 hq0
      go_upto_region 10 with fail
      clear hV3 d0 d1 d2 p0 p1 p2 f0 f1 f2 hg3
      go_cut [82] (fun c wx => c = .bool PD ∧ V3 = wx)
      case first =>
       by_cases c1 : y.core < o.core
       ·go_wp2_with fail
        go_meet
        exact ⟨congrArg Value.bool (by rw [HP.out]; unfold dsPrev; simp [c1]), rfl⟩
       by_cases c2 : o.core = y.core
       ·have qc : (o.core == y.core) = true := by rw [c2]; exact beq_self_eq_true _
        have HC2 := Lib.hid c2
        have q9 : decide (y.core < o.core) = false := by simp; omega
        clear c2
        go_wp2_with fail
        go_meet
        exact ⟨congrArg Value.bool (by rw [HP.out]; unfold dsPrev; simp [HC2.out]), rfl⟩
       ·have qc : (o.core == y.core) = false := by rw [beq_eq_false_iff_ne]; exact c2
        go_wp2_with fail
        go_meet
        exact ⟨congrArg Value.bool (by rw [HP.out]; unfold dsPrev; simp [c1, c2]), rfl⟩
      case rest =>
       obtain ⟨rfl, rfl⟩ := hcut
       cases PD
       rotate_left
       ·have hr := HR2.out
        rw [if_pos rfl] at hr
        have HR3 := Lib.hid hr
        clear hr
        go_wp2_with fail
        go_ret
        exact ⟨Cv.ret_bool HR3.out, Cv.next HAL.out HB6.out⟩
       ·have hr := HR2.out
        rw [if_neg (by simp)] at hr
        have HR3 := Lib.hid hr
        clear hr
        go_wp2_with fail
        go_roundw
        case rel => exact ⟨j + 1 + 1, by go_num, by omega, HB6.out, by
         have e : prevD s.opn (j + 1 + 1) = some y := by unfold prevD; rw [if_neg (by omega), Nat.add_sub_cancel]; exact HY.out
         rw [e]
         exact HR3.out⟩
        case measure => simp [intOf]; omega
  ·have : s.opn.drop q = [] := List.drop_eq_nil_of_le (by have := HDr.out.1; omega)
   rw [this, opensG] at hc
   have HC := Lib.hid hc
   clear hc this
   go_wp2_with fail
   go_ret
   exact ⟨Cv.ret_bool HC.out, Cv.next HAL.out HB.out⟩
def putDR (ds : List Ds) (y : Ds) (done : Bool) : List Ds := if done then ds else putD ds y
def dsLt (y d : Ds) : Bool := decide (y.core < d.core) || (decide (d.core = y.core) && decide (y.fd < d.fd))
theorem putD_cons (d : Ds) (ds : List Ds) (y : Ds) : putD (d :: ds) y = if dsLt y d = true then y :: d :: ds else d :: putD ds y := by
 show (if y.core < d.core ∨ (d.core = y.core ∧ y.fd < d.fd) then y :: d :: ds else d :: putD ds y) = _
 unfold dsLt
 by_cases h1 : y.core < d.core <;> by_cases h2 : d.core = y.core <;> by_cases h3 : y.fd < d.fd <;> simp [h1, h2, h3]
set_option maxRecDepth 100000 in
set_option maxHeartbeats 8000000 in
theorem grab_any (B p : Nat) (s : St) (core fd num : Int) (w : World) (h : Own B w p s) (hB : B ≤ w.heap.size) (hz : Sized { s with opn := putD s.opn ⟨core, fd, num⟩ }) :
  Calls Tryz.prog 91 #[.pointer (some ⟨p, 0, .none⟩), .int .i64 core, .int .i64 fd, .int .i64 num] w fun e w' => e = .returned (.tuple #[]) ∧ Own B w' p { s with opn := putD s.opn ⟨core, fd, num⟩ } ∧ Below B w w' ∧ Aside p w w' := by
 obtain ⟨A, n, c, E, m, d, D, k, e, hBp, hp, c0, c1, c2, fz, hst, hI, hD, hM⟩ := h.val
 have hbig := h.sized.big
 have hdl := hD.1
 have hm2 : m ≤ 1099511627776 := by omega
 obtain ⟨RR, hRR⟩ : ∃ RR, putD s.opn ⟨core, fd, num⟩ = RR := ⟨_, rfl⟩
 obtain ⟨Z, hZ, u0, u1, u2, hal, hlt0⟩ := box_ds w core fd num
 obtain ⟨i1, hi1, hq0, hq1, hq2⟩ := info_parts infoDs
 have z1 := (hal.cell (p := ⟨p, 1, .none⟩) hp).trans c1
 have HO := Lib.hid h
 have HZB := Lib.hid hal
 have HC1 := Lib.hid c1
 have HFZ := Lib.hid (fz 1)
 have HRR := Lib.hid hRR
 have HZS := Lib.hid hz
 have HD := Lib.hid (hD.below hal)
 have hpZ : p < Z.heap.size := Nat.lt_of_lt_of_le hp hal.size
 have HZe := Lib.hid hZ
 clear h hst hI hD hM hz hbig hdl hRR hal c0 c1 c2 fz hZ
 go_enter Tryz.func91, Tryz.ntmps91
 go_wp2_with fail
 rw [HZe.out]
 go_loopw [9, 10, 11, 12] (fun o b j _ wr => ∃ (q : Nat) (done : Bool) (V : Value) (ds : List Ds), V = o ∧ b = .bool done ∧ j = .int .i64 q ∧ q ≤ m ∧ wr.ownsRow Z.heap.size 67 3 V ds.length (ds.flatMap dsV) ∧ Below Z.heap.size Z wr ∧ ds ++ putDR (s.opn.drop q) ⟨core, fd, num⟩ done = RR ∧ ds.length ≤ 2 * q + 1) (fun _ _ j _ _ => m - (intOf j).toNat)
 case atStart => exact ⟨0, false, _, [], rfl, rfl, rfl, by omega, World.ownsRow_nil _ _ _ _, Below.refl _ _, HRR.out, by simp⟩
 case round =>
  obtain ⟨q, done, V, ds, hV, rfl, rfl, hq, hrow, hbel, hc, hlen⟩ := hrel
  subst hV
  have y1 := (hbel.cell (p := ⟨p, 1, .none⟩) hpZ).trans z1
  have x0 := (hbel.cell (p := ⟨w.heap.size, 0, .none⟩) hlt0).trans u0
  have x1 := (hbel.cell (p := ⟨w.heap.size, 1, .none⟩) hlt0).trans u1
  have x2 := (hbel.cell (p := ⟨w.heap.size, 2, .none⟩) hlt0).trans u2
  have HDr := Lib.hid (HD.out.below hbel)
  have HB := Lib.hid hbel
  obtain ⟨L, hL⟩ : ∃ L, ds.length = L := ⟨_, rfl⟩
  rw [hL] at hrow
  have hll : L ≤ 2199023255553 := by omega
  have hlq : L ≤ 2 * q + 1 := by omega
  have HL := Lib.hid hL
  have HR2 := Lib.hid hrow
  clear hrow hbel hL hlen
  by_cases hlt : q < m
  ·obtain ⟨g2, off2, y, rfl, hg2, hy, hdr, _, e0, e1, e2⟩ := HDr.out.get q hlt
   rw [hdr] at hc
   have k0 : (0 : Int) ≤ (q : Int) := by omega
   have k1 : (q : Int) < (m : Int) := by omega
   obtain ⟨V2, hV2, v0, v1, v2, hal4, hlt4⟩ := box_ds wr y.core y.fd y.num
   have hbv := HB.out.trans (hal4.mono HB.out.size)
   have w0 := (hbv.cell (p := ⟨w.heap.size, 0, .none⟩) hlt0).trans u0
   have w1 := (hbv.cell (p := ⟨w.heap.size, 1, .none⟩) hlt0).trans u1
   have w2 := (hbv.cell (p := ⟨w.heap.size, 2, .none⟩) hlt0).trans u2
   have HB4 := Lib.hid hbv
   have HR4 := Lib.hid (row_below HR2.out hal4)
   obtain ⟨LT, hLT⟩ : ∃ LT, dsLt ⟨core, fd, num⟩ y = LT := ⟨_, rfl⟩
   have HLT := Lib.hid hLT
   clear hdr hy hal4 hbv hLT
   go_upto_region 7 with fail
   clear hV2 x0 x1 x2 e0 e1 e2 y1
   go_cut [52] (fun c wx => c = .bool (!done && LT) ∧ V2 = wx)
   case first =>
    cases done
    ·by_cases a1 : core < y.core
     ·have hb : LT = true := by rw [← HLT.out]; unfold dsLt; simp [a1]
      go_wp2_with fail
      go_meet
      exact ⟨congrArg Value.bool (by rw [hb]; rfl), rfl⟩
     ·have qa : decide (core < y.core) = false := by rw [decide_eq_false_iff_not]; exact a1
      by_cases a2 : y.core = core
      ·have qb : (y.core == core) = true := by rw [a2]; exact beq_self_eq_true _
       have HA2 := Lib.hid a2
       have HA1 := Lib.hid a1
       clear a2 a1
       go_wp2_with fail
       go_meet
       exact ⟨congrArg Value.bool (by rw [← HLT.out]; unfold dsLt; simp [HA2.out]), rfl⟩
      ·have qb : (y.core == core) = false := by rw [beq_eq_false_iff_ne]; exact a2
       have hb : LT = false := by rw [← HLT.out]; unfold dsLt; simp [a2]; omega
       go_wp2_with fail
       go_meet
       exact ⟨congrArg Value.bool (by rw [hb]; rfl), rfl⟩
    ·go_wp2_with fail
     go_meet
     exact ⟨rfl, rfl⟩
   case rest =>
    obtain ⟨rfl, rfl⟩ := hcut
    cases done
    ·have hstep : ds ++ (if dsLt ⟨core, fd, num⟩ y = true then (⟨core, fd, num⟩ : Ds) :: y :: s.opn.drop (q + 1) else y :: putD (s.opn.drop (q + 1)) ⟨core, fd, num⟩) = RR := by rw [← putD_cons]; exact hc
     rw [HLT.out] at hstep
     cases LT
     ·have HC := Lib.hid (show ds ++ (y :: putD (s.opn.drop (q + 1)) ⟨core, fd, num⟩) = RR from hstep)
      clear hc hstep
      go_wp2_with (at_builtin; refine wpList_append_own _ rfl _ _ 23 rfl Z.heap.size 67 i1 (.agg #[.int .i64 0, .int .i64 0, .int .i64 0]) 3 24 Tryz.underlying23 hi1 hq0 hq1 hq2 rfl (by decide) _ L _ rfl (HR4.out.alloc _) ⟨V2.heap.size, 0, .none⟩ 1 1 [.int .i64 y.core, .int .i64 y.fd, .int .i64 y.num] rfl rfl (new_four V2 [.int .i64 y.core, .int .i64 y.fd, .int .i64 y.num] _) ?ca2 ?ca3 ?ca4 ?ca5 ?_)
      case ca2 => first | (intro u hu; simp at hu; rcases hu with rfl | rfl | rfl <;> rfl) | (simp; done) | exact ⟨rfl, rfl, rfl⟩
      case ca3 => unfold maxLen; omega
      case ca4 => omega
      case ca5 => have := HB4.out.size; first | omega | (simp; omega)
      intro v7 w7 hown hgrow _
      have hbel : Below Z.heap.size Z w7 := (HB4.out.alloc (by have := HB4.out.size; simpa using this) _).grown hgrow (by have := HB4.out.size; simp; omega) (fun k hk => (HR4.out.lt k hk).1)
      obtain ⟨A_v7, c_v7, hv9, _, _, _⟩ := row_any hown (by decide)
      subst hv9
      have HO7 := Lib.hid hown
      have HB7 := Lib.hid hbel
      clear hown hgrow hbel
      go_wp2_with fail
      go_roundw
      case rel => exact ⟨q + 1, false, _, ds ++ [y], rfl, rfl, by go_num, by omega, by rw [List.length_append, HL.out, List.flatMap_append]; exact HO7.out, HB7.out, by rw [List.append_assoc]; exact HC.out, by rw [List.length_append, HL.out]; simp; omega⟩
      case measure => simp [intOf]; omega
     ·have HC := Lib.hid (show ds ++ ((⟨core, fd, num⟩ : Ds) :: y :: s.opn.drop (q + 1)) = RR from hstep)
      clear hc hstep
      go_wp2_with (at_builtin; refine wpList_append_own _ rfl _ _ 23 rfl Z.heap.size 67 i1 (.agg #[.int .i64 0, .int .i64 0, .int .i64 0]) 3 24 Tryz.underlying23 hi1 hq0 hq1 hq2 rfl (by decide) _ L _ rfl (HR4.out.alloc _) ⟨V2.heap.size, 0, .none⟩ 1 1 [.int .i64 core, .int .i64 fd, .int .i64 num] rfl rfl (new_four V2 [.int .i64 core, .int .i64 fd, .int .i64 num] _) ?ca2 ?ca3 ?ca4 ?ca5 ?_)
      case ca2 => first | (intro u hu; simp at hu; rcases hu with rfl | rfl | rfl <;> rfl) | (simp; done) | exact ⟨rfl, rfl, rfl⟩
      case ca3 => unfold maxLen; omega
      case ca4 => omega
      case ca5 => have := HB4.out.size; first | omega | (simp; omega)
      intro v7 w7 hown hgrow _
      have hbel : Below Z.heap.size Z w7 := (HB4.out.alloc (by have := HB4.out.size; simpa using this) _).grown hgrow (by have := HB4.out.size; simp; omega) (fun k hk => (HR4.out.lt k hk).1)
      obtain ⟨A_v7, c_v7, hv9, _, _, _⟩ := row_any hown (by decide)
      subst hv9
      have HO7 := Lib.hid hown
      have HB7 := Lib.hid hbel
      have hblk : w7.heap[wr.heap.size]? = V2.heap[wr.heap.size]? := by
       rw [hgrow.block _ (by simp; omega) (fun e => by have := (HR2.out.lt _ e.symm).2; omega), Below.heap_alloc _ _ _ hlt4]
      have o0 := (cell_same hblk 0).trans v0
      have o1 := (cell_same hblk 1).trans v1
      have o2 := (cell_same hblk 2).trans v2
      clear hown hgrow hbel hblk w0 w1 w2 v0 v1 v2
      go_wp2_with (at_builtin; refine wpList_append_own _ rfl _ _ 23 rfl Z.heap.size 67 i1 (.agg #[.int .i64 0, .int .i64 0, .int .i64 0]) 3 24 Tryz.underlying23 hi1 hq0 hq1 hq2 rfl (by decide) _ (L + 1) _ rfl (HO7.out.alloc _) ⟨w7.heap.size, 0, .none⟩ 1 1 [.int .i64 y.core, .int .i64 y.fd, .int .i64 y.num] rfl rfl (new_four w7 [.int .i64 y.core, .int .i64 y.fd, .int .i64 y.num] _) ?ca2 ?ca3 ?ca4 ?ca5 ?_)
      case ca2 => first | (intro u hu; simp at hu; rcases hu with rfl | rfl | rfl <;> rfl) | (simp; done) | exact ⟨rfl, rfl, rfl⟩
      case ca3 => unfold maxLen; omega
      case ca4 => omega
      case ca5 => have := HB7.out.size; first | omega | (simp; omega)
      intro v8 w8 hown hgrow _
      have hbel : Below Z.heap.size Z w8 := (HB7.out.alloc (by have := HB7.out.size; simpa using this) _).grown hgrow (by have := HB7.out.size; simp; omega) (fun k hk => (HO7.out.lt k hk).1)
      obtain ⟨A_v8, c_v8, hv9, _, _, _⟩ := row_any hown (by decide)
      subst hv9
      have HO8 := Lib.hid hown
      have HB8 := Lib.hid hbel
      clear hown hgrow hbel
      go_wp2_with fail
      go_roundw
      case rel => exact ⟨q + 1, true, _, ds ++ [⟨core, fd, num⟩] ++ [y], rfl, rfl, by go_num, by omega, by
       rw [List.length_append, List.length_append, HL.out, List.flatMap_append, List.flatMap_append, List.append_assoc]
       exact HO8.out, HB8.out, by rw [List.append_assoc, List.append_assoc]; exact HC.out, by rw [List.length_append, List.length_append, HL.out]; simp; omega⟩
      case measure => simp [intOf]; omega
    ·have HC := Lib.hid (show ds ++ (y :: s.opn.drop (q + 1)) = RR from hc)
     simp only [Bool.not_true, Bool.false_and]
     clear hc
     go_wp2_with (at_builtin; refine wpList_append_own _ rfl _ _ 23 rfl Z.heap.size 67 i1 (.agg #[.int .i64 0, .int .i64 0, .int .i64 0]) 3 24 Tryz.underlying23 hi1 hq0 hq1 hq2 rfl (by decide) _ L _ rfl (HR4.out.alloc _) ⟨V2.heap.size, 0, .none⟩ 1 1 [.int .i64 y.core, .int .i64 y.fd, .int .i64 y.num] rfl rfl (new_four V2 [.int .i64 y.core, .int .i64 y.fd, .int .i64 y.num] _) ?ca2 ?ca3 ?ca4 ?ca5 ?_)
     case ca2 => first | (intro u hu; simp at hu; rcases hu with rfl | rfl | rfl <;> rfl) | (simp; done) | exact ⟨rfl, rfl, rfl⟩
     case ca3 => unfold maxLen; omega
     case ca4 => omega
     case ca5 => have := HB4.out.size; first | omega | (simp; omega)
     intro v7 w7 hown hgrow _
     have hbel : Below Z.heap.size Z w7 := (HB4.out.alloc (by have := HB4.out.size; simpa using this) _).grown hgrow (by have := HB4.out.size; simp; omega) (fun k hk => (HR4.out.lt k hk).1)
     obtain ⟨A_v7, c_v7, hv9, _, _, _⟩ := row_any hown (by decide)
     subst hv9
     have HO7 := Lib.hid hown
     have HB7 := Lib.hid hbel
     clear hown hgrow hbel
     go_wp2_with fail
     go_roundw
     case rel => exact ⟨q + 1, true, _, ds ++ [y], rfl, rfl, by go_num, by omega, by rw [List.length_append, HL.out, List.flatMap_append]; exact HO7.out, HB7.out, by rw [List.append_assoc]; exact HC.out, by rw [List.length_append, HL.out]; simp; omega⟩
     case measure => simp [intOf]; omega
  ·have hnil : s.opn.drop q = [] := List.drop_eq_nil_of_le (by have := HD.out.1; omega)
   rw [hnil] at hc
   cases done
   ·have HC := Lib.hid (show ds ++ [(⟨core, fd, num⟩ : Ds)] = RR from hc)
    clear hc hnil
    go_wp2_with (at_builtin; refine wpList_append_own _ rfl _ _ 23 rfl Z.heap.size 67 i1 (.agg #[.int .i64 0, .int .i64 0, .int .i64 0]) 3 24 Tryz.underlying23 hi1 hq0 hq1 hq2 rfl (by decide) _ L _ rfl (HR2.out.alloc _) ⟨wr.heap.size, 0, .none⟩ 1 1 [.int .i64 core, .int .i64 fd, .int .i64 num] rfl rfl (new_four wr [.int .i64 core, .int .i64 fd, .int .i64 num] _) ?ca2 ?ca3 ?ca4 ?ca5 ?_)
    case ca2 => first | (intro u hu; simp at hu; rcases hu with rfl | rfl | rfl <;> rfl) | (simp; done) | exact ⟨rfl, rfl, rfl⟩
    case ca3 => unfold maxLen; omega
    case ca4 => omega
    case ca5 => have := HB.out.size; first | omega | (simp; omega)
    intro v7 w7 hown hgrow _
    have hbel : Below Z.heap.size Z w7 := (HB.out.alloc (by have := HB.out.size; simpa using this) _).grown hgrow (by have := HB.out.size; simp; omega) (fun k hk => (HR2.out.lt k hk).1)
    obtain ⟨A_v7, c_v7, hv9, _, _, _⟩ := row_any hown (by decide)
    subst hv9
    have HO7 := Lib.hid hown
    have HB7 := Lib.hid hbel
    clear hown hgrow hbel
    obtain ⟨AV, cV, hv, hcV, hnV, hDV⟩ := DescsAt.of_row (B := Z.heap.size) (n := (L + 1)) (ds := (ds ++ [⟨core, fd, num⟩])) (w := w7) (v := (.slice A_v7 (L + 1) c_v7)) (by rw [List.flatMap_append]; exact HO7.out)
    injection hv with e1 e2 e3
    subst e1 e3
    rw [HC.out] at hDV
    have hbw := Cv.next HZB.out HB7.out
    have pf := (hbw.frozen (p := ⟨p, 1, .none⟩) hp).trans HFZ.out
    have pp := (hbw.cell (p := ⟨p, 1, .none⟩) hp).trans HC1.out
    have hown7 := (HO.out.below hbw).setOpn (ds := RR) (hDV.mono (by have := HZB.out.size; omega)) ⟨hcV, fun e => (hnV e).2⟩ (by rw [← HRR.out]; exact HZS.out)
    obtain ⟨_, _, _, _, _, _, _, _, _, _, hpb, _⟩ := (HO.out.below hbw).at_
    have HOWN := Lib.hid hown7
    have HBF : Hid (Below B w (World.setCell w7 ⟨p, 1, .none⟩ (.slice A_v7 (L + 1) c_v7))) := Lib.hid ((hbw.mono hB).setCell (by exact hBp) _)
    have HAS : Hid (Aside p w (World.setCell w7 ⟨p, 1, .none⟩ (.slice A_v7 (L + 1) c_v7))) := Lib.hid ((Aside.below hbw).trans (Aside.set hpb (.inr (.inr rfl))))
    clear hcV hnV hDV hbw hown7 hpb
    go_wp2_with fail
    go_returns
    rw [HRR.out]
    exact ⟨rfl, HOWN.out, HBF.out, HAS.out⟩
   ·have HC := Lib.hid (show ds ++ [] = RR from hc)
    clear hc hnil
    obtain ⟨AV, cV, hv, hcV, hnV, hDV⟩ := DescsAt.of_row (B := Z.heap.size) (n := L) (ds := ds) (w := wr) (v := V) (by exact HR2.out)
    subst hv
    rw [show ds = RR by rw [← HC.out, List.append_nil]] at hDV
    have hbw := Cv.next HZB.out HB.out
    have pf := (hbw.frozen (p := ⟨p, 1, .none⟩) hp).trans HFZ.out
    have pp := (hbw.cell (p := ⟨p, 1, .none⟩) hp).trans HC1.out
    have hown7 := (HO.out.below hbw).setOpn (ds := RR) (hDV.mono (by have := HZB.out.size; omega)) ⟨hcV, fun e => (hnV e).2⟩ (by rw [← HRR.out]; exact HZS.out)
    obtain ⟨_, _, _, _, _, _, _, _, _, _, hpb, _⟩ := (HO.out.below hbw).at_
    have HOWN := Lib.hid hown7
    have HBF : Hid (Below B w (World.setCell wr ⟨p, 1, .none⟩ (.slice AV L cV))) := Lib.hid ((hbw.mono hB).setCell (by exact hBp) _)
    have HAS : Hid (Aside p w (World.setCell wr ⟨p, 1, .none⟩ (.slice AV L cV))) := Lib.hid ((Aside.below hbw).trans (Aside.set hpb (.inr (.inr rfl))))
    clear hcV hnV hDV hbw hown7 hpb
    go_wp2_with fail
    go_returns
    rw [HRR.out]
    exact ⟨rfl, HOWN.out, HBF.out, HAS.out⟩
end Go.Proofs.YthhceopnnappgaaGreatDoor
