/- Parts of the proof, side by side: FsEnts, LaInode, MoFind. -/
import Derived.Test.YtghlgnklnbcppaaM04
import Derived.Deep.Cut
import Derived.Deep.DeepCutAuto
import Derived.Test.YtghlgnklnbcppaaM03
import Derived.Test.YtghlgnklnbcppaaM01
set_option linter.unusedVariables false
set_option linter.unusedSimpArgs false
set_option linter.unusedVariables false
set_option linter.unusedSimpArgs false
namespace Go.Proofs.Ytghlgnklnbcppaa
open Go.RowKit
theorem box_ino (w : World) (num : Int) (dir : Bool) (E : Option Addr) (m d : Nat) (data : ByteArray) : ∃ W, w.alloc (.cells #[.int .i64 num, .bool dir, .slice E m d, .string data] 72) = W ∧ W.cell? ⟨w.heap.size, 0, .none⟩ = some (.int .i64 num) ∧ W.cell? ⟨w.heap.size, 1, .none⟩ = some (.bool dir) ∧ W.cell? ⟨w.heap.size, 2, .none⟩ = some (.slice E m d) ∧ W.cell? ⟨w.heap.size, 3, .none⟩ = some (.string data) ∧ Below w.heap.size w W ∧ w.heap.size < W.heap.size := by
 refine ⟨_, rfl, ?_, ?_, ?_, ?_, (Below.refl _ _).alloc (Nat.le_refl _) _, by simp⟩
 ·exact (World.cell?_alloc_mark w _ _ (0, 0) _).trans rfl
 ·exact (World.cell?_alloc_mark w _ _ (0, 0) _).trans rfl
 ·exact (World.cell?_alloc_mark w _ _ (0, 0) _).trans rfl
 ·exact (World.cell?_alloc_mark w _ _ (0, 0) _).trans rfl
theorem box_en (w : World) (name : ByteArray) (num : Int) : ∃ W, w.alloc (.cells #[.string name, .int .i64 num] 103) = W ∧ W.cell? ⟨w.heap.size, 0, .none⟩ = some (.string name) ∧ W.cell? ⟨w.heap.size, 1, .none⟩ = some (.int .i64 num) ∧ Below w.heap.size w W ∧ w.heap.size < W.heap.size := by
 refine ⟨_, rfl, ?_, ?_, (Below.refl _ _).alloc (Nat.le_refl _) _, by simp⟩
 ·exact (World.cell?_alloc_mark w _ _ (0, 0) _).trans rfl
 ·exact (World.cell?_alloc_mark w _ _ (0, 0) _).trans rfl
def ManyAt (w : World) (M : Nat) (f : Nat → Nat) : Prop := ∃ cur : Array Value, w.heap[M]? = some (.cells cur 3 (0, 0)) ∧ ∀ j, j < 8 → cur[j]? = some (.int .i64 (f j : Nat))
theorem ManyAt.lt {w : World} {M : Nat} {f : Nat → Nat} (h : ManyAt w M f) : M < w.heap.size := by
 obtain ⟨cur, hh, _⟩ := h
 exact (Array.getElem?_eq_some_iff.1 hh).1
theorem ManyAt.below {w w' : World} {M : Nat} {f : Nat → Nat} (h : ManyAt w M f) (hb : Below w.heap.size w w') : ManyAt w' M f := by
 have hl := h.lt
 obtain ⟨cur, hh, hc⟩ := h
 exact ⟨cur, (hb.block M hl).trans hh, hc⟩
theorem ManyAt.get {w : World} {M : Nat} {f : Nat → Nat} (h : ManyAt w M f) (j : Nat) (hj : j < 8) : w.cell? ⟨M, j, .none⟩ = some (.int .i64 (f j : Nat)) ∧ w.frozen? ⟨M, j, .none⟩ = false := by
 obtain ⟨cur, hh, hc⟩ := h
 exact ⟨by rw [cell_of_row w M j cur _ (0, 0) hh]; exact hc j hj, frozen_of_row w M j cur _ hh⟩
theorem ManyAt.set {w : World} {M : Nat} {f : Nat → Nat} (h : ManyAt w M f) (b : Nat) (hb : b < 8) : ManyAt (w.setCell ⟨M, b, .none⟩ (.int .i64 ((f b : Int) + 1))) M (fun j => if j = b then f j + 1 else f j) := by
 obtain ⟨cur, hh, hc⟩ := h
 refine ⟨_, heap_setCell_same w M b cur _ _ hh, fun j hj => ?_⟩
 rw [Array.getElem?_setIfInBounds]
 by_cases e : b = j
 ·subst e
  have : b < cur.size := (Array.getElem?_eq_some_iff.1 (hc b hb)).1
  simp [this]
 ·have e2 : ¬ j = b := fun h => e h.symm
  simp only [e, e2, if_false]
  exact hc j hj
theorem make_eight (w : World) : (Instr.makeSlice 24 (.int .i64 8) (.int .i64 8)).run Try.prog w = .ok (.slice (some ⟨w.heap.size, 0, .none⟩) 8 8) (w.alloc (.cells #[.int .i64 0, .int .i64 0, .int .i64 0, .int .i64 0, .int .i64 0, .int .i64 0, .int .i64 0, .int .i64 0] 3)) := by kernel_rfl
theorem many_eight (w : World) : ∃ W, w.alloc (.cells #[.int .i64 0, .int .i64 0, .int .i64 0, .int .i64 0, .int .i64 0, .int .i64 0, .int .i64 0, .int .i64 0] 3) = W ∧ ManyAt W w.heap.size (fun _ => 0) ∧ Below w.heap.size w W := by
 refine ⟨_, rfl, ⟨_, heap_alloc_new w _, fun j hj => ?_⟩, (Below.refl _ _).alloc (Nat.le_refl _) _⟩
 have : j = 0 ∨ j = 1 ∨ j = 2 ∨ j = 3 ∨ j = 4 ∨ j = 5 ∨ j = 6 ∨ j = 7 := by omega
 rcases this with h | h | h | h | h | h | h | h <;> subst h <;> rfl
def prevN (es : List En) (k : Nat) : Option ByteArray := if k = 0 then none else (es[k - 1]?).map (·.name)
theorem bktB_lt (s : ByteArray) : bktB s < 8 := Nat.mod_lt _ (by omega)
set_option maxRecDepth 100000 in
set_option maxHeartbeats 8000000 in
theorem entries_any (v : Value) (s : St) (w : World) (h : StAt none w v s) (x : Ino) (E : Option Addr) (m2 d2 : Nat) (hE : EntsAt none w E m2 x.ents) (hmd : SlOk E m2 d2) (hm2 : m2 ≤ 1099511627776) (htx : ∀ e ∈ x.ents, e.name.size ≤ 140737488355328) :
  Calls Try.prog 100 #[v, .agg #[.int .i64 x.num, .bool x.dir, .slice E m2 d2, .string x.data]] w fun e w' => e = .returned (.bool (entsV s.inos x.ents)) ∧ Below w.heap.size w w' := by
 obtain ⟨⟨A, n, c, B, m, d, D, k, e, rfl, hI, hD, hM, h5, h6, h7⟩, hz⟩ := h
 obtain ⟨R, hR⟩ : ∃ R, entsV s.inos x.ents = R := ⟨_, rfl⟩
 rw [hR]
 unfold entsV at hR
 obtain ⟨W, hW, b0, b1, b2, hal, hlt0⟩ := box_st w A n c B m d D k e
 obtain ⟨U, hU, y0, y1, y2, y3, hal2, hlt2⟩ := box_ino W x.num x.dir E m2 d2 x.data
 obtain ⟨V, hV, hmany, hal3⟩ := many_eight U
 have bb0 := (hal2.cell (p := ⟨w.heap.size, 0, .none⟩) hlt0).trans b0
 have bb1 := (hal2.cell (p := ⟨w.heap.size, 1, .none⟩) hlt0).trans b1
 have bb2 := (hal2.cell (p := ⟨w.heap.size, 2, .none⟩) hlt0).trans b2
 have HS := Lib.hid ((StAt.of_parts hI hD hM h5 h6 h7 hz).below (Cv.next hal hal2))
 have HE := Lib.hid (hE.below (Cv.next hal hal2))
 have HAL := Lib.hid (Cv.next hal hal2)
 have HAL3 := Lib.hid hal3
 have HR := Lib.hid hR
 have HTX := Lib.hid htx
 have HMY := Lib.hid hmany
 have hmk := make_eight U
 have hlt3 : w.heap.size < U.heap.size := Nat.lt_of_lt_of_le hlt0 hal2.size
 clear hI hD hM hz hR hal hal2 hE htx b0 b1 b2 hmany hal3
 go_enter Try.func100, Try.ntmps100
 go_wp2_with fail
 clear hW hU hmk hV
 go_loopw [6, 7, 8] (fun i _ _ wr => ∃ (k : Nat) (f : Nat → Nat), i = .int .i64 k ∧ k ≤ m2 ∧ Below U.heap.size U wr ∧ ManyAt wr U.heap.size f ∧ (∀ j, f j ≤ k) ∧ entsG s.inos (x.ents.drop k) (prevN x.ents k) f = R) (fun i _ _ _ => m2 - (intOf i).toNat)
 case atStart => exact ⟨0, fun _ => 0, rfl, by omega, HAL3.out, HMY.out, fun _ => Nat.le_refl _, HR.out⟩
 case round =>
  obtain ⟨k, f, rfl, hk, hbel, hmy, hfk, hc⟩ := hrel
  have z0 := (hbel.cell (p := ⟨w.heap.size, 0, .none⟩) hlt3).trans bb0
  have z1 := (hbel.cell (p := ⟨w.heap.size, 1, .none⟩) hlt3).trans bb1
  have z2 := (hbel.cell (p := ⟨w.heap.size, 2, .none⟩) hlt3).trans bb2
  have z3 := (hbel.cell (p := ⟨W.heap.size, 2, .none⟩) hlt2).trans y2
  have HB := Lib.hid hbel
  have HM := Lib.hid hmy
  have HF := Lib.hid hfk
  have HSr := Lib.hid (HS.out.below hbel)
  have HEr := Lib.hid (HE.out.below hbel)
  clear hbel hmy hfk
  by_cases hlt : k < m2
  ·obtain ⟨g, off, y, rfl, hg, hy, hd, hmem, e0, e1⟩ := HEr.out.get k hlt
   rw [hd, entsG] at hc
   have hsz := HTX.out y hmem
   have k0 : (0 : Int) ≤ (k : Int) := by omega
   have k1 : (k : Int) < (m2 : Int) := by omega
   obtain ⟨BD, hBD⟩ : ∃ BD, entBad s.inos (prevN x.ents k) y = BD := ⟨_, rfl⟩
   rw [hBD] at hc
   have HBD := Lib.hid hBD
   have HC := Lib.hid hc
   have HY := Lib.hid hy
   clear hBD
   clear hc hd hmem hy
   obtain ⟨V2, hV2, v0, v1, hal4, hlt4⟩ := box_en wr y.name y.num
   have HAL4 := Lib.hid hal4
   have HSV := Lib.hid (HSr.out.below hal4)
   have HEV := Lib.hid (HEr.out.below hal4)
   clear hal4
   go_upto_region 6 with fail
   have x0 := (HAL4.out.cell (p := ⟨w.heap.size, 0, .none⟩) (Nat.lt_of_lt_of_le hlt3 HB.out.size)).trans z0
   have x1 := (HAL4.out.cell (p := ⟨w.heap.size, 1, .none⟩) (Nat.lt_of_lt_of_le hlt3 HB.out.size)).trans z1
   have x2 := (HAL4.out.cell (p := ⟨w.heap.size, 2, .none⟩) (Nat.lt_of_lt_of_le hlt3 HB.out.size)).trans z2
   have x3 := (HAL4.out.cell (p := ⟨W.heap.size, 2, .none⟩) (Nat.lt_of_lt_of_le hlt2 HB.out.size)).trans z3
   have hx : ∀ (X : Ext V2) (p : Addr), (V2.cell? p).isSome = true → X.w.cell? p = V2.cell? p := fun X p h => X.cell p h
   have hsp : (0 : Nat) ≤ 0 := Nat.le_refl _
   clear hV2 z0 z1 z2 z3 e0 e1
   go_cut [54] (fun c wx => c = .bool BD ∧ ∃ X : Ext V2, wx = X.w)
   case first =>
    by_cases hchk : checkL y.name.data.toList = 0
    ·have qc : (((checkL y.name.data.toList : Nat) : Int) != 0) = false := by rw [hchk]; rfl
     by_cases hk0 : k = 0
     ·have q1 : decide ((0 : Int) < (k : Int)) = false := by simp; omega
      have hp : prevN x.ents k = none := if_pos hk0
      by_cases hnum : y.num = 1
      ·have q2 : (y.num == 1) = true := by rw [hnum]; rfl
       refine wp_region_ext (by kernel_rfl) (by kernel_rfl) ?_
       repeat (go_big_quiet_step (first | (go_at_call 144; rename_i X; exact Calls.ext_of_same (refcheck_any _ _ hsz)) | (go_at_call 145; rename_i X; exact Calls.ext_of ((ltn_any _ _ _ hsp hsz).mono fun _ _ hh => ⟨hh.1, by obtain ⟨q, rfl⟩ := hh.2; exact Cv.drewN_below (Below.refl _ _) q⟩)) | (go_at_call 107; rename_i X; exact Calls.ext_of (at_any _ s _ _ (HSV.out.below X.bel)))))
       refine wpQuiet_nil ?_
       rintro w7 ⟨X, rfl⟩
       go_wp2_with fail
       go_meet
       exact ⟨congrArg Value.bool (by rw [← HBD.out]; unfold entBad chkB; rw [hp]; simp [hchk, hnum]), X, rfl⟩
      ·have q2 : (y.num == 1) = false := by rw [beq_eq_false_iff_ne]; exact hnum
       refine wp_region_ext (by kernel_rfl) (by kernel_rfl) ?_
       repeat (go_big_quiet_step (first | (go_at_call 144; rename_i X; exact Calls.ext_of_same (refcheck_any _ _ hsz)) | (go_at_call 145; rename_i X; exact Calls.ext_of ((ltn_any _ _ _ hsp hsz).mono fun _ _ hh => ⟨hh.1, by obtain ⟨q, rfl⟩ := hh.2; exact Cv.drewN_below (Below.refl _ _) q⟩)) | (go_at_call 107; rename_i X; exact Calls.ext_of (at_any _ s _ _ (HSV.out.below X.bel)))))
       refine wpQuiet_nil ?_
       rintro w7 ⟨X, rfl⟩
       go_wp2_with fail
       go_meet
       exact ⟨congrArg Value.bool (by rw [← HBD.out]; unfold entBad chkB; rw [hp]; simp [hchk, hnum]), X, rfl⟩
     ·obtain ⟨j, rfl⟩ : ∃ j, k = j + 1 := ⟨k - 1, by omega⟩
      have q1 : decide ((0 : Int) < ((j + 1 : Nat) : Int)) = true := by rw [decide_eq_true_eq]; omega
      have q1b : decide ((0 : Int) < (j : Int) + 1) = true := by rw [decide_eq_true_eq]; omega
      obtain ⟨g', off', y', hA', hg', hy', _, hmem', f0, f1⟩ := HEV.out.get j (by omega)
      injection hA' with hA'
      injection hA' with hA1 hA2
      subst hA1 hA2
      have hsp := HTX.out y' hmem'
      have hp : prevN x.ents (j + 1) = some y'.name := by unfold prevN; rw [if_neg (by omega), Nat.add_sub_cancel, hy']; rfl
      have j0 : (0 : Int) ≤ (j : Int) := by omega
      have j1 : (j : Int) < (m2 : Int) := by omega
      have jw : IntKind.i64.wrap ((j : Int) + 1 - 1) = (j : Int) := by rw [IntKind.wrap_i64]; omega
      have HP := Lib.hid hp
      clear hp hy' hmem' hk0
      by_cases hlt2 : ltN y'.name y.name = true
      ·by_cases hnum : y.num = 1
       ·have q2 : (y.num == 1) = true := by rw [hnum]; rfl
        refine wp_region_ext (by kernel_rfl) (by kernel_rfl) ?_
        repeat (go_big_quiet_step (first | (go_at_call 144; rename_i X; exact Calls.ext_of_same (refcheck_any _ _ hsz)) | (go_at_call 145; rename_i X; exact Calls.ext_of ((ltn_any _ _ _ hsp hsz).mono fun _ _ hh => ⟨hh.1, by obtain ⟨q, rfl⟩ := hh.2; exact Cv.drewN_below (Below.refl _ _) q⟩)) | (go_at_call 107; rename_i X; exact Calls.ext_of (at_any _ s _ _ (HSV.out.below X.bel)))))
        refine wpQuiet_nil ?_
        rintro w7 ⟨X, rfl⟩
        go_wp2_with fail
        go_meet
        exact ⟨congrArg Value.bool (by rw [← HBD.out]; unfold entBad chkB; rw [HP.out]; simp [hchk, hnum, hlt2]), X, rfl⟩
       ·have q2 : (y.num == 1) = false := by rw [beq_eq_false_iff_ne]; exact hnum
        refine wp_region_ext (by kernel_rfl) (by kernel_rfl) ?_
        repeat (go_big_quiet_step (first | (go_at_call 144; rename_i X; exact Calls.ext_of_same (refcheck_any _ _ hsz)) | (go_at_call 145; rename_i X; exact Calls.ext_of ((ltn_any _ _ _ hsp hsz).mono fun _ _ hh => ⟨hh.1, by obtain ⟨q, rfl⟩ := hh.2; exact Cv.drewN_below (Below.refl _ _) q⟩)) | (go_at_call 107; rename_i X; exact Calls.ext_of (at_any _ s _ _ (HSV.out.below X.bel)))))
        refine wpQuiet_nil ?_
        rintro w7 ⟨X, rfl⟩
        go_wp2_with fail
        go_meet
        exact ⟨congrArg Value.bool (by rw [← HBD.out]; unfold entBad chkB; rw [HP.out]; simp [hchk, hnum, hlt2]), X, rfl⟩
      ·have hlt3 : ltN y'.name y.name = false := by simpa using hlt2
       refine wp_region_ext (by kernel_rfl) (by kernel_rfl) ?_
       repeat (go_big_quiet_step (first | (go_at_call 144; rename_i X; exact Calls.ext_of_same (refcheck_any _ _ hsz)) | (go_at_call 145; rename_i X; exact Calls.ext_of ((ltn_any _ _ _ hsp hsz).mono fun _ _ hh => ⟨hh.1, by obtain ⟨q, rfl⟩ := hh.2; exact Cv.drewN_below (Below.refl _ _) q⟩)) | (go_at_call 107; rename_i X; exact Calls.ext_of (at_any _ s _ _ (HSV.out.below X.bel)))))
       refine wpQuiet_nil ?_
       rintro w7 ⟨X, rfl⟩
       go_wp2_with fail
       go_meet
       exact ⟨congrArg Value.bool (by rw [← HBD.out]; unfold entBad chkB; rw [HP.out]; simp [hchk, hlt3]), X, rfl⟩
    ·have qc : (((checkL y.name.data.toList : Nat) : Int) != 0) = true := by rw [bne_iff_ne]; omega
     refine wp_region_ext (by kernel_rfl) (by kernel_rfl) ?_
     repeat (go_big_quiet_step (first | (go_at_call 144; rename_i X; exact Calls.ext_of_same (refcheck_any _ _ hsz)) | (go_at_call 145; rename_i X; exact Calls.ext_of ((ltn_any _ _ _ hsp hsz).mono fun _ _ hh => ⟨hh.1, by obtain ⟨q, rfl⟩ := hh.2; exact Cv.drewN_below (Below.refl _ _) q⟩)) | (go_at_call 107; rename_i X; exact Calls.ext_of (at_any _ s _ _ (HSV.out.below X.bel)))))
     refine wpQuiet_nil ?_
     rintro w7 ⟨X, rfl⟩
     go_wp2_with fail
     go_meet
     exact ⟨congrArg Value.bool (by rw [← HBD.out]; unfold entBad chkB; simp [hchk]), X, rfl⟩
   case rest =>
    obtain ⟨rfl, X, rfl⟩ := hcut
    generalize hZe : X.w = Z
    have hZ : Below V2.heap.size V2 Z := by rw [← hZe]; exact X.bel
    clear hZe X
    have hbx := Cv.next HAL4.out hZ
    have e0 := (hZ.cell (p := ⟨wr.heap.size, 0, .none⟩) hlt4).trans v0
    have hU := Cv.next HB.out hbx
    have HMZ := Lib.hid (HM.out.below hbx)
    have HUZ := Lib.hid hU
    clear hx x0 x1 x2 x3 v0 v1 hbx hU hZ
    cases BD
    rotate_left
    ·have hr := HC.out
     rw [if_pos rfl] at hr
     have HR2 := Lib.hid hr
     clear hr
     go_wp2_with fail
     go_ret
     exact ⟨Cv.ret_bool HR2.out, Cv.next HAL.out HUZ.out⟩
    ·have hr := HC.out
     rw [if_neg (by simp)] at hr
     obtain ⟨b, hb⟩ : ∃ b, hashL y.name.data.toList % 8 = b := ⟨_, rfl⟩
     have hbk : bktB y.name = b := hb
     rw [hbk] at hr
     have hb8 : b < 8 := by rw [← hb]; exact Nat.mod_lt _ (by omega)
     have hfb := HF.out b
     obtain ⟨cb, fz⟩ := HMZ.out.get b hb8
     have b0 : (0 : Int) ≤ (b : Int) := by omega
     have b8 : (b : Int) < 8 := by omega
     have wf : IntKind.i64.wrap ((f b : Int) + 1) = (f b : Int) + 1 := by rw [IntKind.wrap_i64]; omega
     have HBK := Lib.hid hb
     have HR2 := Lib.hid hr
     clear hr hbk hb
     go_wp2_with fail
     refine (refbucket_any y.name _ hsz).mono ?_
     rintro e w2 ⟨rfl, rfl⟩
     rw [HBK.out]
     by_cases h4 : 4 < f b + 1
     ·have hr := HR2.out
      rw [if_pos h4] at hr
      have HR3 := Lib.hid hr
      have q4 : decide ((4 : Int) < (f b : Int) + 1) = true := by simp; omega
      clear hr
      go_wp2_with fail
      go_ret
      exact ⟨Cv.ret_bool HR3.out, Cv.next HAL.out (HUZ.out.setCell (Nat.le_refl _) _)⟩
     ·have hr := HR2.out
      rw [if_neg h4] at hr
      have HR3 := Lib.hid hr
      have q4 : decide ((4 : Int) < (f b : Int) + 1) = false := by simp; omega
      clear hr
      go_wp2_with fail
      go_roundw
      case rel => exact ⟨k + 1, fun j => if j = b then f j + 1 else f j, by go_num, by omega, HUZ.out.setCell (Nat.le_refl _) _, HMZ.out.set b hb8, fun j => by have := HF.out j; simp only; split <;> omega, by
       have e : prevN x.ents (k + 1) = some y.name := by unfold prevN; rw [if_neg (by omega), Nat.add_sub_cancel, HY.out]; rfl
       rw [e]
       exact HR3.out⟩
      case measure => simp [intOf]; omega
  ·have : x.ents.drop k = [] := List.drop_eq_nil_of_le (by have := HEr.out.1; omega)
   rw [this, entsG] at hc
   have HC := Lib.hid hc
   clear hc this
   go_wp2_with fail
   go_ret
   exact ⟨Cv.ret_bool HC.out, Cv.next HAL.out HB.out⟩
end Go.Proofs.Ytghlgnklnbcppaa

set_option linter.unusedVariables false
set_option linter.unusedSimpArgs false
namespace Go.Proofs.Ytghlgnklnbcppaa
open Go.RowKit
def textL (s : ByteArray) : List UInt8 := numL s.size ++ s.data.toList
theorem textL_len (s : ByteArray) : (textL s).length ≤ 11 + s.size := by
 unfold textL
 rw [List.length_append]
 have := numL_len s.size
 have e : s.data.toList.length = s.size := Array.length_toList
 omega
theorem textL_ge (s : ByteArray) : s.size ≤ (textL s).length := by
 unfold textL
 rw [List.length_append]
 have e : s.data.toList.length = s.size := Array.length_toList
 omega
set_option maxRecDepth 100000 in
set_option maxHeartbeats 2000000 in
theorem text_any (B b : Nat) (l : List UInt8) (s : ByteArray) (w : World) (h : Bld B b l w) (hs : s.size ≤ 1099511627776) (hlen : l.length + 11 + s.size ≤ 140737488355328) (hBw : B ≤ w.heap.size) :
  Calls Try.prog 59 #[.pointer (some ⟨b, 0, none⟩), .string s] w fun e w' => e = .returned (.tuple #[]) ∧ Bld B b (l ++ textL s) w' ∧ Wr B b w w' := by
 have HB0 := Lib.hid h
 clear h
 go_enter Try.func59, Try.ntmps59
 go_wp2_with fail
 refine (number_any B b l s.size _ HB0.out hs (by omega) hBw).mono ?_
 rintro e1 w1 ⟨rfl, hb1, he1⟩
 have HB1 := Lib.hid hb1
 have HE1 := Lib.hid he1
 have hsz : B ≤ w1.heap.size := Nat.le_trans hBw he1.below.size
 clear hb1 he1
 go_wp2_with fail
 refine (writestring_any B b (l ++ numL s.size) s _ HB1.out (by rw [List.length_append]; have := numL_len s.size; omega) hsz).mono ?_
 rintro e2 w2 ⟨rfl, hb2, he2⟩
 have HB2 := Lib.hid hb2
 have HE2 := Lib.hid (HE1.out.trans he2)
 clear hb2 he2
 go_wp2_with fail
 go_end0
 exact ⟨rfl, by unfold textL; rw [← List.append_assoc]; exact HB2.out, HE2.out⟩
theorem flag_any (is : Bool) (w : World) : Calls Try.prog 58 #[.bool is] w fun e w' => e = .returned (.int .i64 ((if is then 1 else 0 : Nat) : Int)) ∧ w = w' := by
 go_enter Try.func58, Try.ntmps58
 cases is
 ·go_wp2_with fail
  go_ret
  exact ⟨rfl, rfl⟩
 ·go_wp2_with fail
  go_ret
  exact ⟨rfl, rfl⟩
def entL (e : En) : List UInt8 := textL e.name ++ numL e.num.toNat
def entsL : List En → List UInt8
 | [] => []
 | e :: es => entL e ++ entsL es
def inodeL (x : Ino) : List UInt8 :=
 numL x.num.toNat ++ numL (if x.dir then 1 else 0) ++ (if x.dir then numL x.ents.length ++ entsL x.ents else textL x.data)
structure InoOk (x : Ino) : Prop where
 num : 0 ≤ x.num ∧ x.num ≤ 1099511627776
 data : x.data.size ≤ 1099511627776
 ents : x.ents.length ≤ 1099511627776 ∧ ∀ e ∈ x.ents, 0 ≤ e.num ∧ e.num ≤ 1099511627776 ∧ e.name.size ≤ 1099511627776
theorem entsL_drop (es : List En) (q : Nat) (e : En) (h : es[q]? = some e) : entsL (es.drop q) = entL e ++ entsL (es.drop (q + 1)) := by
 obtain ⟨h1, h2⟩ := List.getElem?_eq_some_iff.1 h
 rw [List.drop_eq_getElem_cons h1, h2, entsL]
theorem toNat_val {x : Int} (h : 0 ≤ x) : Value.int .i64 x = Value.int .i64 ((x.toNat : Nat) : Int) := by rw [Int.toNat_of_nonneg h]
set_option maxRecDepth 100000 in
set_option maxHeartbeats 4000000 in
theorem inode_any (B b g off : Nat) (l : List UInt8) (x : Ino) (E : Option Addr) (m d : Nat) (w : World) (h : Bld B b l w) (hok : InoOk x) (hlen : l.length + (inodeL x).length + 11 ≤ 140737488355328) (hBw : B ≤ w.heap.size)
  (hx : ∀ w', Wr B b w w' → (w'.cell? ⟨g, off, none⟩ = some (.int .i64 x.num) ∧ w'.cell? ⟨g, off + 1, none⟩ = some (.bool x.dir) ∧ w'.cell? ⟨g, off + 2, none⟩ = some (.slice E m d) ∧ w'.cell? ⟨g, off + 3, none⟩ = some (.string x.data)) ∧ EntsAt none w' E m x.ents) :
  Calls Try.prog 29 #[.pointer (some ⟨b, 0, none⟩), .pointer (some ⟨g, off, none⟩)] w fun e w' => e = .returned (.tuple #[]) ∧ Bld B b (l ++ inodeL x) w' ∧ Wr B b w w' := by
 have HB0 := Lib.hid h
 have HOK := Lib.hid hok
 have HX := Lib.hid hx
 have a0 := (hx w (Wr.refl _ _ _)).1.1
 have hn0 := hok.num
 rw [toNat_val hn0.1] at a0
 obtain ⟨X, hX⟩ : ∃ X, x.num.toNat = X := ⟨_, rfl⟩
 rw [hX] at a0
 have hX2 : X ≤ 1099511627776 := by omega
 obtain ⟨DX, hDX⟩ : ∃ DX, x.dir = DX := ⟨_, rfl⟩
 have HDX := Lib.hid hDX
 have HXX := Lib.hid hX
 have hlen2 : (inodeL x).length = (numL X).length + (numL (if DX then 1 else 0)).length + (if DX then numL x.ents.length ++ entsL x.ents else textL x.data).length := by
  unfold inodeL
  rw [hDX, hX, List.length_append, List.length_append]
 have HLE := Lib.hid hlen2
 clear h hok hx hn0 hX hDX hlen2
 go_enter Try.func29, Try.ntmps29
 go_wp2_with fail
 refine (number_any B b l X _ HB0.out hX2 (by omega) hBw).mono ?_
 rintro e1 w1 ⟨rfl, hb1, he1⟩
 have HB1 := Lib.hid hb1
 have HE1 := Lib.hid he1
 have hsz1 : B ≤ w1.heap.size := Nat.le_trans hBw he1.below.size
 have a1 := (HX.out _ HE1.out).1.2.1
 rw [HDX.out] at a1
 clear hb1 he1 a0
 go_wp2_with fail
 refine (flag_any DX _).mono ?_
 rintro e2 w2 ⟨rfl, rfl⟩
 obtain ⟨FL, hFL⟩ : ∃ FL : Nat, (if DX then 1 else 0) = FL := ⟨_, rfl⟩
 rw [hFL] at HLE ⊢
 have hF2 : FL ≤ 1099511627776 := by rw [← hFL]; split <;> omega
 have HFL := Lib.hid hFL
 clear hFL
 go_wp2_with fail
 refine (number_any B b (l ++ numL X) FL _ HB1.out hF2 (by rw [List.length_append]; have := HLE.out; omega) hsz1).mono ?_
 rintro e3 w3 ⟨rfl, hb3, he3⟩
 have HB3 := Lib.hid hb3
 have HE3 := Lib.hid (HE1.out.trans he3)
 have hsz3 : B ≤ w3.heap.size := Nat.le_trans hsz1 he3.below.size
 have a1' := (HX.out _ HE3.out).1.2.1
 rw [HDX.out] at a1'
 have a2 := (HX.out _ HE3.out).1.2.2.1
 have a3 := (HX.out _ HE3.out).1.2.2.2
 clear hb3 he3 a1
 cases DX
 ·go_wp2_with fail
  refine (text_any B b (l ++ numL X ++ numL FL) x.data _ HB3.out HOK.out.data (by rw [List.length_append, List.length_append]; have h1 := HLE.out; have h2 := textL_ge x.data; simp only [Bool.false_eq_true, if_false] at h1; omega) hsz3).mono ?_
  rintro e4 w4 ⟨rfl, hb4, he4⟩
  have HB4 := Lib.hid hb4
  have HE4 := Lib.hid (HE3.out.trans he4)
  clear hb4 he4
  go_wp2_with fail
  refine bodyPost_ret (results_none rfl _ _ _) rfl ?_
  exact ⟨rfl, by unfold inodeL; rw [HDX.out, HXX.out, HFL.out, if_neg (by simp), ← List.append_assoc, ← List.append_assoc]; exact HB4.out, HE4.out⟩
 ·go_wp2_with fail
  have hml : x.ents.length = m := (HX.out _ HE3.out).2.1
  have HML := Lib.hid hml
  have hm1 : m ≤ 1099511627776 := by have := HOK.out.ents.1; omega
  have hle := HLE.out
  simp only [if_true, List.length_append] at hle
  rw [hml] at hle
  have HLE2 := Lib.hid hle
  refine (number_any B b (l ++ numL X ++ numL FL) m _ HB3.out hm1 (by rw [List.length_append, List.length_append]; omega) hsz3).mono ?_
  rintro e4 w4 ⟨rfl, hb4, he4⟩
  have HB4 := Lib.hid hb4
  have HE4 := Lib.hid (HE3.out.trans he4)
  have hsz4 : B ≤ w4.heap.size := Nat.le_trans hsz3 he4.below.size
  have b2 := (HX.out _ HE4.out).1.2.2.1
  obtain ⟨P, hP⟩ : ∃ P, l ++ numL X ++ numL FL ++ numL m = P := ⟨_, rfl⟩
  rw [hP] at HB4
  have hpl : P.length + (entsL x.ents).length + 11 ≤ 140737488355328 := by
   rw [← hP, List.length_append, List.length_append, List.length_append]
   omega
  have HP := Lib.hid hP
  clear hb4 he4 a2 a3 a1' hml hle hP
  go_wp2_with fail
  clear b2
  go_loopw [42] (fun i wr => ∃ (q : Nat) (l' : List UInt8), i = .int .i64 q ∧ q ≤ m ∧ Bld B b l' wr ∧ Wr B b w wr ∧ l' ++ entsL (x.ents.drop q) = P ++ entsL x.ents) (fun i _ => m - (intOf i).toNat)
  case atStart => exact ⟨0, P, rfl, by omega, HB4.out, HE4.out, rfl⟩
  case round =>
   obtain ⟨q, l', rfl, hq, hbl, hbel, hc⟩ := hrel
   have HBL := Lib.hid hbl
   have HBE := Lib.hid hbel
   have hszr : B ≤ wr.heap.size := Nat.le_trans hBw hbel.below.size
   clear hbl hbel
   by_cases hlt : q < m
   ·obtain ⟨g3, off3, e, rfl, hg3, he, hd3, hmem3, f0, f1⟩ := (HX.out _ HBE.out).2.get q hlt
    have r0 : (0 : Int) ≤ (q : Int) := by omega
    have r1 : (q : Int) < (m : Int) := by omega
    obtain ⟨hn0, hn1, hsz0⟩ := HOK.out.ents.2 e hmem3
    have x0 := f0
    have x1 := f1
    rw [toNat_val hn0] at x1
    obtain ⟨Y, hY⟩ : ∃ Y, e.num.toNat = Y := ⟨_, rfl⟩
    rw [hY] at x1
    obtain ⟨V2, hV2, v0, v1, hal, hlt3⟩ := box_en wr e.name Y
    have HB5 := Lib.hid (HBL.out.keep hal)
    have HE5 := Lib.hid (HBE.out.trans (Wr.of_below hal hszr))
    have hsz5 : B ≤ V2.heap.size := Nat.le_trans hszr hal.size
    have hbx : B ≤ wr.heap.size := hszr
    rw [entsL_drop _ _ _ he] at hc
    have hlc := congrArg List.length hc
    unfold entL at hlc hc
    rw [hY] at hc hlc
    rw [List.length_append, List.length_append, List.length_append, List.length_append] at hlc
    have htx := textL_ge e.name
    have HC := Lib.hid hc
    have HLC := Lib.hid hlc
    have hY2 : Y ≤ 1099511627776 := by omega
    clear hc hlc hal f0 f1 hd3 hmem3 hY
    go_wp2_with fail
    refine (text_any B b l' e.name _ HB5.out hsz0 (by have := HLC.out; omega) hsz5).mono ?_
    rintro e5 w5 ⟨rfl, hb5, he5⟩
    have hbne : wr.heap.size ≠ b := by
     intro e9
     have := HBL.out.lt
     omega
    have hobj : V2.heap[wr.heap.size]? = some (.cells #[.string e.name, .int .i64 Y] 103 (0, 0)) := by rw [← hV2]; exact heap_alloc_new wr _
    have hobj5 := he5.keep _ _ hobj hbne (by intro cs fr h9; injection h9 with _ h9; exact absurd h9 (by decide))
    have v1' : w5.cell? ⟨wr.heap.size, 1, .none⟩ = some (.int .i64 Y) := by rw [cell_of_row w5 wr.heap.size _ _ _ (0, 0) hobj5]; rfl
    have HB6 := Lib.hid hb5
    have HE6 := Lib.hid (HE5.out.trans he5)
    have hsz6 : B ≤ w5.heap.size := Nat.le_trans hsz5 he5.below.size
    clear hb5 he5 hobj hobj5 hV2 v0 v1 x0 x1
    go_wp2_with fail
    refine (number_any B b (l' ++ textL e.name) Y _ HB6.out hY2 (by rw [List.length_append]; have := HLC.out; omega) hsz6).mono ?_
    rintro e6 w6 ⟨rfl, hb6, he6⟩
    have HB7 := Lib.hid hb6
    have HE7 := Lib.hid (HE6.out.trans he6)
    clear hb6 he6
    go_wp2_with fail
    go_roundw
    case rel => exact ⟨q + 1, _, by go_num, by omega, HB7.out, HE7.out, by have := HC.out; simpa [List.append_assoc] using this⟩
    case measure => simp [intOf]; omega
   ·have hnil : x.ents.drop q = [] := List.drop_eq_nil_of_le (by have := HML.out; omega)
    rw [hnil, entsL, List.append_nil] at hc
    have HC := Lib.hid hc
    have q1 : decide ((q : Int) < (m : Int)) = false := by rw [decide_eq_false_iff_not]; omega
    clear hc hnil
    go_wp2_with fail
    go_end0
    exact ⟨rfl, by
     have h1 := HBL.out
     rw [HC.out, ← HP.out] at h1
     have hf : 1 = FL := by have := HFL.out; simpa using this
     rw [← hf] at h1
     unfold inodeL
     rw [HDX.out, HXX.out]
     simp only [if_true]
     rw [HML.out]
     simpa [List.append_assoc] using h1, HBE.out⟩
end Go.Proofs.Ytghlgnklnbcppaa

set_option linter.unusedVariables false
set_option linter.unusedSimpArgs false
namespace Go.Proofs.Ytghlgnklnbcppaa
open Go.RowKit
def RiseI (is : List Ino) : Prop := ∀ (i j : Nat) (x y : Ino), i < j → is[i]? = some x → is[j]? = some y → x.num < y.num
structure PtrAt (w : World) (p : Nat) (s : St) : Prop where
 at_ : ∃ A n c E m d D k e, w.heap[p]? = some (.cells #[.slice A n c, .slice E m d, .slice D k e] 26 (0, 0)) ∧ InosAt none w A n s.inos ∧ DescsAt none w E m s.opn ∧ IntsAt none w D k s.made ∧ SlOk A n c ∧ SlOk E m d ∧ SlOk D k e
 sized : Sized s
theorem PtrAt.below {w w' : World} {p : Nat} {s : St} (h : PtrAt w p s) (hb : Below w.heap.size w w') : PtrAt w' p s := by
 obtain ⟨⟨A, n, c, E, m, d, D, k, e, h1, h2, h3, h4, h5, h6, h7⟩, hz⟩ := h
 exact ⟨⟨A, n, c, E, m, d, D, k, e, (hb.block p (Array.getElem?_eq_some_iff.1 h1).1).trans h1, h2.below hb, h3.below hb, h4.below hb, h5, h6, h7⟩, hz⟩
theorem atV_none {is : List Ino} {num : Int} (h : ∀ x ∈ is, x.num ≠ num) : atV is num = -1 := by
 rcases atV_cases is num with ⟨h1, _⟩ | ⟨k, x, _, h2, h3, _⟩
 ·exact h1
 ·exact absurd h3 (h x (List.mem_of_getElem? h2))
theorem atV_of_rise {is : List Ino} {num : Int} {j : Nat} {x : Ino} (hr : RiseI is) (hx : is[j]? = some x) (hn : x.num = num) : atV is num = (j : Int) := by
 rcases atV_cases is num with ⟨h1, h2⟩ | ⟨k, y, h1, h2, h3, _⟩
 ·exact absurd hn (h2 x (List.mem_of_getElem? hx))
 ·rw [h1]
  by_cases e1 : k < j
  ·have := hr k j y x e1 h2 hx; omega
  ·by_cases e2 : j < k
   ·have := hr j k x y e2 hx h2; omega
   ·congr 1; omega
def cmpI (a b : Int) : Int := if a < b then -1 else if b < a then 1 else 0
theorem cmp_any (x1 x2 x3 x4 : Value) (num a : Int) (w : World) (h1 : x1 = .int .i64 a) :
  Calls Try.prog 140 #[.agg #[x1, x2, x3, x4], .int .i64 num] w fun e w' => e = .returned (.int .i64 (cmpI a num)) ∧ Below w.heap.size w w' := by
 subst h1
 go_enter Try.func140, Try.ntmps140
 unfold cmpI
 by_cases h1 : a < num
 ·rw [if_pos h1]
  have q1 : decide (a < num) = true := decide_eq_true h1
  go_wp2_with fail
  go_ret
  exact ⟨rfl, (Below.refl _ _).alloc (Nat.le_refl _) _⟩
 ·have q1 : decide (a < num) = false := decide_eq_false h1
  rw [if_neg h1]
  by_cases h2 : num < a
  ·rw [if_pos h2]
   have q2 : decide (num < a) = true := decide_eq_true h2
   go_wp2_with fail
   go_ret
   exact ⟨rfl, (Below.refl _ _).alloc (Nat.le_refl _) _⟩
  ·rw [if_neg h2]
   have q2 : decide (num < a) = false := decide_eq_false h2
   go_wp2_with fail
   go_ret
   exact ⟨rfl, (Below.refl _ _).alloc (Nat.le_refl _) _⟩
set_option maxRecDepth 100000 in
set_option maxHeartbeats 4000000 in
theorem bsearch_any (is : List Ino) (A : Option Addr) (n c : Nat) (num : Int) (w : World) (hI : InosAt none w A n is) (hn : n ≤ 1099511627776) (hr : RiseI is) :
  Calls Try.prog 122 #[.slice A n c, .int .i64 num, .func (.func 140) #[] #[]] w fun e w' => ∃ i b, e = .returned (.tuple #[.int .i64 (i : Nat), .bool b]) ∧ Below w.heap.size w w' ∧ atV is num = if b then (i : Int) else -1 := by
 have HI := Lib.hid hI
 go_enter Try.func122, Try.ntmps122
 clear hI
 go_wp2_with fail
 go_loopw [9, 10] (fun iv jv wr => ∃ i j : Nat, iv = .int .i64 i ∧ jv = .int .i64 j ∧ i ≤ j ∧ j ≤ n ∧ (∀ (k : Nat) (x : Ino), k < i → is[k]? = some x → x.num < num) ∧ (∀ (k : Nat) (x : Ino), j ≤ k → is[k]? = some x → num ≤ x.num) ∧ Below w.heap.size w wr) (fun iv jv _ => (intOf jv).toNat - (intOf iv).toNat)
 case atStart => exact ⟨0, n, rfl, rfl, by omega, by omega, fun k x hk => by omega, fun k x hk hx => by have := (List.getElem?_eq_some_iff.1 hx).1; have := HI.out.1; omega, Below.refl _ _⟩
 case round =>
  obtain ⟨i, j, rfl, rfl, hij, hjn, hlo, hhi, hbel⟩ := hrel
  have HB := Lib.hid hbel
  have HIr := Lib.hid (HI.out.below hbel)
  have HLO := Lib.hid hlo
  have HHI := Lib.hid hhi
  clear hbel hlo hhi
  by_cases hlt : i < j
  ·obtain ⟨h, hh⟩ : ∃ h, (i + j) / 2 = h := ⟨_, rfl⟩
   have hh1 : i ≤ h := by omega
   have hh2 : h < j := by omega
   obtain ⟨g, off, x, E, m, d, rfl, hg, hx, hd, hmem, c0, c1, c2, c3, hok, hE⟩ := HIr.out.get h (by omega)
   have HHH := Lib.hid hh
   have hx2 : is[h]? = some x := hx
   have HX := Lib.hid hx2
   have HRR := Lib.hid hr
   have HHH2 : Hid (h < j) := Lib.hid hh2
   clear hx2
   go_wp2_with fail
   refine (cmp_any _ _ _ _ num x.num _ rfl).mono ?_
   rintro e5 w5 ⟨rfl, hb5⟩
   have e2 : ((i : Int) + (j : Int)) / 2 = (h : Int) := by have := HHH.out; omega
   rw [e2]
   have HB5 := Lib.hid (HB.out.trans (hb5.mono HB.out.size))
   clear hb5 c0 c1 c2 c3
   by_cases hc : x.num < num
   ·have q1 : cmpI x.num num = -1 := by unfold cmpI; rw [if_pos hc]
    rw [q1]
    clear q1
    go_wp2_with fail
    go_roundw
    case rel => exact ⟨h + 1, j, by go_num, rfl, by omega, hjn, fun k y hk hy => by
     by_cases e : k = h
     ·subst e
      have := HX.out
      rw [hy] at this
      cases this
      exact hc
     ·have := HRR.out k h y x (by omega) hy HX.out
      omega, HHI.out, HB5.out⟩
    case measure => simp [intOf]; omega
   ·have q1 : decide (cmpI x.num num < 0) = false := by unfold cmpI; rw [if_neg hc]; split <;> rfl
    go_wp2_with fail
    go_roundw
    case rel => exact ⟨i, h, rfl, rfl, hh1, by omega, HLO.out, fun k y hk hy => by
     by_cases e : k = h
     ·subst e
      have := HX.out
      rw [hy] at this
      cases this
      omega
     ·have := HRR.out h k x y (by omega) HX.out hy
      omega, HB5.out⟩
    case measure => simp [intOf]; omega
  ·have eij : j = i := by omega
   subst eij
   by_cases hin : j < n
   ·obtain ⟨g, off, x, E, m, d, rfl, hg, hx, hd, hmem, c0, c1, c2, c3, hok, hE⟩ := HIr.out.get j hin
    have HX := Lib.hid hx
    have HRR := Lib.hid hr
    go_wp2_with fail
    refine (cmp_any _ _ _ _ num x.num _ rfl).mono ?_
    rintro e5 w5 ⟨rfl, hb5⟩
    have HB5 := Lib.hid (HB.out.trans (hb5.mono HB.out.size))
    clear hb5 c0 c1 c2 c3
    by_cases hc : x.num = num
    ·have q1 : cmpI x.num num = 0 := by unfold cmpI; rw [if_neg (by omega), if_neg (by omega)]
     rw [q1]
     clear q1
     go_wp2_with fail
     go_ret2
     refine ⟨j, true, rfl, HB5.out, ?_⟩
     rw [if_pos rfl]
     exact atV_of_rise HRR.out HX.out hc
    ·have q1 : (cmpI x.num num == 0) = false := by unfold cmpI; rw [beq_eq_false_iff_ne]; split; omega; split <;> omega
     go_wp2_with fail
     go_ret2
     refine ⟨j, false, rfl, HB5.out, ?_⟩
     rw [if_neg (by decide)]
     refine atV_none fun y hy => ?_
     obtain ⟨k, hk⟩ := List.getElem?_of_mem hy
     by_cases e1 : k < j
     ·have := HLO.out k y e1 hk; omega
     ·by_cases e2 : k = j
      ·subst e2
       have := HX.out
       rw [hk] at this
       cases this
       exact hc
      ·have h1 := HRR.out j k x y (by omega) HX.out hk
       have h2 := HHI.out j x (by omega) HX.out
       omega
   ·have q1 : decide ((j : Int) < (n : Int)) = false := by rw [decide_eq_false_iff_not]; omega
    clear hlt
    go_wp2_with fail
    go_ret2
    refine ⟨j, false, rfl, HB.out, ?_⟩
    rw [if_neg (by decide)]
    refine atV_none fun y hy => ?_
    obtain ⟨k, hk⟩ := List.getElem?_of_mem hy
    have h1 := (List.getElem?_eq_some_iff.1 hk).1
    have h2 := HIr.out.1
    have := HLO.out k y (by omega) hk
    omega
end Go.Proofs.Ytghlgnklnbcppaa
