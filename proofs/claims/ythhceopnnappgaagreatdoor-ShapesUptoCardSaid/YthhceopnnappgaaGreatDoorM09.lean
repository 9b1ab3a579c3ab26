/- Parts of the proof, side by side: NameHash, RefHash, FsEnts. -/
import Derived.Test.YthhceopnnappgaaGreatDoorM05
import Derived.Test.YthhceopnnappgaaGreatDoorM08
import Derived.Deep.Cut
import Derived.Deep.DeepCutAuto
set_option linter.unusedVariables false
set_option linter.unusedSimpArgs false
namespace Go.Proofs.YthhceopnnappgaaGreatDoor
open Go.RowKit
set_option maxHeartbeats 400000 in
theorem hash_any (s : ByteArray) (w : World) (hs : s.size ≤ maxLen) :
  Calls Tryz.prog 122 #[.string s] w fun e w' => e = .returned (.int .i64 ((hashL s.data.toList : Nat) : Int)) ∧ Below w.heap.size w w' := by
 unfold maxLen at hs
 go_enter Tryz.func122, Tryz.ntmps122
 go_wp2
 go_loopw [3] (fun n w' => ∃ (pos acc : Nat), w' = w.iter s pos ∧ n = .int .u32 acc ∧ acc < 4294967296 ∧ hashFrom (s.data.toList.drop pos) acc = hashL s.data.toList) (fun _ w' => s.size - w'.iterPos w.heap.size)
 case atStart => exact ⟨0, 7, rfl, rfl, by omega, by simp [hashL]⟩
 case round =>
  obtain ⟨pos, acc, rfl, rfl, hacc, hc⟩ := hrel
  by_cases hp : pos < s.size
  ·have hd := decode_list s pos
   have hw := decodeL_width (s.data.toList.drop pos)
   have hle := decodeL_le (s.data.toList.drop pos)
   have hcc := hashFrom_cons _ acc (drop_ne hp)
   rw [hcc, ← hd] at hc
   rw [← hd] at hw hle
   have hnx : ∀ ty, (Instr.next (.pointer (some ⟨w.heap.size, 0, none⟩)) true ty).run Tryz.prog (w.iter s pos) = _ := fun ty => run_next_any w s pos ty hp
   have Hc := Lib.hid hc
   clear hd hcc hc
   go_wp2
   go_roundw
   case rel => exact ⟨pos + (Utf8.decode s pos).2, hashStep acc (Utf8.decode s pos), rfl, valv_int (by unfold hashStep; omega), hashStep_lt _ _, by have := Hc.out; rw [List.drop_drop] at this; exact this⟩
   case measure => simp; omega
  ·have hnx : ∀ ty, (Instr.next (.pointer (some ⟨w.heap.size, 0, none⟩)) true ty).run Tryz.prog (w.iter s pos) = _ := fun ty => run_next_end w s pos ty hp
   rw [drop_all hp] at hc
   have Hc := Lib.hid hc
   clear hc
   go_wp2
   go_ret
   exact ⟨retv_int (by have := Hc.out; rw [hashFrom_nil] at this; omega), below_iter _ _ _⟩
end Go.Proofs.YthhceopnnappgaaGreatDoor
namespace Go.Proofs.YthhceopnnappgaaGreatDoor
open Go.RowKit
set_option maxHeartbeats 400000 in
theorem refhash_any (s : ByteArray) (w : World) (hs : s.size ≤ 140737488355328) :
  Calls Tryz.prog 84 #[.string s] w fun e w' => e = .returned (.int .i64 ((hashL s.data.toList : Nat) : Int)) ∧ w = w' := by
 go_enter Tryz.func84, Tryz.ntmps84
 go_wp2_with fail
 go_loop [3, 4] (fun n i => ∃ (pos acc : Nat), i = .int .i64 pos ∧ n = .int .i64 acc ∧ pos ≤ s.size ∧ acc < 4294967296 ∧ hashFrom (s.data.toList.drop pos) acc = hashL s.data.toList) (fun _ i => s.size - (intOf i).toNat)
 case atStart => exact ⟨0, 7, rfl, rfl, by omega, by omega, by simp [hashL]⟩
 case round =>
  obtain ⟨pos, acc, rfl, rfl, hps, hacc, hc⟩ := hrel
  by_cases hp : pos < s.size
  ·have hw := decodeL_width (s.data.toList.drop pos)
   have hle := decodeL_le (s.data.toList.drop pos)
   have hf := decodeL_fits _ (drop_ne hp)
   rw [List.length_drop] at hf
   have hsz : s.data.toList.length = s.size := rfl
   rw [hsz] at hf
   have hcc := hashFrom_cons _ acc (drop_ne hp)
   rw [hcc] at hc
   have Hc := Lib.hid hc
   clear hcc hc hsz
   go_wp2_with fail
   refine (rune1_at s pos hp _ hs).mono ?_
   rintro e w' ⟨c, k, rfl, hc1, hk1, hk2, rfl⟩
   have hk1' : k ≤ 4 := by omega
   have hcle : c ≤ 1114111 := by omega
   have Hc1 := Lib.hid hc1
   have Hk1 := Lib.hid hk1
   clear hc1 hk1 hk2
   by_cases hk0 : 1 ≤ k
   ·go_wp2
    go_round
    case rel => exact ⟨pos + (decodeL (s.data.toList.drop pos)).2, hashStep acc (decodeL (s.data.toList.drop pos)), valv_int (by have := Hk1.out; omega), valv_int (by have := Hc1.out; unfold hashStep; omega), by omega, hashStep_lt _ _, by have := Hc.out; rw [List.drop_drop] at this; exact this⟩
    case measure => simp [intOf]; omega
   ·obtain rfl : k = 0 := by omega
    go_wp2
    go_round
    case rel => exact ⟨pos + (decodeL (s.data.toList.drop pos)).2, hashStep acc (decodeL (s.data.toList.drop pos)), valv_int (by have := Hk1.out; omega), valv_int (by have := Hc1.out; unfold hashStep; omega), by omega, hashStep_lt _ _, by have := Hc.out; rw [List.drop_drop] at this; exact this⟩
    case measure => simp [intOf]; omega
  ·rw [drop_all hp] at hc
   have Hc := Lib.hid hc
   clear hc
   go_wp2
   go_ret
   exact ⟨retv_int (by have := Hc.out; rw [hashFrom_nil] at this; omega), rfl⟩
set_option maxHeartbeats 400000 in
theorem refbucket_any (s : ByteArray) (w : World) (hs : s.size ≤ 140737488355328) :
  Calls Tryz.prog 60 #[.string s] w fun e w' => e = .returned (.int .i64 ((hashL s.data.toList % 8 : Nat) : Int)) ∧ w = w' := by
 have hh := hashL_lt s.data.toList
 go_enter Tryz.func60, Tryz.ntmps60
 go_wp2_with fail
 refine (refhash_any s _ hs).mono ?_
 rintro e w' ⟨rfl, rfl⟩
 go_wp2
 go_ret
 exact ⟨retv_int (by omega), rfl⟩
end Go.Proofs.YthhceopnnappgaaGreatDoor
namespace Go.Proofs.YthhceopnnappgaaGreatDoor
open Go.RowKit
theorem box_ino (w : World) (num : Int) (dir : Bool) (E : Option Addr) (m d : Nat) (data : ByteArray) : ∃ W, w.alloc (.cells #[.int .i64 num, .bool dir, .slice E m d, .string data] 52) = W ∧ W.cell? ⟨w.heap.size, 0, .none⟩ = some (.int .i64 num) ∧ W.cell? ⟨w.heap.size, 1, .none⟩ = some (.bool dir) ∧ W.cell? ⟨w.heap.size, 2, .none⟩ = some (.slice E m d) ∧ W.cell? ⟨w.heap.size, 3, .none⟩ = some (.string data) ∧ Below w.heap.size w W ∧ w.heap.size < W.heap.size := by
 refine ⟨_, rfl, ?_, ?_, ?_, ?_, (Below.refl _ _).alloc (Nat.le_refl _) _, by simp⟩
 ·exact (World.cell?_alloc_mark w _ _ (0, 0) _).trans rfl
 ·exact (World.cell?_alloc_mark w _ _ (0, 0) _).trans rfl
 ·exact (World.cell?_alloc_mark w _ _ (0, 0) _).trans rfl
 ·exact (World.cell?_alloc_mark w _ _ (0, 0) _).trans rfl
theorem box_en (w : World) (name : ByteArray) (num : Int) : ∃ W, w.alloc (.cells #[.string name, .int .i64 num] 84) = W ∧ W.cell? ⟨w.heap.size, 0, .none⟩ = some (.string name) ∧ W.cell? ⟨w.heap.size, 1, .none⟩ = some (.int .i64 num) ∧ Below w.heap.size w W ∧ w.heap.size < W.heap.size := by
 refine ⟨_, rfl, ?_, ?_, (Below.refl _ _).alloc (Nat.le_refl _) _, by simp⟩
 ·exact (World.cell?_alloc_mark w _ _ (0, 0) _).trans rfl
 ·exact (World.cell?_alloc_mark w _ _ (0, 0) _).trans rfl
def ManyAt (w : World) (M : Nat) (f : Nat → Nat) : Prop := ∃ cur : Array Value, w.heap[M]? = some (.cells cur 3 (0, 0)) ∧ ∀ j, j < 8 → cur[j]? = some (.int .i64 (f j : Nat))
theorem ManyAt.lt {w : World} {M : Nat} {f : Nat → Nat} (h : ManyAt w M f) : M < w.heap.size := by
 obtain ⟨cur, hh, _⟩ := h
 exact (Array.getElem?_eq_some_iff.1 hh).1
theorem ManyAt.below {w w' : World} {M : Nat} {f : Nat → Nat} (h : ManyAt w M f) (hb : Below w.heap.size w w') : ManyAt w' M f := by
 have hl := h.lt
 obtain ⟨cur, hh, hc⟩ := h
 exact ⟨cur, (hb.block M hl).trans hh, hc⟩
theorem ManyAt.get {w : World} {M : Nat} {f : Nat → Nat} (h : ManyAt w M f) (j : Nat) (hj : j < 8) : w.cell? ⟨M, j, .none⟩ = some (.int .i64 (f j : Nat)) ∧ w.frozen? ⟨M, j, .none⟩ = false := by
 obtain ⟨cur, hh, hc⟩ := h
 exact ⟨by rw [cell_of_row w M j cur _ (0, 0) hh]; exact hc j hj, frozen_of_row w M j cur _ hh⟩
theorem ManyAt.set {w : World} {M : Nat} {f : Nat → Nat} (h : ManyAt w M f) (b : Nat) (hb : b < 8) : ManyAt (w.setCell ⟨M, b, .none⟩ (.int .i64 ((f b : Int) + 1))) M (fun j => if j = b then f j + 1 else f j) := by
 obtain ⟨cur, hh, hc⟩ := h
 refine ⟨_, heap_setCell_same w M b cur _ _ hh, fun j hj => ?_⟩
 rw [Array.getElem?_setIfInBounds]
 by_cases e : b = j
 ·subst e
  have : b < cur.size := (Array.getElem?_eq_some_iff.1 (hc b hb)).1
  simp [this]
 ·have e2 : ¬ j = b := fun h => e h.symm
  simp only [e, e2, if_false]
  exact hc j hj
theorem make_eight (w : World) : (Instr.makeSlice 24 (.int .i64 8) (.int .i64 8)).run Tryz.prog w = .ok (.slice (some ⟨w.heap.size, 0, .none⟩) 8 8) (w.alloc (.cells #[.int .i64 0, .int .i64 0, .int .i64 0, .int .i64 0, .int .i64 0, .int .i64 0, .int .i64 0, .int .i64 0] 3)) := by kernel_rfl
theorem many_eight (w : World) : ∃ W, w.alloc (.cells #[.int .i64 0, .int .i64 0, .int .i64 0, .int .i64 0, .int .i64 0, .int .i64 0, .int .i64 0, .int .i64 0] 3) = W ∧ ManyAt W w.heap.size (fun _ => 0) ∧ Below w.heap.size w W := by
 refine ⟨_, rfl, ⟨_, heap_alloc_new w _, fun j hj => ?_⟩, (Below.refl _ _).alloc (Nat.le_refl _) _⟩
 have : j = 0 ∨ j = 1 ∨ j = 2 ∨ j = 3 ∨ j = 4 ∨ j = 5 ∨ j = 6 ∨ j = 7 := by omega
 rcases this with h | h | h | h | h | h | h | h <;> subst h <;> rfl
def prevN (es : List En) (k : Nat) : Option ByteArray := if k = 0 then none else (es[k - 1]?).map (·.name)
theorem bktB_lt (s : ByteArray) : bktB s < 8 := Nat.mod_lt _ (by omega)
set_option maxRecDepth 100000 in
set_option maxHeartbeats 8000000 in
theorem entries_any (v : Value) (s : St) (w : World) (h : StAt none w v s) (x : Ino) (E : Option Addr) (m2 d2 : Nat) (hE : EntsAt none w E m2 x.ents) (hmd : SlOk E m2 d2) (hm2 : m2 ≤ 1099511627776) (htx : ∀ e ∈ x.ents, e.name.size ≤ 140737488355328) :
  Calls Tryz.prog 39 #[v, .agg #[.int .i64 x.num, .bool x.dir, .slice E m2 d2, .string x.data]] w fun e w' => e = .returned (.bool (entsV s.inos x.ents)) ∧ Below w.heap.size w w' := by
 obtain ⟨⟨A, n, c, B, m, d, D, k, e, rfl, hI, hD, hM, h5, h6, h7⟩, hz⟩ := h
 obtain ⟨R, hR⟩ : ∃ R, entsV s.inos x.ents = R := ⟨_, rfl⟩
 rw [hR]
 unfold entsV at hR
 obtain ⟨W, hW, b0, b1, b2, hal, hlt0⟩ := box_st w A n c B m d D k e
 obtain ⟨U, hU, y0, y1, y2, y3, hal2, hlt2⟩ := box_ino W x.num x.dir E m2 d2 x.data
 obtain ⟨V, hV, hmany, hal3⟩ := many_eight U
 have bb0 := (hal2.cell (p := ⟨w.heap.size, 0, .none⟩) hlt0).trans b0
 have bb1 := (hal2.cell (p := ⟨w.heap.size, 1, .none⟩) hlt0).trans b1
 have bb2 := (hal2.cell (p := ⟨w.heap.size, 2, .none⟩) hlt0).trans b2
 have HS := Lib.hid ((StAt.of_parts hI hD hM h5 h6 h7 hz).below (Cv.next hal hal2))
 have HE := Lib.hid (hE.below (Cv.next hal hal2))
 have HAL := Lib.hid (Cv.next hal hal2)
 have HAL3 := Lib.hid hal3
 have HR := Lib.hid hR
 have HTX := Lib.hid htx
 have HMY := Lib.hid hmany
 have hmk := make_eight U
 have hlt3 : w.heap.size < U.heap.size := Nat.lt_of_lt_of_le hlt0 hal2.size
 clear hI hD hM hz hR hal hal2 hE htx b0 b1 b2 hmany hal3
 go_enter Tryz.func39, Tryz.ntmps39
 go_wp2_with fail
 clear hW hU hmk hV
 go_loopw [6, 7, 8] (fun i _ _ wr => ∃ (k : Nat) (f : Nat → Nat), i = .int .i64 k ∧ k ≤ m2 ∧ Below U.heap.size U wr ∧ ManyAt wr U.heap.size f ∧ (∀ j, f j ≤ k) ∧ entsG s.inos (x.ents.drop k) (prevN x.ents k) f = R) (fun i _ _ _ => m2 - (intOf i).toNat)
 case atStart => exact ⟨0, fun _ => 0, rfl, by omega, HAL3.out, HMY.out, fun _ => Nat.le_refl _, HR.out⟩
 case round =>
  obtain ⟨k, f, rfl, hk, hbel, hmy, hfk, hc⟩ := hrel
  have z0 := (hbel.cell (p := ⟨w.heap.size, 0, .none⟩) hlt3).trans bb0
  have z1 := (hbel.cell (p := ⟨w.heap.size, 1, .none⟩) hlt3).trans bb1
  have z2 := (hbel.cell (p := ⟨w.heap.size, 2, .none⟩) hlt3).trans bb2
  have z3 := (hbel.cell (p := ⟨W.heap.size, 2, .none⟩) hlt2).trans y2
  have HB := Lib.hid hbel
  have HM := Lib.hid hmy
  have HF := Lib.hid hfk
  have HSr := Lib.hid (HS.out.below hbel)
  have HEr := Lib.hid (HE.out.below hbel)
  clear hbel hmy hfk
  by_cases hlt : k < m2
  ·obtain ⟨g, off, y, rfl, hg, hy, hd, hmem, e0, e1⟩ := HEr.out.get k hlt
   rw [hd, entsG] at hc
   have hsz := HTX.out y hmem
   have k0 : (0 : Int) ≤ (k : Int) := by omega
   have k1 : (k : Int) < (m2 : Int) := by omega
   obtain ⟨BD, hBD⟩ : ∃ BD, entBad s.inos (prevN x.ents k) y = BD := ⟨_, rfl⟩
   rw [hBD] at hc
   have HBD := Lib.hid hBD
   have HC := Lib.hid hc
   have HY := Lib.hid hy
   clear hBD
   clear hc hd hmem hy
   obtain ⟨V2, hV2, v0, v1, hal4, hlt4⟩ := box_en wr y.name y.num
   have HAL4 := Lib.hid hal4
   have HSV := Lib.hid (HSr.out.below hal4)
   have HEV := Lib.hid (HEr.out.below hal4)
   clear hal4
   go_upto_region 6 with fail
   have x0 := (HAL4.out.cell (p := ⟨w.heap.size, 0, .none⟩) (Nat.lt_of_lt_of_le hlt3 HB.out.size)).trans z0
   have x1 := (HAL4.out.cell (p := ⟨w.heap.size, 1, .none⟩) (Nat.lt_of_lt_of_le hlt3 HB.out.size)).trans z1
   have x2 := (HAL4.out.cell (p := ⟨w.heap.size, 2, .none⟩) (Nat.lt_of_lt_of_le hlt3 HB.out.size)).trans z2
   have x3 := (HAL4.out.cell (p := ⟨W.heap.size, 2, .none⟩) (Nat.lt_of_lt_of_le hlt2 HB.out.size)).trans z3
   have hx : ∀ (X : Ext V2) (p : Addr), (V2.cell? p).isSome = true → X.w.cell? p = V2.cell? p := fun X p h => X.cell p h
   have hsp : (0 : Nat) ≤ 0 := Nat.le_refl _
   clear hV2 z0 z1 z2 z3 e0 e1
   go_cut [54] (fun c wx => c = .bool BD ∧ ∃ X : Ext V2, wx = X.w)
   case first =>
    by_cases hchk : checkL y.name.data.toList = 0
    ·have qc : (((checkL y.name.data.toList : Nat) : Int) != 0) = false := by rw [hchk]; rfl
     by_cases hk0 : k = 0
     ·have q1 : decide ((0 : Int) < (k : Int)) = false := by simp; omega
      have hp : prevN x.ents k = none := if_pos hk0
      by_cases hnum : y.num = 1
      ·have q2 : (y.num == 1) = true := by rw [hnum]; rfl
       refine wre ?_
       repeat (go_big_quiet_step (first | (go_at_call 58; rename_i X; exact Calls.ext_of_same (refcheck_any _ _ hsz)) | (go_at_call 59; rename_i X; exact Calls.ext_of ((ltn_any _ _ _ hsp hsz).mono fun _ _ hh => ⟨hh.1, by obtain ⟨q, rfl⟩ := hh.2; exact Cv.drewN_below (Below.refl _ _) q⟩)) | (go_at_call 57; rename_i X; exact Calls.ext_of (at_any _ s _ _ (HSV.out.below X.bel)))))
       refine wpQuiet_nil ?_
       rintro w7 ⟨X, rfl⟩
       go_wp2_with fail
       go_meet
       exact ⟨congrArg Value.bool (by rw [← HBD.out]; unfold entBad chkB; rw [hp]; simp [hchk, hnum]), X, rfl⟩
      ·have q2 : (y.num == 1) = false := by rw [beq_eq_false_iff_ne]; exact hnum
       refine wre ?_
       repeat (go_big_quiet_step (first | (go_at_call 58; rename_i X; exact Calls.ext_of_same (refcheck_any _ _ hsz)) | (go_at_call 59; rename_i X; exact Calls.ext_of ((ltn_any _ _ _ hsp hsz).mono fun _ _ hh => ⟨hh.1, by obtain ⟨q, rfl⟩ := hh.2; exact Cv.drewN_below (Below.refl _ _) q⟩)) | (go_at_call 57; rename_i X; exact Calls.ext_of (at_any _ s _ _ (HSV.out.below X.bel)))))
       refine wpQuiet_nil ?_
       rintro w7 ⟨X, rfl⟩
       go_wp2_with fail
       go_meet
       exact ⟨congrArg Value.bool (by rw [← HBD.out]; unfold entBad chkB; rw [hp]; simp [hchk, hnum]), X, rfl⟩
     ·obtain ⟨j, rfl⟩ : ∃ j, k = j + 1 := ⟨k - 1, by omega⟩
      have q1 : decide ((0 : Int) < ((j + 1 : Nat) : Int)) = true := by rw [decide_eq_true_eq]; omega
      have q1b : decide ((0 : Int) < (j : Int) + 1) = true := by rw [decide_eq_true_eq]; omega
      obtain ⟨g', off', y', hA', hg', hy', _, hmem', f0, f1⟩ := HEV.out.get j (by omega)
      injection hA' with hA'
      injection hA' with hA1 hA2
      subst hA1 hA2
      have hsp := HTX.out y' hmem'
      have hp : prevN x.ents (j + 1) = some y'.name := by unfold prevN; rw [if_neg (by omega), Nat.add_sub_cancel, hy']; rfl
      have j0 : (0 : Int) ≤ (j : Int) := by omega
      have j1 : (j : Int) < (m2 : Int) := by omega
      have jw : IntKind.i64.wrap ((j : Int) + 1 - 1) = (j : Int) := by rw [IntKind.wrap_i64]; omega
      have HP := Lib.hid hp
      clear hp hy' hmem' hk0
      by_cases hlt2 : ltN y'.name y.name = true
      ·by_cases hnum : y.num = 1
       ·have q2 : (y.num == 1) = true := by rw [hnum]; rfl
        refine wre ?_
        repeat (go_big_quiet_step (first | (go_at_call 58; rename_i X; exact Calls.ext_of_same (refcheck_any _ _ hsz)) | (go_at_call 59; rename_i X; exact Calls.ext_of ((ltn_any _ _ _ hsp hsz).mono fun _ _ hh => ⟨hh.1, by obtain ⟨q, rfl⟩ := hh.2; exact Cv.drewN_below (Below.refl _ _) q⟩)) | (go_at_call 57; rename_i X; exact Calls.ext_of (at_any _ s _ _ (HSV.out.below X.bel)))))
        refine wpQuiet_nil ?_
        rintro w7 ⟨X, rfl⟩
        go_wp2_with fail
        go_meet
        exact ⟨congrArg Value.bool (by rw [← HBD.out]; unfold entBad chkB; rw [HP.out]; simp [hchk, hnum, hlt2]), X, rfl⟩
       ·have q2 : (y.num == 1) = false := by rw [beq_eq_false_iff_ne]; exact hnum
        refine wre ?_
        repeat (go_big_quiet_step (first | (go_at_call 58; rename_i X; exact Calls.ext_of_same (refcheck_any _ _ hsz)) | (go_at_call 59; rename_i X; exact Calls.ext_of ((ltn_any _ _ _ hsp hsz).mono fun _ _ hh => ⟨hh.1, by obtain ⟨q, rfl⟩ := hh.2; exact Cv.drewN_below (Below.refl _ _) q⟩)) | (go_at_call 57; rename_i X; exact Calls.ext_of (at_any _ s _ _ (HSV.out.below X.bel)))))
        refine wpQuiet_nil ?_
        rintro w7 ⟨X, rfl⟩
        go_wp2_with fail
        go_meet
        exact ⟨congrArg Value.bool (by rw [← HBD.out]; unfold entBad chkB; rw [HP.out]; simp [hchk, hnum, hlt2]), X, rfl⟩
      ·have hlt3 : ltN y'.name y.name = false := by simpa using hlt2
       refine wre ?_
       repeat (go_big_quiet_step (first | (go_at_call 58; rename_i X; exact Calls.ext_of_same (refcheck_any _ _ hsz)) | (go_at_call 59; rename_i X; exact Calls.ext_of ((ltn_any _ _ _ hsp hsz).mono fun _ _ hh => ⟨hh.1, by obtain ⟨q, rfl⟩ := hh.2; exact Cv.drewN_below (Below.refl _ _) q⟩)) | (go_at_call 57; rename_i X; exact Calls.ext_of (at_any _ s _ _ (HSV.out.below X.bel)))))
       refine wpQuiet_nil ?_
       rintro w7 ⟨X, rfl⟩
       go_wp2_with fail
       go_meet
       exact ⟨congrArg Value.bool (by rw [← HBD.out]; unfold entBad chkB; rw [HP.out]; simp [hchk, hlt3]), X, rfl⟩
    ·have qc : (((checkL y.name.data.toList : Nat) : Int) != 0) = true := by rw [bne_iff_ne]; omega
     refine wre ?_
     repeat (go_big_quiet_step (first | (go_at_call 58; rename_i X; exact Calls.ext_of_same (refcheck_any _ _ hsz)) | (go_at_call 59; rename_i X; exact Calls.ext_of ((ltn_any _ _ _ hsp hsz).mono fun _ _ hh => ⟨hh.1, by obtain ⟨q, rfl⟩ := hh.2; exact Cv.drewN_below (Below.refl _ _) q⟩)) | (go_at_call 57; rename_i X; exact Calls.ext_of (at_any _ s _ _ (HSV.out.below X.bel)))))
     refine wpQuiet_nil ?_
     rintro w7 ⟨X, rfl⟩
     go_wp2_with fail
     go_meet
     exact ⟨congrArg Value.bool (by rw [← HBD.out]; unfold entBad chkB; simp [hchk]), X, rfl⟩
   case rest =>
    obtain ⟨rfl, X, rfl⟩ := hcut
    generalize hZe : X.w = Z
    have hZ := hZe ▸ X.bel
    clear hZe X
    have hbx := Cv.next HAL4.out hZ
    have e0 := (hZ.cell (p := ⟨wr.heap.size, 0, .none⟩) hlt4).trans v0
    have hU := Cv.next HB.out hbx
    have HMZ := Lib.hid (HM.out.below hbx)
    have HUZ := Lib.hid hU
    clear hx x0 x1 x2 x3 v0 v1 hbx hU hZ
    cases BD
    rotate_left
    ·have hr := HC.out
     rw [if_pos rfl] at hr
     have HR2 := Lib.hid hr
     clear hr
     go_wp2_with fail
     go_ret
     exact ⟨Cv.ret_bool HR2.out, Cv.next HAL.out HUZ.out⟩
    ·have hr := HC.out
     rw [if_neg (by simp)] at hr
     obtain ⟨b, hb⟩ : ∃ b, hashL y.name.data.toList % 8 = b := ⟨_, rfl⟩
     have hbk : bktB y.name = b := hb
     rw [hbk] at hr
     have hb8 : b < 8 := by rw [← hb]; exact Nat.mod_lt _ (by omega)
     have hfb := HF.out b
     obtain ⟨cb, fz⟩ := HMZ.out.get b hb8
     have b0 : (0 : Int) ≤ (b : Int) := by omega
     have b8 : (b : Int) < 8 := by omega
     have wf : IntKind.i64.wrap ((f b : Int) + 1) = (f b : Int) + 1 := by rw [IntKind.wrap_i64]; omega
     have HBK := Lib.hid hb
     have HR2 := Lib.hid hr
     clear hr hbk hb
     go_wp2_with fail
     refine (refbucket_any y.name _ hsz).mono ?_
     rintro e w2 ⟨rfl, rfl⟩
     rw [HBK.out]
     by_cases h4 : 4 < f b + 1
     ·have hr := HR2.out
      rw [if_pos h4] at hr
      have HR3 := Lib.hid hr
      have q4 : decide ((4 : Int) < (f b : Int) + 1) = true := by simp; omega
      clear hr
      go_wp2_with fail
      go_ret
      exact ⟨Cv.ret_bool HR3.out, Cv.next HAL.out (HUZ.out.setCell (Nat.le_refl _) _)⟩
     ·have hr := HR2.out
      rw [if_neg h4] at hr
      have HR3 := Lib.hid hr
      have q4 : decide ((4 : Int) < (f b : Int) + 1) = false := by simp; omega
      clear hr
      go_wp2_with fail
      go_roundw
      case rel => exact ⟨k + 1, fun j => if j = b then f j + 1 else f j, by go_num, by omega, HUZ.out.setCell (Nat.le_refl _) _, HMZ.out.set b hb8, fun j => by have := HF.out j; simp only; split <;> omega, by
       have e : prevN x.ents (k + 1) = some y.name := by unfold prevN; rw [if_neg (by omega), Nat.add_sub_cancel, HY.out]; rfl
       rw [e]
       exact HR3.out⟩
      case measure => simp [intOf]; omega
  ·have : x.ents.drop k = [] := List.drop_eq_nil_of_le (by have := HEr.out.1; omega)
   rw [this, entsG] at hc
   have HC := Lib.hid hc
   clear hc this
   go_wp2_with fail
   go_ret
   exact ⟨Cv.ret_bool HC.out, Cv.next HAL.out HB.out⟩
end Go.Proofs.YthhceopnnappgaaGreatDoor
