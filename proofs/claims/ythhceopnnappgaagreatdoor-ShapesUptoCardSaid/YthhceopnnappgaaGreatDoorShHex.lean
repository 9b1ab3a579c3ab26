/- shape.Hex, by its contract. -/
import Derived.Test.YthhceopnnappgaaGreatDoorShBuild
import Derived.Test.YthhceopnnappgaaGreatDoorShP
import Derived.Lib.ItoaWalk
set_option linter.unusedVariables false
set_option linter.unusedSimpArgs false
namespace Go.Proofs.YthhceopnnappgaaGreatDoor
open Go.RowKit
def tabH : ByteArray := ⟨#[48, 49, 50, 51, 52, 53, 54, 55, 56, 57, 97, 98, 99, 100, 101, 102]⟩
theorem tabH_fin : ∀ n : Fin 16, tabH.data.toList.getD n.val 0 = hexD n.val := by decide +kernel
theorem tabH_at (n : Nat) (h : n < 16) {hh : n < (⟨#[48, 49, 50, 51, 52, 53, 54, 55, 56, 57, 97, 98, 99, 100, 101, 102]⟩ : ByteArray).size} : (⟨#[48, 49, 50, 51, 52, 53, 54, 55, 56, 57, 97, 98, 99, 100, 101, 102]⟩ : ByteArray)[n]'hh = hexD n := by
 rw [← tabH_fin ⟨n, h⟩]
 exact Lib.getD_at tabH n hh
theorem freshB (w : World) : BldH w.heap.size w.heap.size [] (w.alloc (.cells #[.pointer none, .slice none 0 0] 59)) :=
 Lib.IsBuilderF.of (Lib.fresh_isBuilder _ _ w)
theorem hexL_take (l : List UInt8) (q : Nat) (h : q < l.length) : hexL (l.take (q + 1)) = hexL (l.take q) ++ [hexD ((l.getD q 0).toNat / 16)] ++ [hexD ((l.getD q 0).toNat % 16)] := by
 induction l generalizing q with
 | nil => simp at h
 | cons a l ih =>
  cases q with
  | zero => simp [hexL]
  | succ q =>
   have := ih q (by simpa using h)
   simp only [List.take_succ_cons, hexL, List.getD_cons_succ]
   rw [this]
   simp
set_option maxRecDepth 100000 in
set_option maxHeartbeats 2000000 in
theorem hexsh_any (s : ByteArray) (w : World) (hs : s.size ≤ 1048576) :
  Calls Tryz.prog 26 #[.string s] w fun e w' => e = .returned (.string (txt (hexT s.data.toList))) ∧ Below w.heap.size w w' := by
 have hll : s.data.toList.length = s.size := Array.length_toList
 have HLL := Lib.hid hll
 clear hll
 go_enter Tryz.func26, Tryz.ntmps26
 go_wp2_with fail
 ·rename_i he
  go_ret
  refine ⟨?_, Below.refl _ _⟩
  rw [ByteArray.toList_eq] at he
  unfold hexT
  rw [if_pos (List.isEmpty_iff.1 he)]
  rfl
 ·rename_i he _ _
  rw [ByteArray.toList_eq] at he
  have hne : s.data.toList ≠ [] := fun e => by rw [e] at he; cases he
  have HNE := Lib.hid hne
  clear he hne
  go_loopw [9] (fun v wr => ∃ q : Nat, v = .int .i64 q ∧ q ≤ s.size ∧ BldH w.heap.size w.heap.size (hexL (s.data.toList.take q)) wr ∧ Below w.heap.size w wr) (fun v _ => s.size - (intOf v).toNat)
  case atStart => exact ⟨0, rfl, by omega, freshB w, (Below.refl _ _).alloc (Nat.le_refl _) _⟩
  case round =>
   obtain ⟨q, rfl, hq, hbl, hbel⟩ := hrel
   have HBL := Lib.hid hbl
   have HB := Lib.hid hbel
   clear hbl hbel
   by_cases hlt : q < s.size
   ·have q1 : decide ((q : Int) < (s.size : Int)) = true := by rw [decide_eq_true_eq]; omega
    have k0 : (0 : Int) ≤ (q : Int) := by omega
    have hb : s[q].toNat < 256 := UInt8.toNat_lt _
    have k1 : (0 : Int) ≤ (s[q].toNat : Int) / 16 := by omega
    have k2 : (s[q].toNat : Int) / 16 < 16 := by omega
    go_wp2_with fail
    refine (writebyte_anyH _ _ _ (hexD (s[q].toNat / 16)) _ _ (by rw [tabH_at _ (by omega)]) HBL.out (by rw [hexL_len, List.length_take]; omega) HB.out.size).mono ?_
    rintro e1 w1 ⟨rfl, hbl1, hb1⟩
    have HBL1 := Lib.hid hbl1
    have HB1 := Lib.hid (HB.out.trans hb1.below)
    clear hbl1 hb1
    go_wp2_with fail
    refine (writebyte_anyH _ _ _ (hexD (s[q].toNat % 16)) _ _ (by rw [tabH_at _ (by omega)]) HBL1.out (by rw [List.length_append, hexL_len, List.length_take]; simp; omega) HB1.out.size).mono ?_
    rintro e2 w2 ⟨rfl, hbl2, hb2⟩
    have hgq : s.data.toList.getD q 0 = s[q] := (Lib.getD_at s q hlt).symm
    have hbl3 : BldH w.heap.size w.heap.size (hexL (s.data.toList.take (q + 1))) w2 := by
     rw [hexL_take _ _ (by have := HLL.out; omega), hgq]
     exact hbl2
    have HBL2 := Lib.hid hbl3
    have HB2 := Lib.hid (HB1.out.trans hb2.below)
    clear hbl2 hb2 hbl3 hgq
    go_wp2_with fail
    go_roundw
    case rel => exact ⟨q + 1, by go_num, by omega, HBL2.out, HB2.out⟩
    case measure => simp [intOf]; omega
   ·have q1 : decide ((q : Int) < (s.size : Int)) = false := by rw [decide_eq_false_iff_not]; omega
    have hall : s.data.toList.take q = s.data.toList := List.take_of_length_le (by have := HLL.out; omega)
    have hne := HNE.out
    have hbl := HBL.out
    rw [hall] at hbl
    have hx : hexL s.data.toList ≠ [] := fun e => by
     have := congrArg List.length e
     rw [hexL_len] at this
     exact hne (List.eq_nil_of_length_eq_zero (by rw [List.length_nil] at this; omega))
    have HBL2 := Lib.hid hbl
    have HX := Lib.hid hx
    have HT : Hid (hexT s.data.toList = hexL s.data.toList) := Lib.hid (by unfold hexT; rw [if_neg hne])
    clear hbl hall hx hne
    go_wp2_with fail
    refine (string_anyH _ _ _ _ HBL2.out HX.out).mono ?_
    rintro e1 w1 ⟨rfl, hbl1, hb1⟩
    have HB1 := Lib.hid (HB.out.trans hb1.below)
    clear hbl1 hb1
    go_wp2_with fail
    go_ret
    refine ⟨?_, HB1.out⟩
    rw [HT.out]
    rfl
end Go.Proofs.YthhceopnnappgaaGreatDoor
