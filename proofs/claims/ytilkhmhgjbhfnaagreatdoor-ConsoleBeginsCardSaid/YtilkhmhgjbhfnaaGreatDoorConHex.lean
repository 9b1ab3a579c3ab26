/- Chapter 27: bytes read from digits. -/
import Derived.Test.YtilkhmhgjbhfnaaGreatDoorM15
import Derived.Test.YtilkhmhgjbhfnaaGreatDoorM19
import Derived.Test.YtilkhmhgjbhfnaaGreatDoorM00
import Derived.Test.YtilkhmhgjbhfnaaGreatDoorM01
set_option linter.unusedVariables false
set_option linter.unusedSimpArgs false
namespace Go.Proofs.YtilkhmhgjbhfnaaGreatDoor
open Go.RowKit
theorem idx_all : ∀ n : Fin 256, Lib.indexByte [48, 49, 50, 51, 52, 53, 54, 55, 56, 57, 97, 98, 99, 100, 101, 102] (UInt8.ofNat n.val) = hexV (UInt8.ofNat n.val) := by decide +kernel
theorem idx_hex (b : UInt8) : Lib.indexByte [48, 49, 50, 51, 52, 53, 54, 55, 56, 57, 97, 98, 99, 100, 101, 102] b = hexV b := by
 have h := idx_all ⟨b.toNat, UInt8.toNat_lt b⟩
 simpa using h
theorem idx_any (b : UInt8) (w : World) : Calls Tryz.prog 80 #[.string ⟨#[48, 49, 50, 51, 52, 53, 54, 55, 56, 57, 97, 98, 99, 100, 101, 102]⟩, .int .u8 (b.toNat : Int)] w fun e w' => e = .returned (.int .i64 (hexV b)) ∧ w = w' := by
 refine (strings_IndexByte _ _ w).mono ?_
 rintro e w' ⟨rfl, rfl⟩
 refine ⟨?_, rfl⟩
 have e1 : ((b.toNat : Int)).toNat.toUInt8 = b := by simp
 rw [e1]
 exact congrArg (fun x => Ending.returned (.int .i64 x)) (idx_hex b)
theorem hexV_range (b : UInt8) : -1 ≤ hexV b ∧ hexV b ≤ 15 := by
 unfold hexV
 have := UInt8.toNat_lt b
 split
 ·omega
 ·split <;> omega
theorem unhex_step {a b : UInt8} {r T l : List UInt8} (h : unhexL l = (unhexL (a :: b :: r)).map (T ++ ·)) (ha : 0 ≤ hexV a) (hb : 0 ≤ hexV b) : unhexL l = (unhexL r).map ((T ++ [UInt8.ofNat (hexV a * 16 + hexV b).toNat]) ++ ·) := by
 rw [h, unhexL, if_neg (by omega), Option.map_map]
 congr 1
 funext x
 simp
theorem unhex_bad {a b : UInt8} {r T l : List UInt8} (h : unhexL l = (unhexL (a :: b :: r)).map (T ++ ·)) (ha : hexV a < 0 ∨ hexV b < 0) : unhexL l = none := by
 rw [h, unhexL, if_pos ha]
 rfl
theorem unhex_end {r T l : List UInt8} (h : unhexL l = (unhexL r).map (T ++ ·)) (hr : r.length ≤ 1) : unhexL l = some T := by
 rw [h]
 match r, hr with
 | [], _ => simp [unhexL]
 | [_], _ => simp [unhexL]
theorem or_all : ∀ i : Fin 16, ∀ j : Fin 16, bits .or .i64 ((i.val : Int) * 16) (j.val : Int) % 256 = ((UInt8.ofNat (i.val * 16 + j.val)).toNat : Int) := by decide +kernel
theorem infoU8c : (Tryz.prog.info? 5).map (fun i => (i.zero, i.size, i.bytes)) = some (some (.int .u8 0), 1, 1) := by kernel_rfl
set_option maxRecDepth 100000 in
set_option maxHeartbeats 4000000 in
theorem unhex_any (s : ByteArray) (w : World) (hs : s.size ≤ 1048576) :
  Calls Tryz.prog 61 #[.string s] w fun e w' => e = .returned (.tuple #[.string (unhexB s).1, .bool (unhexB s).2]) ∧ Below w.heap.size w w' := by
 have hll : s.data.toList.length = s.size := Array.length_toList
 have HLL := Lib.hid hll
 clear hll
 obtain ⟨i0, hi, hz0, hz1, hz2⟩ := info_parts infoU8c
 obtain ⟨R, hR⟩ : ∃ R, unhexB s = R := ⟨_, rfl⟩
 rw [hR]
 unfold unhexB at hR
 have HR := Lib.hid hR
 clear hR
 go_enter Tryz.func61, Tryz.ntmps61
 by_cases h45 : s.data.toList = [45]
 ·have hs0 : s = ⟨#[45]⟩ := ByteArray.ext (Array.toList_inj.1 (by rw [h45]))
  obtain rfl : R = (⟨#[]⟩, true) := by rw [← HR.out, if_pos h45]
  subst hs0
  clear h45
  go_wp2_with fail
  refine bodyPost_ret (results_tmp2 rfl _ _ _) rfl ?_
  exact ⟨rfl, Below.refl _ _⟩
 ·have e45 : (s.toList == [45]) = false := by rw [ByteArray.toList_eq, beq_eq_false_iff_ne]; exact h45
  have H45 := Lib.hid h45
  clear h45
  go_wp2_with fail
  go_loopw [4, 5] (fun v i wr => ∃ (q : Nat) (T : List UInt8), i = .int .i64 (q : Int) ∧ q ≤ s.size + 1 ∧ unhexL s.data.toList = (unhexL (s.data.toList.drop q)).map (T ++ ·) ∧ T.length ≤ q ∧ wr.ownsRow w.heap.size 5 1 v T.length (T.map fun b => Value.int .u8 (b.toNat : Int)) ∧ Below w.heap.size w wr) (fun _ i _ => s.size + 1 - (intOf i).toNat)
  case atStart => exact ⟨0, [], rfl, by omega, by simp, by simp, World.ownsRow_nil _ _ _ _, Below.refl _ _⟩
  case round =>
   obtain ⟨q, T, rfl, hq, hun, hT, hown, hb⟩ := hrel
   have HUN := Lib.hid hun
   have HOW := Lib.hid hown
   have HB := Lib.hid hb
   clear hun hown hb
   by_cases hlt : q + 1 < s.size
   ·have q1 : decide ((q : Int) + 1 < (s.size : Int)) = true := decide_eq_true (by omega)
    have k0 : (0 : Int) ≤ (q : Int) := by omega
    have k1 : (0 : Int) ≤ (q : Int) + 1 := by omega
    have k2 : ((q : Int) + 1).toNat = q + 1 := by omega
    have k4 : (q : Int) < (s.size : Int) := by omega
    have k5 : (q : Int) + 1 < (s.size : Int) := by omega
    have k6 : q < s.size := by omega
    go_wp2_with fail
    have hX := @Ext.cell wr
    refine wre ?_
    repeat (go_big_quiet_step (first | (go_at_call 80; exact Calls.ext_of_same (idx_any _ _))))
    refine wpQuiet_nil ?_
    rintro w9 ⟨X, rfl⟩
    obtain ⟨a, ha⟩ : ∃ a, s[q] = a := ⟨_, rfl⟩
    obtain ⟨b, hb⟩ : ∃ b, s[q + 1] = b := ⟨_, rfl⟩
    have hdr : s.data.toList.drop q = a :: b :: s.data.toList.drop (q + 2) := by
     have h1 : q < s.data.toList.length := by rw [HLL.out]; omega
     have h2 : q + 1 < s.data.toList.length := by rw [HLL.out]; omega
     rw [List.drop_eq_getElem_cons h1, List.drop_eq_getElem_cons h2, ← ha, ← hb]
     rfl
    have hun := HUN.out
    rw [hdr] at hun
    have HUN2 := Lib.hid hun
    have HB2 := Lib.hid (Cv.next (HB.out.mono (Nat.le_refl _)) X.bel)
    have HOW2 := Lib.hid (HOW.out.kept (row := none) ⟨X.bel.os, X.bel.tape, X.bel.output, X.bel.size, fun i hi _ => X.bel.block i hi⟩ (by cases hv : u4.ownBlock with | none => exact .inl rfl | some g => exact .inr (by simp)))
    obtain ⟨ra1, ra2⟩ := hexV_range a
    obtain ⟨rb1, rb2⟩ := hexV_range b
    rw [ha, hb]
    obtain ⟨x, hx⟩ : ∃ x, hexV a = x := ⟨_, rfl⟩
    obtain ⟨y, hy⟩ : ∃ y, hexV b = y := ⟨_, rfl⟩
    rw [hx] at ra1 ra2
    rw [hy] at rb1 rb2
    rw [hx, hy]
    have HX := Lib.hid hx
    have HY := Lib.hid hy
    clear hX hun hdr ha hb hx hy
    by_cases hx0 : x < 0
    ·obtain rfl : R = (⟨#[]⟩, false) := by rw [← HR.out, if_neg H45.out, unhex_bad HUN2.out (.inl (by rw [HX.out]; exact hx0))]
     have kx : decide (x < 0) = true := decide_eq_true hx0
     clear hx0
     go_wp2_with fail
     refine bodyPost_ret (results_tmp2 rfl _ _ _) rfl ?_
     exact ⟨rfl, HB2.out⟩
    ·have kx : decide (x < 0) = false := decide_eq_false hx0
     by_cases hy0 : y < 0
     ·obtain rfl : R = (⟨#[]⟩, false) := by rw [← HR.out, if_neg H45.out, unhex_bad HUN2.out (.inr (by rw [HY.out]; exact hy0))]
      have ky : decide (y < 0) = true := decide_eq_true hy0
      clear hx0 hy0
      go_wp2_with fail
      refine bodyPost_ret (results_tmp2 rfl _ _ _) rfl ?_
      exact ⟨rfl, HB2.out⟩
     ·have ky : decide (y < 0) = false := decide_eq_false hy0
      obtain ⟨xn, rfl⟩ : ∃ n : Nat, x = (n : Int) := ⟨x.toNat, by omega⟩
      obtain ⟨yn, rfl⟩ : ∃ n : Nat, y = (n : Int) := ⟨y.toNat, by omega⟩
      have hx16 : xn < 16 := by omega
      have hy16 : yn < 16 := by omega
      obtain ⟨v, hv⟩ : ∃ v, UInt8.ofNat (xn * 16 + yn) = v := ⟨_, rfl⟩
      have hbv : bits .or .i64 ((xn : Int) * 16) (yn : Int) % 256 = (v.toNat : Int) := by rw [← hv]; exact or_all ⟨xn, hx16⟩ ⟨yn, hy16⟩
      have HUN3 := Lib.hid (show unhexL s.data.toList = (unhexL (s.data.toList.drop (q + 2))).map ((T ++ [v]) ++ ·) by
       have h := unhex_step HUN2.out (by rw [HX.out]; omega) (by rw [HY.out]; omega)
       rw [HX.out, HY.out, show ((xn : Int) * 16 + (yn : Int)).toNat = xn * 16 + yn by omega, hv] at h
       exact h)
      have HAL := Lib.hid (HOW2.out.alloc (.cells #[.int .u8 (v.toNat : Int)] 5))
      clear hx0 hy0 ra1 ra2 rb1 rb2 hv
      go_wp2_with (at_builtin; refine wpList_append_own _ rfl _ _ 37 rfl w.heap.size 5 i0 (.int .u8 0) 1 1 Tryz.underlying37 hi hz0 hz1 hz2 rfl (by decide) _ _ _ rfl HAL.out ⟨X.w.heap.size, 0, .none⟩ 1 1 [.int .u8 (v.toNat : Int)] rfl rfl ?ca2 ?ca3 ?ca4 ?ca5 ?ca6 ?_)
      case ca2 => exact cell_one_new _ _ _
      case ca3 =>
       intro u hu
       simp at hu
       subst hu
       rfl
      case ca4 => unfold maxLen; omega
      case ca5 => omega
      case ca6 => exact Nat.le_trans HB2.out.size (by simp)
      intro v' w2 hown' hgrow _
      have HB3 := Lib.hid ((HB2.out.alloc HB2.out.size _).grown hgrow (Nat.le_trans HB2.out.size (by simp)) fun x hx => (HAL.out.lt x hx).1)
      have HO3 := Lib.hid (show w2.ownsRow w.heap.size 5 1 v' (T ++ [v]).length ((T ++ [v]).map fun b => Value.int .u8 (b.toNat : Int)) by
       rw [List.map_append, List.length_append]
       exact hown')
      clear hown' hgrow
      go_wp2_with fail
      go_roundw
      case rel => exact ⟨q + 2, T ++ [v], by go_num, by omega, HUN3.out, by rw [List.length_append]; simp; omega, HO3.out, HB3.out⟩
      case measure => simp [intOf]; omega
   ·have q1 : decide ((q : Int) + 1 < (s.size : Int)) = false := decide_eq_false (by omega)
    have hend := unhex_end HUN.out (by rw [List.length_drop, HLL.out]; omega)
    obtain ⟨A, c, hv, hc, hn, hg⟩ := row_any HOW.out (by decide)
    subst hv
    have hcv2 : (convert 37 9 (.slice A T.length c)).run Tryz.prog wr = .ok (.string ⟨T.toArray⟩) wr := by
     rcases A with _ | ad
     ·have hT0 : T = [] := List.eq_nil_of_length_eq_zero (hn rfl).1
      subst hT0
      rw [run_convert_bytes_string (P := Tryz.prog) wr 37 9 5 none _ c Tryz.underlying37 Tryz.underlying5 Tryz.underlying9]
      rfl
     ·refine run_convert_bytes_back (P := Tryz.prog) wr 37 9 5 ad c T Tryz.underlying37 Tryz.underlying5 Tryz.underlying9 (fun j hj => ?_)
      obtain ⟨g, hA, hlt', hm, hcell⟩ := hg (by omega)
      injection hA with hA
      subst hA
      rw [Cv.addr_add, hcell j (by omega), List.getElem?_map, List.getElem?_eq_getElem hj]
      rfl
    have HR3 := Lib.hid (show R = (⟨T.toArray⟩, decide (s.data.toList ≠ []) && decide (s.data.toList.length % 2 = 0)) by rw [← HR.out, if_neg H45.out, hend])
    clear hend hc hn hg
    by_cases hs0 : s.data.toList = []
    ·have hS0 : s = ⟨#[]⟩ := ByteArray.ext (Array.toList_inj.1 (by rw [hs0]))
     obtain rfl : R = (⟨T.toArray⟩, false) := by rw [HR3.out, decide_eq_false (fun h => h hs0), Bool.false_and]
     subst hS0
     clear hs0
     go_wp2_with fail
     refine bodyPost_ret (results_tmp2 rfl _ _ _) rfl ?_
     exact ⟨rfl, HB.out⟩
    ·have hlb1 : (s.toList != []) = true := by rw [ByteArray.toList_eq, bne_iff_ne]; exact hs0
     have hlb2 : s.toList.isEmpty = false := by rw [ByteArray.toList_eq, List.isEmpty_eq_false_iff]; exact hs0
     obtain ⟨e2, he2⟩ : ∃ e, decide (s.data.toList.length % 2 = 0) = e := ⟨_, rfl⟩
     obtain rfl : R = (⟨T.toArray⟩, e2) := by rw [HR3.out, decide_eq_true hs0, he2, Bool.true_and]
     have he3 : ((s.size : Int) % 2 == 0) = e2 := by
      rw [← he2, HLL.out]
      by_cases h : s.size % 2 = 0
      ·rw [decide_eq_true h, beq_iff_eq]; omega
      ·rw [decide_eq_false h, beq_eq_false_iff_ne]; omega
     clear hs0 he2
     go_wp2_with fail
     refine bodyPost_ret (results_tmp2 rfl _ _ _) rfl ?_
     exact ⟨rfl, HB.out⟩
end Go.Proofs.YtilkhmhgjbhfnaaGreatDoor
