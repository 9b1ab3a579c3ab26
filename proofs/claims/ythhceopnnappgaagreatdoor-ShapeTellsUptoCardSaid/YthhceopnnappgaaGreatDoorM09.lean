/- Parts of the proof, side by side: FsBelow, NameHash, RefHash. -/
import Derived.Test.YthhceopnnappgaaGreatDoorM02
import Derived.Test.YthhceopnnappgaaGreatDoorM05
set_option linter.unusedVariables false
set_option linter.unusedSimpArgs false
namespace Go.Proofs.YthhceopnnappgaaGreatDoor
open Go.RowKit
theorem drop_cons (s : ByteArray) (k : Nat) (h : k < s.size) : s.data.toList.drop k = s[k] :: s.data.toList.drop (k + 1) := by
 rw [List.drop_eq_getElem_cons (by simpa using h)]
 rfl
theorem drop_end (s : ByteArray) (k : Nat) (h : ¬ k < s.size) : s.data.toList.drop k = [] := List.drop_eq_nil_of_le (by
 have : s.data.toList.length = s.size := rfl
 omega)
set_option maxHeartbeats 2000000 in
theorem ltn_any (a b : ByteArray) (w : World) (ha : a.size ≤ 140737488355328) (hb : b.size ≤ 140737488355328) :
  Calls Tryz.prog 59 #[.string a, .string b] w fun e w' => e = .returned (.bool (ltN a b)) ∧ ∃ q, w' = w.drewN q := by
 obtain ⟨R, hR⟩ : ∃ R, ltN a b = R := ⟨_, rfl⟩
 rw [hR]
 unfold ltN at hR
 have HR := Lib.hid hR
 clear hR
 go_enter Tryz.func59, Tryz.ntmps59
 go_wp2_with fail
 go_loopw [5] (fun i wr => ∃ k q : Nat, i = .int .i64 k ∧ k ≤ a.size ∧ k ≤ b.size ∧ wr = w.drewN q ∧ ltB (a.data.toList.drop k) (b.data.toList.drop k) = R) (fun i _ => a.size - (intOf i).toNat)
 case atStart => exact ⟨0, 0, rfl, by omega, by omega, rfl, HR.out⟩
 case round =>
  obtain ⟨k, q, rfl, hka, hkb, rfl, hc⟩ := hrel
  by_cases hla : k < a.size
  ·by_cases hlb : k < b.size
   ·rw [drop_cons a k hla, drop_cons b k hlb, ltB] at hc
    have k0 : (0 : Int) ≤ (k : Int) := by omega
    have k1 : (k : Int) < (a.size : Int) := by omega
    have k2 : (k : Int) < (b.size : Int) := by omega
    by_cases hq : a[k] = b[k]
    ·rw [if_pos hq] at hc
     have Hc := Lib.hid hc
     have qq : ((a[k].toNat : Int) != (b[k].toNat : Int)) = false := by rw [hq]; simp
     clear hc
     go_wp2_with fail
     go_quiet (fail)
     go_wp2_with fail
     go_roundw
     case rel => exact ⟨k + 1, _, by go_num, by omega, by omega, rfl, Hc.out⟩
     case measure => simp [intOf]; omega
    ·rw [if_neg hq] at hc
     have Hc := Lib.hid hc
     have hne : ¬ a[k].toNat = b[k].toNat := fun e => hq (UInt8.toNat_inj.1 e)
     have qq : ((a[k].toNat : Int) != (b[k].toNat : Int)) = true := by rw [bne_iff_ne]; omega
     clear hc
     go_wp2_with fail
     go_quiet (fail)
     go_wp2_with fail
     go_quiet (fail)
     go_wp2_with fail
     go_ret
     refine ⟨Cv.ret_bool ?_, _, by rw [World.drewN_drewN, World.drewN_drewN]⟩
     rw [← Hc.out]
     simp [UInt8.lt_iff_toNat_lt]
   ·rw [drop_cons a k hla, drop_end b k hlb, ltB] at hc
    have e : b.size = k := by omega
    have Hc := Lib.hid hc
    have q1 : decide (k < b.size) = false := by simp; omega
    clear hc
    go_wp2_with fail
    go_ret
    refine ⟨Cv.ret_bool ?_, _, rfl⟩
    rw [← Hc.out]
    simp
    omega
  ·have e : a.size = k := by omega
   rw [drop_end a k hla] at hc
   have Hc := Lib.hid hc
   clear hc
   go_wp2_with fail
   go_ret
   refine ⟨Cv.ret_bool ?_, _, rfl⟩
   rw [← Hc.out]
   by_cases hlb : k < b.size
   ·rw [drop_cons b k hlb, ltB]
    simp
    omega
   ·rw [drop_end b k hlb, ltB]
    simp
    omega
set_option maxHeartbeats 400000 in
theorem hash_any (s : ByteArray) (w : World) (hs : s.size ≤ maxLen) :
  Calls Tryz.prog 122 #[.string s] w fun e w' => e = .returned (.int .i64 ((hashL s.data.toList : Nat) : Int)) ∧ Below w.heap.size w w' := by
 unfold maxLen at hs
 go_enter Tryz.func122, Tryz.ntmps122
 go_wp2
 go_loopw [3] (fun n w' => ∃ (pos acc : Nat), w' = w.iter s pos ∧ n = .int .u32 acc ∧ acc < 4294967296 ∧ hashFrom (s.data.toList.drop pos) acc = hashL s.data.toList) (fun _ w' => s.size - w'.iterPos w.heap.size)
 case atStart => exact ⟨0, 7, rfl, rfl, by omega, by simp [hashL]⟩
 case round =>
  obtain ⟨pos, acc, rfl, rfl, hacc, hc⟩ := hrel
  by_cases hp : pos < s.size
  ·have hd := decode_list s pos
   have hw := decodeL_width (s.data.toList.drop pos)
   have hle := decodeL_le (s.data.toList.drop pos)
   have hcc := hashFrom_cons _ acc (drop_ne hp)
   rw [hcc, ← hd] at hc
   rw [← hd] at hw hle
   have hnx : ∀ ty, (Instr.next (.pointer (some ⟨w.heap.size, 0, none⟩)) true ty).run Tryz.prog (w.iter s pos) = _ := fun ty => run_next_any w s pos ty hp
   have Hc := Lib.hid hc
   clear hd hcc hc
   go_wp2
   go_roundw
   case rel => exact ⟨pos + (Utf8.decode s pos).2, hashStep acc (Utf8.decode s pos), rfl, valv_int (by unfold hashStep; omega), hashStep_lt _ _, by have := Hc.out; rw [List.drop_drop] at this; exact this⟩
   case measure => simp; omega
  ·have hnx : ∀ ty, (Instr.next (.pointer (some ⟨w.heap.size, 0, none⟩)) true ty).run Tryz.prog (w.iter s pos) = _ := fun ty => run_next_end w s pos ty hp
   rw [drop_all hp] at hc
   have Hc := Lib.hid hc
   clear hc
   go_wp2
   go_ret
   exact ⟨retv_int (by have := Hc.out; rw [hashFrom_nil] at this; omega), below_iter _ _ _⟩
set_option maxHeartbeats 400000 in
theorem refhash_any (s : ByteArray) (w : World) (hs : s.size ≤ 140737488355328) :
  Calls Tryz.prog 84 #[.string s] w fun e w' => e = .returned (.int .i64 ((hashL s.data.toList : Nat) : Int)) ∧ w = w' := by
 go_enter Tryz.func84, Tryz.ntmps84
 go_wp2_with fail
 go_loop [3, 4] (fun n i => ∃ (pos acc : Nat), i = .int .i64 pos ∧ n = .int .i64 acc ∧ pos ≤ s.size ∧ acc < 4294967296 ∧ hashFrom (s.data.toList.drop pos) acc = hashL s.data.toList) (fun _ i => s.size - (intOf i).toNat)
 case atStart => exact ⟨0, 7, rfl, rfl, by omega, by omega, by simp [hashL]⟩
 case round =>
  obtain ⟨pos, acc, rfl, rfl, hps, hacc, hc⟩ := hrel
  by_cases hp : pos < s.size
  ·have hw := decodeL_width (s.data.toList.drop pos)
   have hle := decodeL_le (s.data.toList.drop pos)
   have hf := decodeL_fits _ (drop_ne hp)
   rw [List.length_drop] at hf
   have hsz : s.data.toList.length = s.size := rfl
   rw [hsz] at hf
   have hcc := hashFrom_cons _ acc (drop_ne hp)
   rw [hcc] at hc
   have Hc := Lib.hid hc
   clear hcc hc hsz
   go_wp2_with fail
   refine (rune1_at s pos hp _ hs).mono ?_
   rintro e w' ⟨c, k, rfl, hc1, hk1, hk2, rfl⟩
   have hk1' : k ≤ 4 := by omega
   have hcle : c ≤ 1114111 := by omega
   have Hc1 := Lib.hid hc1
   have Hk1 := Lib.hid hk1
   clear hc1 hk1 hk2
   by_cases hk0 : 1 ≤ k
   ·go_wp2
    go_round
    case rel => exact ⟨pos + (decodeL (s.data.toList.drop pos)).2, hashStep acc (decodeL (s.data.toList.drop pos)), valv_int (by have := Hk1.out; omega), valv_int (by have := Hc1.out; unfold hashStep; omega), by omega, hashStep_lt _ _, by have := Hc.out; rw [List.drop_drop] at this; exact this⟩
    case measure => simp [intOf]; omega
   ·obtain rfl : k = 0 := by omega
    go_wp2
    go_round
    case rel => exact ⟨pos + (decodeL (s.data.toList.drop pos)).2, hashStep acc (decodeL (s.data.toList.drop pos)), valv_int (by have := Hk1.out; omega), valv_int (by have := Hc1.out; unfold hashStep; omega), by omega, hashStep_lt _ _, by have := Hc.out; rw [List.drop_drop] at this; exact this⟩
    case measure => simp [intOf]; omega
  ·rw [drop_all hp] at hc
   have Hc := Lib.hid hc
   clear hc
   go_wp2
   go_ret
   exact ⟨retv_int (by have := Hc.out; rw [hashFrom_nil] at this; omega), rfl⟩
set_option maxHeartbeats 400000 in
theorem refbucket_any (s : ByteArray) (w : World) (hs : s.size ≤ 140737488355328) :
  Calls Tryz.prog 60 #[.string s] w fun e w' => e = .returned (.int .i64 ((hashL s.data.toList % 8 : Nat) : Int)) ∧ w = w' := by
 have hh := hashL_lt s.data.toList
 go_enter Tryz.func60, Tryz.ntmps60
 go_wp2_with fail
 refine (refhash_any s _ hs).mono ?_
 rintro e w' ⟨rfl, rfl⟩
 go_wp2
 go_ret
 exact ⟨retv_int (by omega), rfl⟩
end Go.Proofs.YthhceopnnappgaaGreatDoor
