/- The reference's functions on names, each by one contract. -/
import Derived.Test.YtihkjpfibogpdaaRune1
namespace Go.Proofs.Ytihkjpfibogpdaa
open Go.RowKit
set_option linter.unusedVariables false
/-- The rune at a place: what a loop over a text wants of it. -/
theorem rune1_at (s : ByteArray) (p : Nat) (hp : p < s.size) (w : World) (hs : s.size ≤ 140737488355328) :
    Calls Try.prog 50 #[.string s, .int .i64 (p : Int)] w fun e w' => ∃ c k : Nat, e = .returned (.tuple #[.int .i64 (c : Int), .int .i64 (k : Int)]) ∧ c = (decodeL (s.data.toList.drop p)).1 ∧ max k 1 = (decodeL (s.data.toList.drop p)).2 ∧ (k = 0 ↔ badRune (decodeL (s.data.toList.drop p)) = true) ∧ w = w' :=
  (rune1_any s p hp w hs).mono fun e w' hh => ⟨_, _, hh.1, (rune1L_spec _).1, (rune1L_spec _).2.1, (rune1L_spec _).2.2, hh.2⟩

set_option maxHeartbeats 400000 in
theorem refrunes_any (s : ByteArray) (w : World) (hs : s.size ≤ 140737488355328) :
    Calls Try.prog 38 #[.string s] w fun e w' => e = .returned (.int .i64 ((countL s.data.toList : Nat) : Int)) ∧ w = w' := by
  have hcl := countL_le s.data.toList.length s.data.toList (Nat.le_refl _)
  have hsz : s.data.toList.length = s.size := rfl
  rw [hsz] at hcl
  clear hsz
  go_enter Try.func38, Try.ntmps38
  go_wp2_with fail
  go_loop [3, 4] (fun n i => ∃ (pos acc : Nat), i = .int .i64 pos ∧ n = .int .i64 acc ∧ pos ≤ s.size ∧ acc + countL (s.data.toList.drop pos) = countL s.data.toList) (fun _ i => s.size - (intOf i).toNat)
  case atStart => exact ⟨0, 0, rfl, rfl, by omega, by simp⟩
  case round =>
    obtain ⟨pos, acc, rfl, rfl, hps, hc⟩ := hrel
    by_cases hp : pos < s.size
    · have hw := decodeL_width (s.data.toList.drop pos)
      have hf := decodeL_fits _ (drop_ne hp)
      rw [List.length_drop] at hf
      have hsz : s.data.toList.length = s.size := rfl
      rw [hsz] at hf
      have hcc := countL_cons _ (drop_ne hp)
      rw [hcc] at hc
      have Hc := Lib.hid hc
      have hacc : acc ≤ 9223372036854775806 := by omega
      clear hcc hc hsz
      go_wp2_with fail
      refine (rune1_at s pos hp _ hs).mono ?_
      rintro e w' ⟨c, k, rfl, hc1, hk1, hk2, rfl⟩
      have Hc1 := Lib.hid hc1
      have Hk1 := Lib.hid hk1
      have hk1' : k ≤ 4 := by omega
      clear hc1 hk1 hk2
      by_cases hk0 : 1 ≤ k
      · go_wp2
        go_round
        case rel => exact ⟨pos + (decodeL (s.data.toList.drop pos)).2, acc + 1, valv_int (by have := Hk1.out; omega), by go_num, by omega, by have := Hc.out; rw [List.drop_drop] at this; omega⟩
        case measure => simp [intOf]; omega
      · obtain rfl : k = 0 := by omega
        go_wp2
        go_round
        case rel => exact ⟨pos + (decodeL (s.data.toList.drop pos)).2, acc + 1, valv_int (by have := Hk1.out; omega), by go_num, by omega, by have := Hc.out; rw [List.drop_drop] at this; omega⟩
        case measure => simp [intOf]; omega
    · rw [drop_all hp] at hc
      have Hc := Lib.hid hc
      clear hc
      go_wp2
      go_ret
      exact ⟨retv_int (by have := Hc.out; rw [countL_nil] at this; omega), rfl⟩

set_option maxHeartbeats 400000 in
theorem refhash_any (s : ByteArray) (w : World) (hs : s.size ≤ 140737488355328) :
    Calls Try.prog 34 #[.string s] w fun e w' => e = .returned (.int .i64 ((hashL s.data.toList : Nat) : Int)) ∧ w = w' := by
  go_enter Try.func34, Try.ntmps34
  go_wp2_with fail
  go_loop [3, 4] (fun n i => ∃ (pos acc : Nat), i = .int .i64 pos ∧ n = .int .i64 acc ∧ pos ≤ s.size ∧ acc < 4294967296 ∧ hashFrom (s.data.toList.drop pos) acc = hashL s.data.toList) (fun _ i => s.size - (intOf i).toNat)
  case atStart => exact ⟨0, 7, rfl, rfl, by omega, by omega, by simp [hashL]⟩
  case round =>
    obtain ⟨pos, acc, rfl, rfl, hps, hacc, hc⟩ := hrel
    by_cases hp : pos < s.size
    · have hw := decodeL_width (s.data.toList.drop pos)
      have hle := decodeL_le (s.data.toList.drop pos)
      have hf := decodeL_fits _ (drop_ne hp)
      rw [List.length_drop] at hf
      have hsz : s.data.toList.length = s.size := rfl
      rw [hsz] at hf
      have hcc := hashFrom_cons _ acc (drop_ne hp)
      rw [hcc] at hc
      have Hc := Lib.hid hc
      clear hcc hc hsz
      go_wp2_with fail
      refine (rune1_at s pos hp _ hs).mono ?_
      rintro e w' ⟨c, k, rfl, hc1, hk1, hk2, rfl⟩
      have hk1' : k ≤ 4 := by omega
      have hcle : c ≤ 1114111 := by omega
      have Hc1 := Lib.hid hc1
      have Hk1 := Lib.hid hk1
      clear hc1 hk1 hk2
      by_cases hk0 : 1 ≤ k
      · go_wp2
        go_round
        case rel => exact ⟨pos + (decodeL (s.data.toList.drop pos)).2, hashStep acc (decodeL (s.data.toList.drop pos)), valv_int (by have := Hk1.out; omega), valv_int (by have := Hc1.out; unfold hashStep; omega), by omega, hashStep_lt _ _, by have := Hc.out; rw [List.drop_drop] at this; exact this⟩
        case measure => simp [intOf]; omega
      · obtain rfl : k = 0 := by omega
        go_wp2
        go_round
        case rel => exact ⟨pos + (decodeL (s.data.toList.drop pos)).2, hashStep acc (decodeL (s.data.toList.drop pos)), valv_int (by have := Hk1.out; omega), valv_int (by have := Hc1.out; unfold hashStep; omega), by omega, hashStep_lt _ _, by have := Hc.out; rw [List.drop_drop] at this; exact this⟩
        case measure => simp [intOf]; omega
    · rw [drop_all hp] at hc
      have Hc := Lib.hid hc
      clear hc
      go_wp2
      go_ret
      exact ⟨retv_int (by have := Hc.out; rw [hashFrom_nil] at this; omega), rfl⟩
set_option maxHeartbeats 400000 in
theorem refbucket_any (s : ByteArray) (w : World) (hs : s.size ≤ 140737488355328) :
    Calls Try.prog 36 #[.string s] w fun e w' => e = .returned (.int .i64 ((hashL s.data.toList % 8 : Nat) : Int)) ∧ w = w' := by
  have hh := hashL_lt s.data.toList
  go_enter Try.func36, Try.ntmps36
  go_wp2_with fail
  refine (refhash_any s _ hs).mono ?_
  rintro e w' ⟨rfl, rfl⟩
  go_wp2
  go_ret
  exact ⟨retv_int (by omega), rfl⟩
set_option maxHeartbeats 400000 in
theorem bucket_any (s : ByteArray) (w : World) (hs : s.size ≤ maxLen) :
    Calls Try.prog 35 #[.string s] w fun e w' => e = .returned (.int .i64 ((hashL s.data.toList % 8 : Nat) : Int)) ∧ Below w.heap.size w w' := by
  have hh := hashL_lt s.data.toList
  go_enter Try.func35, Try.ntmps35
  go_wp2_with fail
  refine (hash_any s _ hs).mono ?_
  rintro e w1 ⟨rfl, hb⟩
  go_wp2
  go_ret
  exact ⟨retv_int (by omega), hb⟩
end Go.Proofs.Ytihkjpfibogpdaa
