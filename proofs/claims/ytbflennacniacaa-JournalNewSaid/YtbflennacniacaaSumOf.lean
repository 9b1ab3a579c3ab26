/- sum.Of, by its contract. -/
import Derived.Test.YtbflennacniacaaRows
import Derived.Test.YtbflennacniacaaPlainSum
import Derived.WalkKit
import Derived.WalkSpells
import Derived.WalkLawsBesides
import Derived.Lib.Hide
import Derived.Laws.BitsAllLaws
namespace Go.Proofs.Ytbflennacniacaa
open Go.RowKit

theorem take_snoc (s : ByteArray) (k : Nat) (h : k < s.size) : s.data.toList.take (k + 1) = s.data.toList.take k ++ [s[k]] := by
  rw [List.take_succ_eq_append_getElem (by simpa using h)]; rfl
theorem ret_int {k : IntKind} {a b : Int} (h : a = b) : Ending.returned (.int k a) = .returned (.int k b) := by rw [h]
theorem val_int {k : IntKind} {a b : Int} (h : a = b) : Value.int k a = .int k b := by rw [h]
theorem wrap_u64_nat (n : Nat) (h : n < 18446744073709551616) : IntKind.u64.wrap (n : Int) = (n : Int) := by rw [IntKind.wrap_u64]; omega
theorem hM_lit : hM = 18446744073709551616 := by decide +kernel
theorem hP_lit : hP = 1099511628211 := by decide +kernel
theorem step_val (h : Nat) (hh : h < hM) (b : UInt8) :
    IntKind.u64.wrap (bits .xor .u64 (h : Int) (IntKind.u64.wrap (b.toNat : Int)) * 1099511628211) = ((stepN h b : Nat) : Int) := by
  have hb := b.toNat_lt
  have hx := xor_lt hh b
  rw [hM_lit] at hh hx
  rw [wrap_u64_nat _ (by omega), u64_xor_nat _ _ hh (by omega)]
  unfold stepN
  rw [hM_lit, hP_lit, IntKind.wrap_u64]
  generalize h ^^^ b.toNat = x at *
  omega
theorem first_val : (14695981039346656037 : Int) = ((sumN [] : Nat) : Int) := by
  rw [sumN_nil]; decide +kernel

set_option maxHeartbeats 400000 in
/-- What sum.Of answers. -/
theorem sum_any (s : ByteArray) (w : World) (hs : s.size ≤ maxLen) :
    Calls Try.prog 66 #[.string s] w fun e w' => e = .returned (.int .u64 ((sumN s.data.toList : Nat) : Int)) ∧ w = w' := by
  unfold maxLen at hs
  go_enter Try.func66, Try.ntmps66
  go_wp2
  go_loop [3, 7] (fun h i => ∃ k : Nat, k ≤ s.size ∧ i = .int .i64 k ∧ h = .int .u64 ((sumN (s.data.toList.take k) : Nat) : Int)) (fun _ i => s.size - (intOf i).toNat)
  case atStart => exact ⟨0, Nat.zero_le _, rfl, val_int first_val⟩
  case round =>
    obtain ⟨k, hk, rfl, rfl⟩ := hrel
    by_cases hlt : k < s.size
    · go_wp2
      go_round
      case rel => exact ⟨k + 1, by omega, by go_num, by rw [take_snoc s k hlt, sumN_snoc]; exact val_int (step_val _ (sumN_lt _) _)⟩
      case measure => simp [intOf]; omega
    · go_wp2
      go_ret
      exact ⟨ret_int (by rw [List.take_of_length_le (by simp; omega)]), rfl⟩

end Go.Proofs.Ytbflennacniacaa
