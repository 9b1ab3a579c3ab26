/- journal.word: eight bytes of a text as a word. -/
import Derived.Test.YtbflennacniacaaSumOf
import Derived.Test.YtbflennacniacaaConv
namespace Go.Proofs.Ytbflennacniacaa
open Go.RowKit
set_option linter.unusedVariables false
/-- The i-th byte of a list, nothing behind its end. -/
def byteAt (l : List UInt8) (i : Nat) : Nat := (l.getD i 0).toNat
/-- The first i bytes from 'at' on as a word. -/
def wordTo (l : List UInt8) (at_ : Nat) : Nat → Nat
  | 0 => 0
  | i + 1 => wordTo l at_ i + byteAt l (at_ + i) * 256 ^ i
def wordN (l : List UInt8) (at_ : Nat) : Nat := wordTo l at_ 8
theorem byteAt_lt (l : List UInt8) (i : Nat) : byteAt l i < 256 := by
  have := (l.getD i 0).toNat_lt
  unfold byteAt
  omega
theorem wordTo_lt (l : List UInt8) (at_ i : Nat) : wordTo l at_ i < 256 ^ i := by
  induction i with
  | zero => simp [wordTo]
  | succ i ih =>
    have hb := byteAt_lt l (at_ + i)
    unfold wordTo
    have h1 : byteAt l (at_ + i) * 256 ^ i ≤ 255 * 256 ^ i := Nat.mul_le_mul_right _ (by omega)
    rw [Nat.pow_succ]
    omega
theorem byteAt_end {l : List UInt8} {i : Nat} (h : l.length ≤ i) : byteAt l i = 0 := by
  unfold byteAt
  simp [h]
theorem wordTo_end {l : List UInt8} {at_ i : Nat} (h : l.length ≤ at_ + i) : wordTo l at_ (i + 1) = wordTo l at_ i := by
  show wordTo l at_ i + byteAt l (at_ + i) * 256 ^ i = _
  rw [byteAt_end h]
  omega
theorem shl_word (k b : Nat) (hk : k < 8) (hb : b < 256) : IntKind.u64.wrap (IntKind.u64.wrap (b : Int) * 2 ^ (8 * k)) = ((b * 256 ^ k : Nat) : Int) ∧ b * 256 ^ k < 18446744073709551616 := by
  rw [IntKind.wrap_u64, IntKind.wrap_u64]
  have : k = 0 ∨ k = 1 ∨ k = 2 ∨ k = 3 ∨ k = 4 ∨ k = 5 ∨ k = 6 ∨ k = 7 := by omega
  rcases this with h | h | h | h | h | h | h | h <;> (subst h; simp; omega)
theorem word_step (k x b : Nat) (hk : k < 8) (hx : x < 256 ^ k) (hb : b < 256) : bits .or .u64 (x : Int) (IntKind.u64.wrap (IntKind.u64.wrap (b : Int) * 2 ^ (8 * k))) = ((x + b * 256 ^ k : Nat) : Int) := by
  obtain ⟨e, hlt⟩ := shl_word k b hk hb
  have h8 : 256 ^ k = 2 ^ (8 * k) := by rw [Nat.pow_mul]
  have hx64 : x < 18446744073709551616 := Nat.lt_of_lt_of_le hx (Nat.le_trans (Nat.pow_le_pow_right (by omega) (show k ≤ 8 by omega)) (by decide))
  rw [e, u64_or_nat _ _ hx64 hlt, Nat.or_comm, nat_join (8 * k) (b * 256 ^ k) x (by rw [h8]; exact Nat.mul_mod_left ..) (by rw [← h8]; exact hx), Nat.add_comm]
set_option maxHeartbeats 1000000 in
theorem word_any (s : ByteArray) (at_ : Nat) (w : World) (hs : s.size ≤ maxLen) (ha : at_ ≤ 4611686018427387904) :
    Calls Try.prog 64 #[.string s, .int .i64 at_] w fun e w' => e = .returned (.int .u64 (wordN s.data.toList at_ : Nat)) ∧ w = w' := by
  unfold maxLen at hs
  go_enter Try.func64, Try.ntmps64
  go_wp2_with fail
  go_loop [5, 7] (fun x i => ∃ k : Nat, k ≤ 8 ∧ i = .int .i64 k ∧ x = .int .u64 (wordTo s.data.toList at_ k : Nat)) (fun _ i => 8 - (intOf i).toNat)
  case atStart => exact ⟨0, by omega, rfl, rfl⟩
  case round =>
    obtain ⟨k, hk, rfl, rfl⟩ := hrel
    by_cases hlt : k < 8
    · have q1 : decide ((k : Int) < 8) = true := by simp; omega
      by_cases hin : at_ + k < s.size
      · have hb : byteAt s.data.toList (at_ + k) = (s[at_ + k]).toNat := by
          unfold byteAt
          have hl : at_ + k < s.data.toList.length := by simpa using hin
          rw [List.getD_eq_getElem?_getD, List.getElem?_eq_getElem hl]
          rfl
        have hst := word_step k _ _ hlt (wordTo_lt s.data.toList at_ k) (byteAt_lt s.data.toList (at_ + k))
        rw [hb] at hst
        have hnx : wordTo s.data.toList at_ (k + 1) = wordTo s.data.toList at_ k + (s[at_ + k]).toNat * 256 ^ k := by rw [← hb]; rfl
        have HST := Lib.hid hst
        have HNX := Lib.hid hnx
        clear hb hst hnx
        go_wp2_with fail
        exact ⟨⟨k + 1, by omega, by go_num, by rw [HST.out, HNX.out]⟩, by simp [intOf]; omega⟩
      · have hend : wordTo s.data.toList at_ (k + 1) = wordTo s.data.toList at_ k := wordTo_end (by have : s.data.toList.length = s.size := by simp
                                                                                                    omega)
        have HE := Lib.hid hend
        clear hend
        go_wp2_with fail
        exact ⟨⟨k + 1, by omega, by go_num, by rw [HE.out]⟩, by simp [intOf]; omega⟩
    · obtain rfl : k = 8 := by omega
      clear hlt
      go_wp2_with fail
      go_ret
      exact ⟨rfl, rfl⟩
end Go.Proofs.Ytbflennacniacaa
