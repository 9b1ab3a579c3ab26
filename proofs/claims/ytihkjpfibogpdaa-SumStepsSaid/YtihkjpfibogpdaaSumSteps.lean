/- The walk of the law SumSteps. -/
import Derived.Test.YtihkjpfibogpdaaSumTurned
namespace Go.Proofs.Ytihkjpfibogpdaa
open Go.RowKit
set_option linter.unusedVariables false
def dv (d : Nat) : Nat := if d < 10 then 48 + d else 87 + d
def Dig (x : Nat) (t : ByteArray) : Prop := t.size = 16 ∧ ∀ k (h : k < t.size), t[k].toNat = dv (x / 16 ^ (15 - k) % 16)
theorem dig_hexN (x : Nat) : Dig x ⟨(hexN x).toArray⟩ := by
  refine ⟨hexN_length x, fun k h => ?_⟩
  have h16 : k < 16 := by have := hexN_length x; simpa [ByteArray.size, this] using h
  have hv : ∀ d, d < 16 → (hexDigits.getD d 0).toNat = dv d := by decide +kernel
  have e : ∀ h, (ByteArray.mk (hexN x).toArray)[k]'h = hexDigit x k := by
    intro h
    show (hexN x).toArray[k]'_ = _
    simp [hexN]
  exact (congrArg UInt8.toNat (e h)).trans (hv _ (Nat.mod_lt _ (by omega)))
theorem hex_dig (x : Nat) (hx : x < hM) (w : World) :
    Calls Try.prog 26 #[.int .u64 (x : Int)] w fun e w' => ∃ t : ByteArray, e = .returned (.string t) ∧ Dig x t ∧ Below w.heap.size w w' :=
  (hex_any x hx w).mono fun e w' ⟨he, hb⟩ => ⟨_, he, dig_hexN x, hb⟩
theorem step_eq (s : ByteArray) (x : UInt8) : IntKind.u64.wrap (bits .xor .u64 ((sumN s.data.toList : Nat) : Int) (x.toNat : Int) * 1099511628211) = ((sumS s x : Nat) : Int) := by
  have := step_val _ (sumN_lt s.data.toList) x
  rw [wrap_u64_nat x.toNat (by have := x.toNat_lt; omega)] at this
  rw [this]
  unfold sumS
  rw [sumN_snoc]
theorem hex_next (x k : Nat) (hk : k < 16) : x / 16 ^ (16 - (k + 1)) = 16 * (x / 16 ^ (16 - k)) + x / 16 ^ (15 - k) % 16 := by
  have e : 16 - k = (15 - k) + 1 := by omega
  rw [show 16 - (k + 1) = 15 - k by omega, e, Nat.pow_succ, ← Nat.div_div_eq_div_mul]
  omega
set_option maxHeartbeats 400000 in
theorem sumSteps_walk (s : ByteArray) (hs : s.size ≤ 140737488351232) (c : Int) (hc : (Lit.int .i64 c).wf = true) (x : Int) (hx : (Lit.int .i64 x).wf = true) (w : World) :
    Calls Try.prog 6 #[.string s, .int .i64 c, .int .i64 x] w fun e w' => e = .returned (.bool true) ∧ Below w.heap.size w w' := by
  obtain ⟨b, hb⟩ := byte_of c
  obtain ⟨y, hy, hxy⟩ := wrap_u64_any x
  have hcvx := fun (W : World) (g c : Nat) => conv_one W g c b
  have hst := step_eq s b
  go_enter Try.func6, Try.ntmps6
  go_wp2_with fail
  refine (awake18 _).mono ?_
  rintro e w1 ⟨rfl, hb1⟩
  go_wp2_with fail
  refine (sum_any _ _ (by unfold maxLen; omega)).mono ?_
  rintro e w' ⟨rfl, rfl⟩
  go_wp2_with fail
  refine (hex_dig y hy _).mono ?_
  rintro e w2 ⟨t, rfl, ht, hb2⟩
  obtain ⟨ht16, hdig⟩ := ht
  have HD := Lib.hid hdig
  clear hdig
  go_wp2_with fail
  go_loop [10, 11] (fun z i => ∃ k : Nat, k ≤ 16 ∧ i = .int .i64 k ∧ z = .int .u64 ((y / 16 ^ (16 - k) : Nat) : Int)) (fun _ i => 16 - (intOf i).toNat)
  case atStart => exact ⟨0, by omega, rfl, val_int (by rw [hM_lit] at hy; have : y / 16 ^ (16 - 0) = 0 := Nat.div_eq_of_lt (by simpa using hy); omega)⟩
  case round =>
    obtain ⟨k, hk, rfl, rfl⟩ := hrel
    by_cases hlt : k < 16
    · obtain ⟨d, hd⟩ : ∃ d : Nat, y / 16 ^ (15 - k) % 16 = d := ⟨_, rfl⟩
      obtain ⟨z, hz⟩ : ∃ z : Nat, y / 16 ^ (16 - k) = z := ⟨_, rfl⟩
      have hn := hex_next y k hlt
      have hv := HD.out k (by omega)
      have hd16 : d < 16 := by omega
      have hnl : y / 16 ^ (16 - (k + 1)) < 18446744073709551616 := Nat.lt_of_le_of_lt (Nat.div_le_self _ _) (by rw [← hM_lit]; exact hy)
      rw [hd, hz] at hn
      rw [hn] at hnl
      rw [hd] at hv
      rw [hz]
      have Hn := Lib.hid hn
      have Hd := Lib.hid hd
      have Hz := Lib.hid hz
      clear hn hd hz
      have hkt : k < t.size := by omega
      by_cases h10 : d < 10
      · have hv2 : t[k].toNat = 48 + d := by rw [hv]; exact if_pos h10
        have Hv := Lib.hid hv
        clear hv
        go_wp2
        go_round
        case rel => exact ⟨k + 1, by omega, by go_num, by rw [Hn.out]; exact val_int (by omega)⟩
        case measure => simp [intOf]; omega
      · have hv2 : t[k].toNat = 87 + d := by rw [hv]; exact if_neg h10
        have Hv := Lib.hid hv
        clear hv
        go_wp2
        go_round
        case rel => exact ⟨k + 1, by omega, by go_num, by rw [Hn.out]; exact val_int (by omega)⟩
        case measure => simp [intOf]; omega
    · obtain rfl : k = 16 := by omega
      have e0 : y / 16 ^ (16 - 16) = y := by simp
      rw [e0]
      clear e0
      go_wp2_with fail
      refine (sum_snoc s b _ hs).mono ?_
      rintro e w' ⟨rfl, rfl⟩
      go_wp2_with fail
      refine (num_any _ _).mono ?_
      rintro e w' ⟨rfl, rfl⟩
      go_wp2_with fail
      go_ret
      exact ⟨rfl, below_next hb1 (below_next hb2 ((Below.refl _ _).alloc (Nat.le_refl _) _))⟩
end Go.Proofs.Ytihkjpfibogpdaa
