/- The walks of chapter 18's laws. -/
import Derived.Test.YtihkjpfibogpdaaHex
namespace Go.Proofs.Ytihkjpfibogpdaa
open Go.RowKit
theorem below_next {a b c : World} (h : Below a.heap.size a b) (k : Below b.heap.size b c) : Below a.heap.size a c := h.trans (k.mono h.size)
theorem below_trans5 {a b c d e f : World} (h1 : Below a.heap.size a b) (h2 : Below b.heap.size b c) (h3 : Below c.heap.size c d) (h4 : Below d.heap.size d e) (h5 : Below e.heap.size e f) : Below a.heap.size a f :=
  below_next (below_next (below_next (below_next h1 h2) h3) h4) h5
theorem num_any (n : Int) (w : World) : Calls Try.prog 29 #[.int .i64 n] w fun e w' => e = .returned (.int .i64 n) ∧ w = w' := by
  go_enter Try.func29, Try.ntmps29
  go_wp2
  go_ret
  exact ⟨rfl, rfl⟩
theorem sum_empty (w : World) : Calls Try.prog 24 #[.string ⟨#[]⟩] w fun e w' => e = .returned (.int .u64 14695981039346656037) ∧ w = w' :=
  (sum_any ⟨#[]⟩ w (by decide +kernel)).mono fun e w' ⟨he, hw⟩ => ⟨by rw [he, show ((sumN (ByteArray.mk #[]).data.toList : Nat) : Int) = 14695981039346656037 from by decide +kernel], hw⟩
theorem sum_a (w : World) : Calls Try.prog 24 #[.string ⟨#[97]⟩] w fun e w' => e = .returned (.int .u64 12638187200555641996) ∧ w = w' :=
  (sum_any ⟨#[97]⟩ w (by decide +kernel)).mono fun e w' ⟨he, hw⟩ => ⟨by rw [he, show ((sumN (ByteArray.mk #[97]).data.toList : Nat) : Int) = 12638187200555641996 from by decide +kernel], hw⟩
theorem hex_ff (w : World) : Calls Try.prog 26 #[.int .u64 255] w fun e w' => e = .returned (.string ⟨#[48, 48, 48, 48, 48, 48, 48, 48, 48, 48, 48, 48, 48, 48, 102, 102]⟩) ∧ Below w.heap.size w w' :=
  (hex_any 255 (by decide +kernel) w).mono fun e w' ⟨he, hw⟩ => ⟨by rw [he, show hexN 255 = [48, 48, 48, 48, 48, 48, 48, 48, 48, 48, 48, 48, 48, 48, 102, 102] from by decide +kernel], hw⟩
set_option maxHeartbeats 400000 in
theorem awake18 (w : World) : Calls Try.prog 28 #[] w fun e w' => e = .returned (.bool true) ∧ Below w.heap.size w w' := by
  go_enter Try.func28, Try.ntmps28
  go_wp2_with fail
  refine (sum_empty _).mono ?_
  rintro e w' ⟨rfl, rfl⟩
  go_wp2_with fail
  refine (sum_a _).mono ?_
  rintro e w' ⟨rfl, rfl⟩
  go_wp2_with fail
  refine (hex_ff _).mono ?_
  rintro e w1 ⟨rfl, hb⟩
  go_wp2_with fail
  refine (num_any _ _).mono ?_
  rintro e w2 ⟨rfl, rfl⟩
  go_wp2_with fail
  go_ret
  exact ⟨rfl, hb⟩
theorem wrap_u64_any (x : Int) : ∃ y : Nat, y < hM ∧ IntKind.u64.wrap x = (y : Int) := by
  refine ⟨(x % 18446744073709551616).toNat, ?_, ?_⟩
  · rw [hM_lit]; omega
  · rw [IntKind.wrap_u64]; omega
set_option maxHeartbeats 400000 in
/-- Any text's sum, and its digits. -/
theorem sums_walk (s : ByteArray) (hs : s.size ≤ maxLen) (x : Int) (hx : (Lit.int .i64 x).wf = true) (w : World) :
    Calls Try.prog 4 #[.string s, .int .i64 x] w fun e w' => e = .returned (.bool true) ∧ Below w.heap.size w w' := by
  obtain ⟨y, hy, hxy⟩ := wrap_u64_any x
  go_enter Try.func4, Try.ntmps4
  go_wp2_with fail
  refine (sum_any _ _ hs).mono ?_
  rintro e w' ⟨rfl, rfl⟩
  go_wp2_with fail
  refine (refsum_any _ _ hs).mono ?_
  rintro e w' ⟨rfl, rfl⟩
  go_wp2_with fail
  refine (hex_any y hy _).mono ?_
  rintro e w1 ⟨rfl, hb1⟩
  go_wp2_with fail
  refine (refhex_any y hy _).mono ?_
  rintro e w2 ⟨rfl, hb2⟩
  go_wp2_with fail
  refine (sum_any _ _ hs).mono ?_
  rintro e w' ⟨rfl, rfl⟩
  go_wp2_with fail
  refine (hex_any _ (sumN_lt _) _).mono ?_
  rintro e w3 ⟨rfl, hb3⟩
  go_wp2_with fail
  refine (refsum_any _ _ hs).mono ?_
  rintro e w' ⟨rfl, rfl⟩
  go_wp2_with fail
  refine (refhex_any _ (sumN_lt _) _).mono ?_
  rintro e w4 ⟨rfl, hb4⟩
  go_wp2_with fail
  refine (awake18 _).mono ?_
  rintro e w5 ⟨rfl, hb5⟩
  go_wp2_with fail
  go_ret
  exact ⟨rfl, below_trans5 hb1 hb2 hb3 hb4 hb5⟩
end Go.Proofs.Ytihkjpfibogpdaa
