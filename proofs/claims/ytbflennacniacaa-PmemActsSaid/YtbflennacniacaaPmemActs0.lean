/- The law PmemActs: sizes that are refused, or wide. -/
import Derived.Test.YtbflennacniacaaRmDuo
import Derived.Test.YtbflennacniacaaAwake1
import Derived.Deep.RegionHeld3
namespace Go.Proofs.Ytbflennacniacaa
open Go.RowKit
set_option linter.unusedVariables false
set_option maxRecDepth 100000 in
set_option maxHeartbeats 4000000 in
theorem acts_bad (words : Int) (A : Option Addr) (len cap : Nat) (w : World) (h1 : ∀ w, Calls Try.prog 16 #[.int .i64 words] w fun e w' => e = .returned (.tuple #[.pointer .none, .int .i64 100]) ∧ w = w')
    (h2 : ∀ w, Calls Try.prog 27 #[.int .i64 words] w fun e w' => e = .returned (.tuple #[.pointer .none, .int .i64 100]) ∧ w = w') :
    Calls Try.prog 8 #[.int .i64 words, .slice A len cap] w fun e w' => e = .returned (.bool true) ∧ Below w.heap.size w w' := by
  have H1 := Lib.hid h1
  have H2 := Lib.hid h2
  clear h1 h2
  go_enter Try.func8, Try.ntmps8
  go_wp2_with fail
  refine (H1.out _).mono ?_
  rintro e w1 ⟨rfl, rfl⟩
  go_wp2_with fail
  refine (H2.out _).mono ?_
  rintro e w2 ⟨rfl, rfl⟩
  go_wp2_with fail
  refine (num1_any _ _).mono ?_
  rintro e w3 ⟨rfl, rfl⟩
  go_wp2_with fail
  refine (awake1 _).mono ?_
  rintro e w4 ⟨rfl, hb⟩
  go_wp2_with fail
  go_ret
  exact ⟨rfl, hb⟩
set_option maxRecDepth 100000 in
set_option maxHeartbeats 4000000 in
theorem acts_wide (n : Nat) (A : Option Addr) (len cap : Nat) (w : World) (h1 : 100 < n) (h2 : n ≤ 8192) :
    Calls Try.prog 8 #[.int .i64 (n * 8 : Nat), .slice A len cap] w fun e w' => e = .returned (.bool true) ∧ Below w.heap.size w w' := by
  obtain ⟨x, hx⟩ : ∃ x : Int, ((n * 8 : Nat) : Int) = x := ⟨_, rfl⟩
  have q1 : decide (800 < x) = true := by simp; omega
  rw [hx]
  have HX := Lib.hid hx
  clear hx
  go_enter Try.func8, Try.ntmps8
  go_wp2_with fail
  refine (new_duo (by omega) h2 x HX.out).mono ?_
  rintro e w1 ⟨a, rfl, hb, hc⟩
  have HC := Lib.hid hc
  clear hc hb
  go_wp2_with fail
  refine HC.out.mono ?_
  rintro e w2 ⟨b, rfl, hb, _⟩
  have HB := Lib.hid hb
  clear hb
  go_wp2_with fail
  refine (awake1 _).mono ?_
  rintro e w4 ⟨rfl, hb⟩
  go_wp2_with fail
  go_ret
  exact ⟨rfl, Cv.next HB.out hb⟩
end Go.Proofs.Ytbflennacniacaa
