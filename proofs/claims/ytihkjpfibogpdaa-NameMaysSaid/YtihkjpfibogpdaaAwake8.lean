/- name.May by its contract; what the laws of chapter 8 ask of every program: awake. -/
import Derived.Test.YtihkjpfibogpdaaCheck
namespace Go.Proofs.Ytihkjpfibogpdaa
open Go.RowKit
set_option linter.unusedVariables false
def mayL (l : List UInt8) : Bool := checkL l == 0
theorem below_next8 {a b c : World} (h : Below a.heap.size a b) (k : Below b.heap.size b c) : Below a.heap.size a c := h.trans (k.mono h.size)
theorem retv_bool {a b : Bool} (h : a = b) : Ending.returned (.bool a) = .returned (.bool b) := by rw [h]
theorem numv_any (n : Int) (w : World) : Calls Try.prog 29 #[.int .i64 n] w fun e w' => e = .returned (.int .i64 n) ∧ w = w' := by
  go_enter Try.func29, Try.ntmps29
  go_wp2
  go_ret
  exact ⟨rfl, rfl⟩
set_option maxHeartbeats 400000 in
theorem may_any (s : ByteArray) (w : World) (hs : s.size ≤ 140737488355328) :
    Calls Try.prog 32 #[.string s] w fun e w' => e = .returned (.bool (mayL s.data.toList)) ∧ Below w.heap.size w w' := by
  go_enter Try.func32, Try.ntmps32
  go_wp2_with fail
  refine (check_any s _ hs).mono ?_
  rintro e w1 ⟨rfl, hb⟩
  go_wp2
  go_ret
  refine ⟨retv_bool ?_, hb⟩
  unfold mayL
  rw [Bool.eq_iff_iff, beq_iff_eq, beq_iff_eq]
  omega
theorem check_lit (s : ByteArray) (n : Nat) (hs : s.size ≤ 140737488355328) (h : checkL s.data.toList = n) (w : World) :
    Calls Try.prog 30 #[.string s] w fun e w' => e = .returned (.int .i64 (n : Int)) ∧ Below w.heap.size w w' :=
  (check_any s w hs).mono fun e w' ⟨he, hb⟩ => ⟨by rw [he, h], hb⟩
theorem may_lit (s : ByteArray) (b : Bool) (hs : s.size ≤ 140737488355328) (h : mayL s.data.toList = b) (w : World) :
    Calls Try.prog 32 #[.string s] w fun e w' => e = .returned (.bool b) ∧ Below w.heap.size w w' :=
  (may_any s w hs).mono fun e w' ⟨he, hb⟩ => ⟨by rw [he, h], hb⟩
theorem hash_lit (s : ByteArray) (n : Nat) (hs : s.size ≤ maxLen) (h : hashL s.data.toList = n) (w : World) :
    Calls Try.prog 33 #[.string s] w fun e w' => e = .returned (.int .i64 (n : Int)) ∧ Below w.heap.size w w' :=
  (hash_any s w hs).mono fun e w' ⟨he, hb⟩ => ⟨by rw [he, h], hb⟩
theorem bucket_lit (s : ByteArray) (n : Nat) (hs : s.size ≤ maxLen) (h : hashL s.data.toList % 8 = n) (w : World) :
    Calls Try.prog 35 #[.string s] w fun e w' => e = .returned (.int .i64 (n : Int)) ∧ Below w.heap.size w w' :=
  (bucket_any s w hs).mono fun e w' ⟨he, hb⟩ => ⟨by rw [he, h], hb⟩
theorem runes_lit (s : ByteArray) (n : Nat) (hs : s.size ≤ maxLen) (h : countL s.data.toList = n) (w : World) :
    Calls Try.prog 37 #[.string s] w fun e w' => e = .returned (.int .i64 (n : Int)) ∧ Below w.heap.size w w' :=
  (runes_any s w hs).mono fun e w' ⟨he, hb⟩ => ⟨by rw [he, h], hb⟩
set_option maxHeartbeats 400000 in
theorem awake8 (w : World) : Calls Try.prog 39 #[] w fun e w' => e = .returned (.bool true) ∧ Below w.heap.size w w' := by
  go_enter Try.func39, Try.ntmps39
  go_wp2_with fail
  refine (check_lit _ 0 (by decide +kernel) (by decide +kernel) _).mono ?_
  rintro e w1 ⟨rfl, hb1⟩
  go_wp2_with fail
  refine (check_lit _ 800 (by decide +kernel) (by decide +kernel) _).mono ?_
  rintro e w2 ⟨rfl, hb2⟩
  go_wp2_with fail
  refine (check_lit _ 801 (by decide +kernel) (by decide +kernel) _).mono ?_
  rintro e w3 ⟨rfl, hb3⟩
  go_wp2_with fail
  refine (may_lit _ true (by decide +kernel) (by decide +kernel) _).mono ?_
  rintro e w4 ⟨rfl, hb4⟩
  go_wp2_with fail
  refine (may_lit _ false (by decide +kernel) (by decide +kernel) _).mono ?_
  rintro e w5 ⟨rfl, hb5⟩
  go_wp2_with (go_at_call 29; refine (numv_any _ _).mono ?_; rintro e w' ⟨rfl, rfl⟩)
  refine (hash_lit _ 314 (by decide +kernel) (by decide +kernel) _).mono ?_
  rintro e w6 ⟨rfl, hb6⟩
  go_wp2_with fail
  refine (bucket_lit _ 2 (by decide +kernel) (by decide +kernel) _).mono ?_
  rintro e w7 ⟨rfl, hb7⟩
  go_wp2_with fail
  refine (runes_lit _ 2 (by decide +kernel) (by decide +kernel) _).mono ?_
  rintro e w8 ⟨rfl, hb8⟩
  go_wp2_with fail
  go_ret
  exact ⟨rfl, below_next8 (below_next8 (below_next8 (below_next8 (below_next8 (below_next8 (below_next8 hb1 hb2) hb3) hb4) hb5) hb6) hb7) hb8⟩
end Go.Proofs.Ytihkjpfibogpdaa
