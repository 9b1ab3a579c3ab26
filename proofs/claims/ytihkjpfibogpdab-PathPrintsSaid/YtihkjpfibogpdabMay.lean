/- name.May by its contract; Check and May at texts that are known. -/
import Derived.Test.YtihkjpfibogpdabCheck
namespace Go.Proofs.Ytihkjpfibogpdab
open Go.RowKit
set_option linter.unusedVariables false
def mayL (l : List UInt8) : Bool := checkL l == 0
theorem below_next8 {a b c : World} (h : Below a.heap.size a b) (k : Below b.heap.size b c) : Below a.heap.size a c := h.trans (k.mono h.size)
theorem retv_bool {a b : Bool} (h : a = b) : Ending.returned (.bool a) = .returned (.bool b) := by rw [h]
theorem numv_any (n : Int) (w : World) : Calls Try.prog 17 #[.int .i64 n] w fun e w' => e = .returned (.int .i64 n) ∧ w = w' := by
  go_enter Try.func17, Try.ntmps17
  go_wp2
  go_ret
  exact ⟨rfl, rfl⟩
set_option maxHeartbeats 400000 in
theorem may_any (s : ByteArray) (w : World) (hs : s.size ≤ 140737488355328) :
    Calls Try.prog 33 #[.string s] w fun e w' => e = .returned (.bool (mayL s.data.toList)) ∧ Below w.heap.size w w' := by
  go_enter Try.func33, Try.ntmps33
  go_wp2_with fail
  refine (check_any s _ hs).mono ?_
  rintro e w1 ⟨rfl, hb⟩
  go_wp2
  go_ret
  refine ⟨retv_bool ?_, hb⟩
  unfold mayL
  rw [Bool.eq_iff_iff, beq_iff_eq, beq_iff_eq]
  omega
theorem check_lit (s : ByteArray) (n : Nat) (hs : s.size ≤ 140737488355328) (h : checkL s.data.toList = n) (w : World) :
    Calls Try.prog 31 #[.string s] w fun e w' => e = .returned (.int .i64 (n : Int)) ∧ Below w.heap.size w w' :=
  (check_any s w hs).mono fun e w' ⟨he, hb⟩ => ⟨by rw [he, h], hb⟩
theorem may_lit (s : ByteArray) (b : Bool) (hs : s.size ≤ 140737488355328) (h : mayL s.data.toList = b) (w : World) :
    Calls Try.prog 33 #[.string s] w fun e w' => e = .returned (.bool b) ∧ Below w.heap.size w w' :=
  (may_any s w hs).mono fun e w' ⟨he, hb⟩ => ⟨by rw [he, h], hb⟩
end Go.Proofs.Ytihkjpfibogpdab
