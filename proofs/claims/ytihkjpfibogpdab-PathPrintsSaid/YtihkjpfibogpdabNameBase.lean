/- Small facts on texts that the walks over package name want. -/
import Derived.Test.YtihkjpfibogpdabRows
import Derived.Test.YtihkjpfibogpdabPlainName
import Derived.WalkKit
import Derived.WalkSpells
import Derived.WalkLawsBesides
import Derived.Lib.Hide
import Derived.Laws.RangeAny
namespace Go.Proofs.Ytihkjpfibogpdab
open Go.RowKit
set_option linter.unusedVariables false

theorem drop_ne {s : ByteArray} {p : Nat} (h : p < s.size) : s.data.toList.drop p ≠ [] := by
  intro e
  have e2 := congrArg List.length e
  have e3 : s.size = s.data.toList.length := rfl
  rw [List.length_drop] at e2
  simp only [List.length_nil] at e2
  omega
theorem drop_all {s : ByteArray} {p : Nat} (h : ¬ p < s.size) : s.data.toList.drop p = [] := by
  apply List.drop_eq_nil_of_le
  have e3 : s.size = s.data.toList.length := rfl
  omega
theorem retv_int {k : IntKind} {a b : Int} (h : a = b) : Ending.returned (.int k a) = .returned (.int k b) := by rw [h]
theorem valv_int {k : IntKind} {a b : Int} (h : a = b) : Value.int k a = .int k b := by rw [h]
theorem below_iter (w : World) (s : ByteArray) (p : Nat) : Below w.heap.size w (w.iter s p) := (Below.refl _ _).alloc (Nat.le_refl _) _

end Go.Proofs.Ytihkjpfibogpdab
