/- concourseref1.NewMem: the sizes that it refuses; what its rows are. -/
import Derived.Test.YtbflennacniacaaRmRel
import Derived.Deep.OwnRows
namespace Go.Proofs.Ytbflennacniacaa
open Go.RowKit
set_option linter.unusedVariables false
set_option maxHeartbeats 1000000 in
theorem rnew_low (x : Int) (w : World) (h : x < 8) :
    Calls Try.prog 27 #[.int .i64 x] w fun e w' => e = .returned (.tuple #[.pointer .none, .int .i64 100]) ∧ w = w' := by
  have q1 : decide (x < 8) = true := by simpa using h
  go_enter Try.func27, Try.ntmps27
  go_wp2_with fail
  go_ret2
  exact ⟨rfl, rfl⟩
set_option maxHeartbeats 1000000 in
theorem rnew_high (x : Int) (w : World) (h : 65536 < x) :
    Calls Try.prog 27 #[.int .i64 x] w fun e w' => e = .returned (.tuple #[.pointer .none, .int .i64 100]) ∧ w = w' := by
  have q1 : decide (x < 8) = false := by simp; omega
  have q2 : decide (65536 < x) = true := by simpa using h
  go_enter Try.func27, Try.ntmps27
  go_wp2_with fail
  go_ret2
  exact ⟨rfl, rfl⟩
set_option maxHeartbeats 1000000 in
theorem rnew_odd (x : Nat) (w : World) (h1 : 8 ≤ x) (h2 : x ≤ 65536) (h : x % 8 ≠ 0) :
    Calls Try.prog 27 #[.int .i64 x] w fun e w' => e = .returned (.tuple #[.pointer .none, .int .i64 100]) ∧ w = w' := by
  have q1 : decide ((x : Int) < 8) = false := by simp; omega
  have q2 : decide ((65536 : Int) < x) = false := by simp; omega
  obtain ⟨r, hr⟩ : ∃ r, x % 8 = r := ⟨_, rfl⟩
  have e1 : (x : Int).tmod 8 = (r : Int) := by rw [← hr]; rfl
  have q3 : ((r : Int) != 0) = true := by rw [bne_iff_ne]; omega
  clear hr h
  go_enter Try.func27, Try.ntmps27
  go_wp2_with fail
  go_ret2
  exact ⟨rfl, rfl⟩
def RM.fresh (n : Nat) : RM := { n := n, seen := fun _ => 0, last := fun _ => 0, way := fun _ => 0, going := fun _ => false, fuse := false, left := 0, fin := none, steps := 0, many := 0 }
theorem Rel.fresh (n : Nat) : Rel (PM.fresh n) (RM.fresh n) := by
  refine ⟨⟨rfl, rfl, rfl, rfl, rfl, fun _ => rfl, (fun i g hg => by cases hg), fun _ _ => rfl⟩, rfl, fun hh => ?_, rfl, ?_, ?_⟩
  · change (0 : Int) ≤ -1 at hh; omega
  · show (none : Option (Nat → Int)).isSome = true ↔ (-1 : Int) = 0; simp
  · show (-1 : Int) ≤ -1; omega
/-- The counters' bounds. -/
structure RM.ok (M : RM) (K : Nat) : Prop where
  steps : M.steps ≤ K
  many : M.many ≤ K
  left : wf64 M.left
end Go.Proofs.Ytbflennacniacaa
