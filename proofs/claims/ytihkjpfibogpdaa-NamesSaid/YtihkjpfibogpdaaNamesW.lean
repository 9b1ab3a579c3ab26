/- The walk of the law Names. -/
import Derived.Test.YtihkjpfibogpdaaAwake8
namespace Go.Proofs.Ytihkjpfibogpdaa
open Go.RowKit
set_option linter.unusedVariables false
set_option maxHeartbeats 1000000 in
theorem names_walk (s : ByteArray) (hs : s.size ≤ 140737488351232) (w : World) :
    Calls Try.prog 8 #[.string s] w fun e w' => e = .returned (.bool true) ∧ Below w.heap.size w w' := by
  have h1 : s.size ≤ 140737488355328 := by omega
  have h2 : s.size ≤ maxLen := by unfold maxLen; omega
  have hm : (mayL s.data.toList == (((checkL s.data.toList : Nat) : Int) == 0)) = true := by
    unfold mayL
    rw [beq_iff_eq, Bool.eq_iff_iff, beq_iff_eq, beq_iff_eq]
    omega
  go_enter Try.func8, Try.ntmps8
  go_wp2_with fail
  refine (check_any s _ h1).mono ?_
  rintro e w1 ⟨rfl, hb1⟩
  go_wp2_with fail
  refine (refcheck_any s _ h1).mono ?_
  rintro e w' ⟨rfl, rfl⟩
  go_wp2_with fail
  refine (numv_any _ _).mono ?_
  rintro e w' ⟨rfl, rfl⟩
  go_wp2_with fail
  refine (may_any s _ h1).mono ?_
  rintro e w2 ⟨rfl, hb2⟩
  go_wp2_with fail
  refine (hash_any s _ h2).mono ?_
  rintro e w3 ⟨rfl, hb3⟩
  go_wp2_with fail
  refine (refhash_any s _ h1).mono ?_
  rintro e w' ⟨rfl, rfl⟩
  go_wp2_with fail
  refine (bucket_any s _ h2).mono ?_
  rintro e w4 ⟨rfl, hb4⟩
  go_wp2_with fail
  refine (refbucket_any s _ h1).mono ?_
  rintro e w' ⟨rfl, rfl⟩
  go_wp2_with fail
  refine (runes_any s _ h2).mono ?_
  rintro e w5 ⟨rfl, hb5⟩
  go_wp2_with fail
  refine (refrunes_any s _ h1).mono ?_
  rintro e w' ⟨rfl, rfl⟩
  go_wp2_with fail
  refine (awake8 _).mono ?_
  rintro e w6 ⟨rfl, hb6⟩
  go_wp2_with fail
  go_ret
  exact ⟨rfl, below_next8 (below_next8 (below_next8 (below_next8 (below_next8 hb1 hb2) hb3) hb4) hb5) hb6⟩
end Go.Proofs.Ytihkjpfibogpdaa
