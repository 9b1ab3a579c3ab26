/- The walks of the laws NameRunes and NameHashes. -/
import Derived.Test.YtihkjpfibogpdaaAwake8
import Derived.Test.YtihkjpfibogpdaaPlainName2
namespace Go.Proofs.Ytihkjpfibogpdaa
open Go.RowKit
set_option linter.unusedVariables false
def countB (t : ByteArray) : Nat := countL t.data.toList
def hashB (t : ByteArray) : Nat := hashL t.data.toList
def bucketB (t : ByteArray) : Nat := hashB t % 8
theorem runesB_any (s : ByteArray) (w : World) (hs : s.size ≤ maxLen) :
    Calls Try.prog 37 #[.string s] w fun e w' => e = .returned (.int .i64 ((countB s : Nat) : Int)) ∧ Below w.heap.size w w' := runes_any s w hs
theorem hashB_any (s : ByteArray) (w : World) (hs : s.size ≤ maxLen) :
    Calls Try.prog 33 #[.string s] w fun e w' => e = .returned (.int .i64 ((hashB s : Nat) : Int)) ∧ Below w.heap.size w w' := hash_any s w hs
theorem bucketB_any (s : ByteArray) (w : World) (hs : s.size ≤ maxLen) :
    Calls Try.prog 35 #[.string s] w fun e w' => e = .returned (.int .i64 ((bucketB s : Nat) : Int)) ∧ Below w.heap.size w w' := bucket_any s w hs
theorem size_x (s : ByteArray) : (s ++ ByteArray.mk #[120]).size = s.size + 1 := by rw [ByteArray.size_append]; rfl
theorem data_x (s : ByteArray) : (s ++ ByteArray.mk #[120]).data.toList = s.data.toList ++ [120] := by simp
theorem shut_x (s : ByteArray) : Shut (s ++ ByteArray.mk #[120]).data.toList := by rw [data_x]; exact shut_snoc _ _ (by decide)
theorem countB_nil : countB ⟨#[]⟩ = 0 := rfl
set_option maxHeartbeats 1000000 in
theorem nameRunes_walk (s : ByteArray) (hs : s.size ≤ 140737488351232) (t : ByteArray) (ht : t.size ≤ 140737488351232) (w : World) :
    Calls Try.prog 9 #[.string s, .string t] w fun e w' => e = .returned (.bool true) ∧ Below w.heap.size w w' := by
  have h1 : countB (s ++ ByteArray.mk #[120]) ≤ s.size + 1 := by
    have := countL_le _ _ (Nat.le_refl (s ++ ByteArray.mk #[120]).data.toList.length)
    rw [data_x] at this
    unfold countB
    rw [data_x]
    simpa using this
  have h2 : s.size + 1 ≤ 4 * countB (s ++ ByteArray.mk #[120]) := by
    have := countL_four _ _ (Nat.le_refl (s ++ ByteArray.mk #[120]).data.toList.length)
    rw [data_x] at this
    unfold countB
    rw [data_x]
    simpa using this
  have h3 : countB ((s ++ ByteArray.mk #[120]) ++ t) = countB (s ++ ByteArray.mk #[120]) + countB t := by
    unfold countB
    rw [← countL_append _ _ (shut_x s)]
    simp
  have h5 : countB t ≤ t.size := countL_le _ _ (Nat.le_refl t.data.toList.length)
  have h4 : (((countB ((s ++ ByteArray.mk #[120]) ++ t) : Nat) : Int) == (countB (s ++ ByteArray.mk #[120]) : Int) + (countB t : Int)) = true := by rw [beq_iff_eq]; omega
  have hsA : (s ++ ByteArray.mk #[120]).size ≤ maxLen := by rw [size_x]; unfold maxLen; omega
  have hsT : ((s ++ ByteArray.mk #[120]) ++ t).size ≤ maxLen := by rw [ByteArray.size_append, size_x]; unfold maxLen; omega
  have hst : t.size ≤ maxLen := by unfold maxLen; omega
  clear h3
  go_enter Try.func9, Try.ntmps9
  go_wp2_with fail
  refine (awake8 _).mono ?_
  rintro e w1 ⟨rfl, hb1⟩
  go_wp2_with fail
  refine (runesB_any _ _ hsA).mono ?_
  rintro e w2 ⟨rfl, hb2⟩
  go_wp2_with fail
  refine (runesB_any _ _ hsT).mono ?_
  rintro e w3 ⟨rfl, hb3⟩
  go_wp2_with fail
  refine (runesB_any _ _ hst).mono ?_
  rintro e w4 ⟨rfl, hb4⟩
  go_wp2_with fail
  refine (runes_lit _ 0 (by decide +kernel) (by decide +kernel) _).mono ?_
  rintro e w5 ⟨rfl, hb5⟩
  go_wp2_with fail
  go_ret
  exact ⟨rfl, below_next8 (below_next8 (below_next8 (below_next8 hb1 hb2) hb3) hb4) hb5⟩
end Go.Proofs.Ytihkjpfibogpdaa
