/- The walk of the law SumTurned. -/
import Derived.Test.YtihkjpfibogpdaaSumLaws
import Derived.RegionTactic
namespace Go.Proofs.Ytihkjpfibogpdaa
open Go.RowKit
theorem conv_one (W : World) (g c : Nat) (x : UInt8) (h : W.cell? ⟨g, 0, none⟩ = some (.int .u8 (x.toNat : Int))) :
    (convert 28 9 (.slice (some ⟨g, 0, none⟩) 1 c)).run Try.prog W = .ok (.string ⟨#[x]⟩) W :=
  run_convert_bytes_back (P := Try.prog) W 28 9 5 ⟨g, 0, none⟩ c [x] Try.underlying28 Try.underlying5 Try.underlying9 (by
    intro j hj
    have hj' : j = 0 := by simpa using hj
    subst hj'
    simpa [Addr.add] using h)
theorem byte_of (a : Int) : ∃ x : UInt8, a % 256 = (x.toNat : Int) :=
  ⟨UInt8.ofNat (a % 256).toNat, by rw [UInt8.toNat_ofNat']; omega⟩
def sumS (s : ByteArray) (x : UInt8) : Nat := sumN (s.data.toList ++ [x])
theorem sumS_lt (s : ByteArray) (x : UInt8) : sumS s x < hM := sumN_lt _
theorem sumS_inj {s : ByteArray} {x y : UInt8} (h : x ≠ y) : (((sumS s x : Nat) : Int) == ((sumS s y : Nat) : Int)) = false := by
  rw [beq_eq_false_iff_ne]
  intro e
  exact h (sumN_one s.data.toList [] x y (by unfold sumS at e; exact_mod_cast e))
theorem sum_snoc (s : ByteArray) (x : UInt8) (w : World) (hs : s.size ≤ 140737488351232) :
    Calls Try.prog 24 #[.string (s ++ ⟨#[x]⟩)] w fun e w' => e = .returned (.int .u64 ((sumS s x : Nat) : Int)) ∧ w = w' := by
  have h1 : (s ++ ByteArray.mk #[x]).data.toList = s.data.toList ++ [x] := by simp
  have h2 : (s ++ ByteArray.mk #[x]).size ≤ maxLen := by
    have h3 : (ByteArray.mk #[x]).size = 1 := rfl
    rw [ByteArray.size_append, h3]
    unfold maxLen
    omega
  have := sum_any _ w h2
  rw [h1] at this
  exact this
theorem hexN_length (x : Nat) : (hexN x).length = 16 := by simp [hexN]
theorem hex_len (x : Nat) (hx : x < hM) (w : World) :
    Calls Try.prog 26 #[.int .u64 (x : Int)] w fun e w' => ∃ t : ByteArray, e = .returned (.string t) ∧ t.size = 16 ∧ Below w.heap.size w w' :=
  (hex_any x hx w).mono fun e w' ⟨he, hb⟩ => ⟨_, he, hexN_length x, hb⟩
set_option maxHeartbeats 400000 in
theorem sumTurned_walk (s : ByteArray) (hs : s.size ≤ 140737488351232) (a : Int) (ha : (Lit.int .i64 a).wf = true) (b : Int) (hb : (Lit.int .i64 b).wf = true) (w : World) :
    Calls Try.prog 7 #[.string s, .int .i64 a, .int .i64 b] w fun e w' => e = .returned (.bool true) ∧ Below w.heap.size w w' := by
  obtain ⟨x, hx⟩ := byte_of a
  obtain ⟨y, hy⟩ := byte_of b
  have hcvx := fun (W : World) (g c : Nat) => conv_one W g c x
  have hcvy := fun (W : World) (g c : Nat) => conv_one W g c y
  go_enter Try.func7, Try.ntmps7
  go_wp2_with fail
  refine (awake18 _).mono ?_
  rintro e w1 ⟨rfl, hb1⟩
  go_wp2_with fail
  go_region
  all_goals
    clear hcvx hcvy
    by_cases e : x = y
    · subst e
      go_wp2_with fail
      refine (sum_snoc s x _ hs).mono ?_
      rintro e w' ⟨rfl, rfl⟩
      go_wp2_with fail
      refine (sum_snoc s x _ hs).mono ?_
      rintro e w' ⟨rfl, rfl⟩
      go_wp2_with fail
      refine (sum_snoc s x _ hs).mono ?_
      rintro e w' ⟨rfl, rfl⟩
      go_wp2_with fail
      refine (hex_len _ (sumS_lt _ _) _).mono ?_
      rintro e w2 ⟨t, rfl, ht, hb2⟩
      go_wp2_with fail
      refine (num_any _ _).mono ?_
      rintro e w' ⟨rfl, rfl⟩
      go_wp2_with fail
      go_ret
      exact ⟨rfl, below_next hb1 (below_next ((((Below.refl _ _).alloc (Nat.le_refl _) _).alloc (by simp) _).drew) hb2)⟩
    · have hq := sumS_inj (s := s) e
      have hq2 : ((x.toNat : Int) == (y.toNat : Int)) = false := by
        rw [beq_eq_false_iff_ne]; intro h; exact e (UInt8.toNat_inj.1 (by exact_mod_cast h))
      go_wp2_with fail
      refine (sum_snoc s x _ hs).mono ?_
      rintro e w' ⟨rfl, rfl⟩
      go_wp2_with fail
      refine (sum_snoc s y _ hs).mono ?_
      rintro e w' ⟨rfl, rfl⟩
      go_wp2_with fail
      refine (sum_snoc s x _ hs).mono ?_
      rintro e w' ⟨rfl, rfl⟩
      go_wp2_with fail
      refine (hex_len _ (sumS_lt _ _) _).mono ?_
      rintro e w2 ⟨t, rfl, ht, hb2⟩
      go_wp2_with fail
      refine (num_any _ _).mono ?_
      rintro e w' ⟨rfl, rfl⟩
      go_wp2_with fail
      go_ret
      exact ⟨rfl, below_next hb1 (below_next ((((Below.refl _ _).alloc (Nat.le_refl _) _).alloc (by simp) _).drew) hb2)⟩
end Go.Proofs.Ytihkjpfibogpdaa
