/- The walk of the law PmemSizes. -/
import Derived.Test.YtbflennacniacaaAwake1
namespace Go.Proofs.Ytbflennacniacaa
open Go.RowKit
set_option linter.unusedVariables false
set_option maxRecDepth 100000 in
set_option maxHeartbeats 2000000 in
theorem pmemSizes_walk (words : Int) (h0 : (Lit.int .i64 words).wf = true) (at_ : Int) (h1 : (Lit.int .i64 at_).wf = true) (w : World) :
    Calls Try.prog 5 #[.int .i64 words, .int .i64 at_] w fun e w' => e = .returned (.bool true) ∧ Below w.heap.size w w' := by
  obtain ⟨x, hx⟩ : ∃ x, words.tmod 300 = x := ⟨_, rfl⟩
  have hx2 : -300 < x ∧ x < 300 := by
    rw [← hx]
    have := Int.tmod_lt_of_pos words (b := 300) (by omega)
    have := Int.lt_tmod_of_pos words (b := 300) (by omega)
    omega
  clear h0 h1
  by_cases c1 : x < 8
  · have q1 : decide (x < 8) = true := by simpa using c1
    go_enter Try.func5, Try.ntmps5
    go_wp2_with fail
    refine (awake1 _).mono ?_
    rintro e w1 ⟨rfl, hb1⟩
    go_wp2_with fail
    refine (new_low x _ c1).mono ?_
    rintro e w2 ⟨rfl, rfl⟩
    go_wp2_with (go_at_call 22; refine (num1_any _ _).mono ?_; rintro e w' ⟨rfl, rfl⟩)
    go_ret
    exact ⟨rfl, hb1⟩
  · obtain ⟨y, rfl⟩ : ∃ y : Nat, x = (y : Int) := ⟨x.toNat, by omega⟩
    have q1 : decide ((y : Int) < 8) = false := by simpa using c1
    obtain ⟨r, hr⟩ : ∃ r, y % 8 = r := ⟨_, rfl⟩
    have e1 : (y : Int).tmod 8 = (r : Int) := by rw [← hr]; rfl
    by_cases c2 : r = 0
    · obtain ⟨n, rfl⟩ : ∃ n, y = n * 8 := ⟨y / 8, by omega⟩
      subst c2
      have hn1 : 1 ≤ n := by omega
      have hn2 : n ≤ 37 := by omega
      obtain ⟨N, hN⟩ : ∃ N : Int, ((n * 8 : Nat) : Int) = N := ⟨_, rfl⟩
      rw [hN] at hx e1 q1
      have e2 : N.tdiv 8 = (n : Int) := by
        rw [← hN]
        show ((n * 8 / 8 : Nat) : Int) = n
        simp
      obtain ⟨P, hP⟩ : ∃ P, placeV n at_ = P := ⟨_, rfl⟩
      obtain ⟨L, hL⟩ : ∃ L, lineE n at_ = L := ⟨_, rfl⟩
      have HN := Lib.hid hN
      have HP := Lib.hid hP
      have hP2 : placeV (((PM.fresh n).store at_ 1).flush at_).n at_ = P := by rw [PM.flush_n, PM.store_n]; exact hP
      have hL2 : lineE ((PM.fresh n).store at_ 1).n at_ = L := by rw [PM.store_n]; exact hL
      have hW2 : (((((PM.fresh n).store at_ 1).flush at_).n * 8 : Nat) : Int) = N := by rw [PM.flush_n, PM.store_n]; exact hN
      have HP2 := Lib.hid hP2
      have HL2 := Lib.hid hL2
      have HW2 := Lib.hid hW2
      have HL := Lib.hid hL
      have hcase : (at_ < 0 ∧ decide (0 ≤ at_) = false ∧ P = 101 ∧ L = 101) ∨ (0 ≤ at_ ∧ (decide (at_ < (n : Int)) = true ∧ decide (at_ < N) = true) ∧ P = 0 ∧ L = 0) ∨ (0 ≤ at_ ∧ (decide (at_ < (n : Int)) = false ∧ decide (at_ < N) = true) ∧ P = 0 ∧ L = 101) ∨ (0 ≤ at_ ∧ (decide (at_ < (n : Int)) = false ∧ decide (at_ < N) = false) ∧ P = 101 ∧ L = 101) := by
        unfold placeV at hP
        unfold lineE at hL
        rw [hN] at hP
        have hN' : N = n * 8 := by rw [← hN]; omega
        simp only [decide_eq_true_eq, decide_eq_false_iff_not]
        split at hP <;> split at hL <;> omega
      clear hP hL hN hr c1 hP2 hL2 hW2
      rcases hcase with ⟨t1, t2, rfl, rfl⟩ | ⟨t1, ⟨t2, t3⟩, rfl, rfl⟩ | ⟨t1, ⟨t2, t3⟩, rfl, rfl⟩ | ⟨t1, ⟨t2, t3⟩, rfl, rfl⟩
      all_goals
        go_enter Try.func5, Try.ntmps5
        go_wp2_with fail
        refine (awake1 _).mono ?_
        rintro e w1 ⟨rfl, hb1⟩
        go_wp2_with fail
        refine (new_live n w w1 hb1 hn1 (by omega) N HN.out).mono ?_
        rintro e w2 ⟨a, rfl, _, g2, _⟩
        have G2 := Lib.hid g2
        clear g2
        go_wp2_with fail
        refine (store_live G2.out at_ 1 _ 0 HP.out (PM.ok.fresh n) (by omega)).mono ?_
        rintro e w3 ⟨rfl, g3⟩
        have G3 := Lib.hid g3
        clear g3
        go_wp2_with fail
        refine (flush_live G3.out at_ _ 1 HL2.out ((PM.ok.fresh n).store at_ 1) (by omega)).mono ?_
        rintro e w4 ⟨rfl, g4⟩
        have G4 := Lib.hid g4
        clear g4
        go_wp2_with fail
        refine (load_live G4.out at_ _ _ rfl HP2.out).mono ?_
        rintro e w5 ⟨rfl, rfl⟩
        go_wp2_with (go_at_call 22; refine (num1_any _ _).mono ?_; rintro e w' ⟨rfl, rfl⟩)
        refine (words_live G4.out N HW2.out).mono ?_
        rintro e w7 ⟨rfl, rfl⟩
        go_wp2_with (go_at_call 22; refine (num1_any _ _).mono ?_; rintro e w' ⟨rfl, rfl⟩)
        go_ret
        exact ⟨rfl, G4.out.bel⟩
    · have hr2 : y % 8 ≠ 0 := by omega
      have q2 : ((r : Int) != 0) = true := by rw [bne_iff_ne]; omega
      have hy : 8 ≤ y := by omega
      have HR := Lib.hid hr2
      clear hr hr2
      go_enter Try.func5, Try.ntmps5
      go_wp2_with fail
      refine (awake1 _).mono ?_
      rintro e w1 ⟨rfl, hb1⟩
      go_wp2_with fail
      refine (new_odd y _ hy (by omega) HR.out).mono ?_
      rintro e w2 ⟨rfl, rfl⟩
      go_wp2_with (go_at_call 22; refine (num1_any _ _).mono ?_; rintro e w' ⟨rfl, rfl⟩)
      go_ret
      exact ⟨rfl, hb1⟩
end Go.Proofs.Ytbflennacniacaa
