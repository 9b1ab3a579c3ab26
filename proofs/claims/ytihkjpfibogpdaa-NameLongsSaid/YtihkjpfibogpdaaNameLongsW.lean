/- The walk of the law NameLongs. -/
import Derived.Test.YtihkjpfibogpdaaAwake8
import Derived.Test.YtihkjpfibogpdaaConv
namespace Go.Proofs.Ytihkjpfibogpdaa
open Go.RowKit
set_option linter.unusedVariables false
theorem and_i64 (x : Int) (m : Nat) (hm : m < 9223372036854775808) : ∃ k : Nat, k ≤ m ∧ bits .and .i64 x (m : Int) = (k : Int) := by
  have e : (BitVec.ofInt 64 (m : Int)).toNat = m := by rw [BitVec.ofInt_natCast, BitVec.toNat_ofNat]; exact Nat.mod_eq_of_lt (by omega)
  refine ⟨(BitVec.ofInt 64 x &&& BitVec.ofInt 64 (m : Int)).toNat, ?_, ?_⟩
  · rw [BitVec.toNat_and, e]; exact Nat.and_le_right
  · show IntKind.i64.wrap ((BitVec.ofInt 64 x &&& BitVec.ofInt 64 (m : Int)).toNat : Int) = _
    have h : (BitVec.ofInt 64 x &&& BitVec.ofInt 64 (m : Int)).toNat ≤ m := by rw [BitVec.toNat_and, e]; exact Nat.and_le_right
    rw [IntKind.wrap_i64]
    omega
def repL : Nat → List UInt8
  | 0 => []
  | n + 1 => repL n ++ [195, 169]
def rep (n : Nat) : ByteArray := ⟨(repL n).toArray⟩
theorem rep_succ (n : Nat) : rep n ++ ⟨#[195, 169]⟩ = rep (n + 1) := by
  apply ByteArray.ext
  show (rep n ++ _).data = _
  simp [rep, repL]
theorem rep_size (n : Nat) : (rep n).size = 2 * n := by
  induction n with
  | zero => rfl
  | succ n ih => rw [← rep_succ, ByteArray.size_append, ih]; rfl
def repE (n : Nat) : Nat := if n = 0 then 800 else if n ≤ 6 then 0 else 801
def repF (n : Nat) : Nat := if n ≤ 5 then 0 else 801
theorem rep_facts : ∀ n, n < 16 → checkL (repL n) = repE n ∧ checkL (repL n ++ [120]) = repF n ∧ countL (repL n) = n := by decide +kernel
set_option maxHeartbeats 1000000 in
theorem nameLongs_walk (m : Int) (hm : (Lit.int .i64 m).wf = true) (w : World) :
    Calls Try.prog 13 #[.int .i64 m] w fun e w' => e = .returned (.bool true) ∧ Below w.heap.size w w' := by
  obtain ⟨k, hk, hkm⟩ := and_i64 m 15 (by omega)
  rw [show ((15 : Nat) : Int) = 15 from rfl] at hkm
  obtain ⟨f1, f2, f3⟩ := rep_facts k (by omega)
  have hs0 : (rep k).size ≤ 140737488355328 := by rw [rep_size]; omega
  have hs1 : (rep k ++ ⟨#[120]⟩).size ≤ 140737488355328 := by rw [ByteArray.size_append, rep_size, show (ByteArray.mk #[120]).size = 1 from rfl]; omega
  have hs2 : (rep k).size ≤ maxLen := by unfold maxLen; omega
  have f2' : checkL (rep k ++ ⟨#[120]⟩).data.toList = repF k := by rw [show (rep k ++ ⟨#[120]⟩).data.toList = repL k ++ [120] from by simp [rep]]; exact f2
  have F1 := Lib.hid f1
  have F2 := Lib.hid f2'
  have F3 := Lib.hid f3
  clear f1 f2 f2' f3
  go_enter Try.func13, Try.ntmps13
  go_wp2_with fail
  refine (awake8 _).mono ?_
  rintro e w1 ⟨rfl, hb1⟩
  go_wp2_with fail
  go_loop [4, 5] (fun s i => ∃ n : Nat, n ≤ k ∧ i = .int .i64 n ∧ s = .string (rep n)) (fun _ i => k - (intOf i).toNat)
  case atStart => exact ⟨0, by omega, rfl, rfl⟩
  case round =>
    obtain ⟨n, hn, rfl, rfl⟩ := hrel
    have hsz := rep_size n
    have Hsz := Lib.hid hsz
    have hszl : (rep n).size ≤ 32 := by omega
    clear hsz
    by_cases hlt : n < k
    · go_wp2
      go_round
      case rel => exact ⟨n + 1, by omega, by go_num, by rw [rep_succ]⟩
      case measure => simp [intOf]; omega
    · obtain rfl : n = k := by omega
      go_wp2_with fail
      refine (check_lit _ _ hs0 F1.out _).mono ?_
      rintro e w2 ⟨rfl, hb2⟩
      go_wp2_with fail
      refine (check_lit _ _ hs1 F2.out _).mono ?_
      rintro e w3 ⟨rfl, hb3⟩
      by_cases c0 : n = 0
      · subst c0
        rw [show repE 0 = 800 from rfl, show repF 0 = 0 from rfl]
        go_wp2_with (go_at_call 29; refine (numv_any _ _).mono ?_; rintro e w' ⟨rfl, rfl⟩)
        refine (runes_lit _ _ hs2 F3.out _).mono ?_
        rintro e w4 ⟨rfl, hb4⟩
        go_wp2_with fail
        go_ret
        exact ⟨rfl, Cv.next (Cv.next (Cv.next hb1 hb2) hb3) hb4⟩
      by_cases c5 : n ≤ 5
      · rw [show repE n = 0 from by unfold repE; rw [if_neg c0, if_pos (by omega)], show repF n = 0 from if_pos c5]
        have c0' : 0 < n := by omega
        go_wp2_with (go_at_call 29; refine (numv_any _ _).mono ?_; rintro e w' ⟨rfl, rfl⟩)
        refine (runes_lit _ _ hs2 F3.out _).mono ?_
        rintro e w4 ⟨rfl, hb4⟩
        go_wp2_with fail
        go_ret
        exact ⟨rfl, Cv.next (Cv.next (Cv.next hb1 hb2) hb3) hb4⟩
      by_cases c6 : n = 6
      · subst c6
        rw [show repE 6 = 0 from rfl, show repF 6 = 801 from rfl]
        go_wp2_with (go_at_call 29; refine (numv_any _ _).mono ?_; rintro e w' ⟨rfl, rfl⟩)
        refine (runes_lit _ _ hs2 F3.out _).mono ?_
        rintro e w4 ⟨rfl, hb4⟩
        go_wp2_with fail
        go_ret
        exact ⟨rfl, Cv.next (Cv.next (Cv.next hb1 hb2) hb3) hb4⟩
      · rw [show repE n = 801 from by unfold repE; rw [if_neg c0, if_neg (by omega)], show repF n = 801 from if_neg c5]
        have c0' : 7 ≤ n := by omega
        have q1 : decide (2 * (n : Int) ≤ 12) = false := by simp; omega
        have q2 : decide (2 * (n : Int) + 1 ≤ 12) = false := by simp; omega
        go_wp2_with (go_at_call 29; refine (numv_any _ _).mono ?_; rintro e w' ⟨rfl, rfl⟩)
        refine (runes_lit _ _ hs2 F3.out _).mono ?_
        rintro e w4 ⟨rfl, hb4⟩
        go_wp2_with fail
        go_ret
        exact ⟨rfl, Cv.next (Cv.next (Cv.next hb1 hb2) hb3) hb4⟩
end Go.Proofs.Ytihkjpfibogpdaa
