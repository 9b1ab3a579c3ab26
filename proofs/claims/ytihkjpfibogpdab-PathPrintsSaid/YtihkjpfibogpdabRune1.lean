/- The reference's rune at a place, by its contract. -/
import Derived.Test.YtihkjpfibogpdabNameBase
namespace Go.Proofs.Ytihkjpfibogpdab
open Go.RowKit
set_option linter.unusedVariables false
theorem getD_at {s : ByteArray} {i : Nat} (h : i < s.size) : s.data.toList.getD i 0 = s[i] := by
  have h' : i < s.data.size := h
  rw [List.getD_eq_getElem?_getD, Array.getElem?_toList, Array.getElem?_eq_getElem h']
  rfl
set_option maxHeartbeats 400000 in
theorem next_any (s : ByteArray) (i : Int) (h0 : 0 ≤ i) (h1 : i ≤ 9223372036854775806) (w : World) (hs : s.size ≤ maxLen) :
    Calls Try.prog 38 #[.string s, .int .i64 i] w fun e w' => e = .returned (.int .i64 (nextL s.data.toList i.toNat)) ∧ w = w' := by
  unfold maxLen at hs
  obtain ⟨n, rfl⟩ := Int.eq_ofNat_of_zero_le h0
  rw [Int.toNat_natCast]
  have hsz : s.data.toList.length = s.size := rfl
  by_cases hn : n < s.size
  · have hg := getD_at hn
    obtain ⟨v, hv⟩ : ∃ v : UInt8, s[n] = v := ⟨_, rfl⟩
    have hvl := v.toNat_lt
    have e : nextL s.data.toList n = if 128 ≤ v.toNat ∧ v.toNat ≤ 191 then (v.toNat : Int) - 128 else -1 := by
      unfold nextL
      rw [hsz, hg, hv]
      simp [hn]
    rw [e]
    clear e hg hsz
    by_cases c1 : v.toNat < 128
    · rw [if_neg (by omega)]
      go_enter Try.func38, Try.ntmps38
      go_wp2
      go_ret
      exact ⟨rfl, rfl⟩
    · by_cases c2 : v.toNat ≤ 191
      · rw [if_pos (by omega)]
        go_enter Try.func38, Try.ntmps38
        go_wp2
        go_ret
        exact ⟨rfl, rfl⟩
      · rw [if_neg (by omega)]
        go_enter Try.func38, Try.ntmps38
        go_wp2
        go_ret
        exact ⟨rfl, rfl⟩
  · have e : nextL s.data.toList n = -1 := by unfold nextL; rw [if_neg (by omega)]
    rw [e]
    clear e hsz
    go_enter Try.func38, Try.ntmps38
    go_wp2
    go_ret
    exact ⟨rfl, rfl⟩
theorem ret2_pair {x y : Int} {q : Int × Int} (h : (x, y) = q) : Ending.returned (.tuple #[.int .i64 x, .int .i64 y]) = .returned (.tuple #[.int .i64 q.1, .int .i64 q.2]) := by rw [← h]
set_option maxRecDepth 100000 in
set_option maxHeartbeats 1000000 in
theorem rune1_any (s : ByteArray) (p : Nat) (hp : p < s.size) (w : World) (hs : s.size ≤ 140737488355328) :
    Calls Try.prog 36 #[.string s, .int .i64 (p : Int)] w fun e w' => e = .returned (.tuple #[.int .i64 ((rune1L (s.data.toList.drop p)).1 : Int), .int .i64 ((rune1L (s.data.toList.drop p)).2 : Int)]) ∧ w = w' := by
  have hl := rune1_list _ (drop_ne hp)
  simp only [nextL_drop] at hl
  have hg : (s.data.toList.drop p).getD 0 0 = s[p] := by
    rw [← getD_at hp]; simp [List.getD_eq_getElem?_getD, List.getElem?_drop]
  rw [hg] at hl
  obtain ⟨v, hv⟩ : ∃ v : UInt8, s[p] = v := ⟨_, rfl⟩
  have hvl := v.toNat_lt
  rw [hv] at hl
  obtain ⟨a, ha⟩ : ∃ a, nextL s.data.toList (p + 1) = a := ⟨_, rfl⟩
  obtain ⟨b, hb⟩ : ∃ a, nextL s.data.toList (p + 2) = a := ⟨_, rfl⟩
  obtain ⟨d, hd⟩ : ∃ a, nextL s.data.toList (p + 3) = a := ⟨_, rfl⟩
  have ra := nextL_range s.data.toList (p + 1)
  have rb := nextL_range s.data.toList (p + 2)
  have rd := nextL_range s.data.toList (p + 3)
  rw [ha] at ra hl
  rw [hb] at rb hl
  rw [hd] at rd hl
  have hl1 := congrArg Prod.fst hl
  have hl2 := congrArg Prod.snd hl
  simp only at hl1 hl2
  rw [← hl1, ← hl2]
  clear hl hl1 hl2 hg
  have HA := Lib.hid ha
  have HB := Lib.hid hb
  have HD := Lib.hid hd
  clear ha hb hd
  go_enter Try.func36, Try.ntmps36
  go_wp2_with fail
  refine (next_any s _ (by omega) (by omega) _ (by unfold maxLen; omega)).mono ?_
  rintro e w' ⟨rfl, rfl⟩
  rw [show ((p : Int) + 1).toNat = p + 1 by omega, HA.out]
  go_wp2_with fail
  refine (next_any s _ (by omega) (by omega) _ (by unfold maxLen; omega)).mono ?_
  rintro e w' ⟨rfl, rfl⟩
  rw [show ((p : Int) + 2).toNat = p + 2 by omega, HB.out]
  go_wp2_with fail
  refine (next_any s _ (by omega) (by omega) _ (by unfold maxLen; omega)).mono ?_
  rintro e w' ⟨rfl, rfl⟩
  rw [show ((p : Int) + 3).toNat = p + 3 by omega, HD.out]
  go_wp2_with fail
  all_goals
    go_ret2
    refine ⟨ret2_pair ?_, rfl⟩
    unfold rune1I
    repeat' split
    all_goals first | rfl | (exfalso; omega) | exact pair_eq (by omega) (by omega)
theorem rune1L_spec (l : List UInt8) : (rune1L l).1 = (decodeL l).1 ∧ max (rune1L l).2 1 = (decodeL l).2 ∧ ((rune1L l).2 = 0 ↔ badRune (decodeL l) = true) := by
  have hw := decodeL_width l
  unfold rune1L
  by_cases h : badRune (decodeL l) = true
  · rw [if_pos h]
    have h' := h
    unfold badRune at h'
    simp at h'
    refine ⟨h'.1.symm, ?_, ?_⟩
    · rw [h'.2]; rfl
    · simp [h]
  · rw [if_neg h]
    refine ⟨rfl, Nat.max_eq_left hw.1, ?_⟩
    constructor
    · intro e; omega
    · intro e; exact absurd e h

/-- The rune at a place: what a loop over a text wants of it. -/
theorem rune1_at (s : ByteArray) (p : Nat) (hp : p < s.size) (w : World) (hs : s.size ≤ 140737488355328) :
    Calls Try.prog 36 #[.string s, .int .i64 (p : Int)] w fun e w' => ∃ c k : Nat, e = .returned (.tuple #[.int .i64 (c : Int), .int .i64 (k : Int)]) ∧ c = (decodeL (s.data.toList.drop p)).1 ∧ max k 1 = (decodeL (s.data.toList.drop p)).2 ∧ (k = 0 ↔ badRune (decodeL (s.data.toList.drop p)) = true) ∧ w = w' :=
  (rune1_any s p hp w hs).mono fun e w' hh => ⟨_, _, hh.1, (rune1L_spec _).1, (rune1L_spec _).2.1, (rune1L_spec _).2.2, hh.2⟩

end Go.Proofs.Ytihkjpfibogpdab
