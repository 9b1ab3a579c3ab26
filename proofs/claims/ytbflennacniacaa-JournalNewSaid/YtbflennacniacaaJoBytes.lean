/- Words and bytes: there and back. -/
import Derived.Test.YtbflennacniacaaJoPut0
namespace Go.Proofs.Ytbflennacniacaa
set_option linter.unusedVariables false
theorem wordTo_byte (l : List UInt8) (at_ n i : Nat) (hi : i < n) : wordTo l at_ n / 256 ^ i % 256 = byteAt l (at_ + i) := by
  induction n with
  | zero => omega
  | succ n ih =>
    show (wordTo l at_ n + byteAt l (at_ + n) * 256 ^ n) / 256 ^ i % 256 = _
    by_cases e : i = n
    · subst e
      rw [Nat.add_mul_div_right _ _ (Nat.pow_pos (by omega)), Nat.div_eq_of_lt (wordTo_lt l at_ i), Nat.zero_add]
      exact Nat.mod_eq_of_lt (byteAt_lt l _)
    · have hin : i < n := by omega
      obtain ⟨d, hd⟩ : ∃ d, n = i + (d + 1) := ⟨n - i - 1, by omega⟩
      have e1 : byteAt l (at_ + n) * 256 ^ n = (byteAt l (at_ + n) * 256 ^ d * 256) * 256 ^ i := by
        rw [hd, Nat.pow_add, Nat.pow_succ]
        simp only [Nat.mul_assoc, Nat.mul_comm, Nat.mul_left_comm]
      rw [e1, Nat.add_mul_div_right _ _ (Nat.pow_pos (by omega)), Nat.add_mul_mod_self_right]
      exact ih hin
theorem wordByte_word (l : List UInt8) (at_ i : Nat) (hi : i < 8) : wordByte (wordN l at_) i = l.getD (at_ + i) 0 := by
  unfold wordByte
  apply UInt8.toNat_inj.1
  rw [UInt8.toNat_ofNat']
  exact wordTo_byte l at_ 8 i hi
theorem wordN_lt (l : List UInt8) (at_ : Nat) : wordN l at_ < 18446744073709551616 := by
  have := wordTo_lt l at_ 8
  unfold wordN
  have e : (256 : Nat) ^ 8 = 18446744073709551616 := by decide
  omega
/-- The bytes of a text's words: the text, and nothing behind it. -/
theorem digits_words (l : List UInt8) (n i : Nat) (hi : i < 8 * n) : (digitsL ((List.range n).map fun k => wordN l (8 * k))).getD i 0 = l.getD i 0 := by
  induction n with
  | zero => omega
  | succ n ih =>
    rw [List.range_succ, List.map_append, digitsL_append]
    have hlen : (digitsL ((List.range n).map fun k => wordN l (8 * k))).length = 8 * n := by rw [digitsL_len]; simp
    by_cases e : i < 8 * n
    · rw [List.getD_eq_getElem?_getD, List.getElem?_append_left (by rw [hlen]; exact e), ← List.getD_eq_getElem?_getD]
      exact ih e
    · rw [List.getD_eq_getElem?_getD, List.getElem?_append_right (by rw [hlen]; omega), hlen, ← List.getD_eq_getElem?_getD]
      obtain ⟨r, hr, hi8⟩ : ∃ r, i = 8 * n + r ∧ r < 8 := ⟨i - 8 * n, by omega, by omega⟩
      rw [hr, Nat.add_sub_cancel_left]
      have hb : digitsL (List.map (fun k => wordN l (8 * k)) [n]) = bytes8 (wordN l (8 * n)) := by simp [digitsL]
      rw [hb]
      have hw := wordByte_word l (8 * n) r hi8
      have : r = 0 ∨ r = 1 ∨ r = 2 ∨ r = 3 ∨ r = 4 ∨ r = 5 ∨ r = 6 ∨ r = 7 := by omega
      rcases this with e | e | e | e | e | e | e | e <;> (subst e; exact hw)
theorem text_back (l : List UInt8) (n : Nat) (h : l.length ≤ 8 * n) : (digitsL ((List.range n).map fun k => wordN l (8 * k))).take l.length = l := by
  apply List.ext_getElem?
  intro i
  have hlen : (digitsL ((List.range n).map fun k => wordN l (8 * k))).length = 8 * n := by rw [digitsL_len]; simp
  by_cases hi : i < l.length
  · rw [List.getElem?_take, if_pos hi]
    have h1 := digits_words l n i (by omega)
    rw [List.getD_eq_getElem?_getD, List.getD_eq_getElem?_getD] at h1
    rw [List.getElem?_eq_getElem (show i < (digitsL ((List.range n).map fun k => wordN l (8 * k))).length by omega), List.getElem?_eq_getElem hi] at h1 ⊢
    simpa using h1
  · rw [List.getElem?_take, if_neg hi, List.getElem?_eq_none (by omega)]
/-- An area is looked at in its own words alone. -/
theorem lookP_congr {f g : Nat → Nat} {base half : Nat} (hh : 8 ≤ half) (h : ∀ i, i < half → f (base + i) = g (base + i)) : lookP f base half = lookP g base half := by
  have e0 : f base = g base := h 0 (by omega)
  have e1 := h 1 (by omega)
  have e2 := h 2 (by omega)
  have e3 := h 3 (by omega)
  have e4 := h 4 (by omega)
  have hk : headOk f base half = headOk g base half := by
    unfold headOk
    rw [e0, e1, e2, e3, e4]
  unfold lookP
  rw [hk, e1, e2, e3]
  cases hok : headOk g base half with
  | false => rfl
  | true =>
    have hb : g (base + 2) ≤ (half - 8) * 8 := by
      unfold headOk at hok
      simp only [Bool.and_eq_true, decide_eq_true_eq] at hok
      have := hok.2.1
      omega
    have ht : textL f base (g (base + 2)) = textL g base (g (base + 2)) := by
      unfold textL
      congr 2
      apply List.map_congr_left
      intro i hi
      have := List.mem_range.1 hi
      rw [Nat.add_assoc]
      exact h (8 + i) (by omega)
    rw [ht]
/-- What New, Write make of the words. -/
def putF (f : Nat → Nat) (q turn : Nat) (s : List UInt8) : Nat → Nat := fun j =>
  if 8 * q ≤ j ∧ j < 8 * q + 5 then (head5 turn s).getD (j - 8 * q) 0
  else if 8 * q + 8 ≤ j ∧ j < 8 * q + 8 + wordsOfText s then wordN s (8 * (j - (8 * q + 8))) else f j
theorem sumN_lt64 (l : List UInt8) : sumN l < 18446744073709551616 := by
  have := sumN_lt l
  rw [hM_lit] at this
  exact this
theorem look_of {g : Nat → Nat} {b half turn : Nat} {s : List UInt8} (h0 : g b = magicN) (h1 : g (b + 1) = turn) (h2 : g (b + 2) = s.length) (h3 : g (b + 3) = sumN s) (h4 : g (b + 4) = sumN (digitsL [g b, g (b + 1), g (b + 2), g (b + 3)]))
    (hs : s.length ≤ min ((half - 8) * 8) 65536) (ht : textL g b s.length = s) : lookP g b half = some (turn, s) := by
  have hok : headOk g b half = true := by
    unfold headOk
    rw [← h4, beq_self_eq_true, Bool.and_true, h0, beq_self_eq_true, Bool.true_and, h2]
    exact decide_eq_true hs
  unfold lookP
  rw [hok, h2, h3, h1, ht, beq_self_eq_true, Bool.true_and, if_pos rfl]
theorem getD5 {α : Type} (a b c d e z : α) : [a, b, c, d, e].getD 0 z = a ∧ [a, b, c, d, e].getD 1 z = b ∧ [a, b, c, d, e].getD 2 z = c ∧ [a, b, c, d, e].getD 3 z = d ∧ [a, b, c, d, e].getD 4 z = e := ⟨rfl, rfl, rfl, rfl, rfl⟩
theorem head5_at (turn : Nat) (s : List UInt8) : (head5 turn s).getD 0 0 = magicN ∧ (head5 turn s).getD 1 0 = turn ∧ (head5 turn s).getD 2 0 = s.length ∧ (head5 turn s).getD 3 0 = sumN s ∧ (head5 turn s).getD 4 0 = sumN (digitsL (head4 turn s)) :=
  getD5 magicN turn s.length (sumN s) (sumN (digitsL (head4 turn s))) 0
theorem look_put (f : Nat → Nat) (q half turn : Nat) (s : List UInt8) (hs : s.length ≤ min ((half - 8) * 8) 65536) : lookP (putF f q turn s) (8 * q) half = some (turn, s) := by
  obtain ⟨g0, g1, g2, g3, g4⟩ := head5_at turn s
  have hi : ∀ i, i < 5 → putF f q turn s (8 * q + i) = (head5 turn s).getD i 0 := fun i hi => by
    unfold putF
    rw [if_pos ⟨by omega, by omega⟩, Nat.add_sub_cancel_left]
  have h0 : putF f q turn s (8 * q) = magicN := (hi 0 (by omega)).trans g0
  have h1 := (hi 1 (by omega)).trans g1
  have h2 := (hi 2 (by omega)).trans g2
  have h3 := (hi 3 (by omega)).trans g3
  have h4 := (hi 4 (by omega)).trans g4
  have ht : textL (putF f q turn s) (8 * q) s.length = s := by
    unfold textL
    have e : (List.range ((s.length + 7) / 8)).map (fun i => putF f q turn s (8 * q + 8 + i)) = (List.range ((s.length + 7) / 8)).map fun k => wordN s (8 * k) := by
      apply List.map_congr_left
      intro i hi
      have := List.mem_range.1 hi
      unfold putF wordsOfText
      rw [if_neg (by omega), if_pos ⟨by omega, by omega⟩, Nat.add_sub_cancel_left]
    rw [e]
    exact text_back s _ (by omega)
  refine look_of h0 h1 h2 h3 ?_ hs ht
  rw [h4, h0, h1, h2, h3]
  unfold head4
  generalize digitsL [magicN, turn, s.length, sumN s] = l
  rfl
theorem look_zero (f : Nat → Nat) (base half : Nat) (h : f base = 0) : lookP f base half = none := by
  unfold lookP headOk
  rw [h, show ((0 : Nat) == magicN) = false from by rw [beq_eq_false_iff_ne]; unfold magicN; omega]
  simp
end Go.Proofs.Ytbflennacniacaa
