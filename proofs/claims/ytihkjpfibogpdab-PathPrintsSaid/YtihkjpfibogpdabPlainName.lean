/- Plain facts on texts rune by rune: no program in sight. -/
import Derived.Lib.DecodeN
set_option linter.unusedVariables false
namespace Go.Proofs.Ytihkjpfibogpdab
open Go.Lib (decodeN decode_at)

/-- The rune at a text's head and how many bytes it takes. -/
def decodeL (l : List UInt8) : Nat × Nat := decodeN l.length (l.getD 0 0).toNat (l.getD 1 0).toNat (l.getD 2 0).toNat (l.getD 3 0).toNat
theorem get_list (s : ByteArray) (i : Nat) : s.get! i = s.data.toList.getD i 0 := by
  show s.data[i]! = _
  rw [List.getD_eq_getElem?_getD, Array.getElem?_toList]
  rcases Nat.lt_or_ge i s.data.size with h | h
  · rw [getElem!_pos s.data i h, Array.getElem?_eq_getElem h]; rfl
  · rw [getElem!_neg s.data i (by omega), Array.getElem?_eq_none h]; rfl
theorem decode_list (s : ByteArray) (i : Nat) : Utf8.decode s i = decodeL (s.data.toList.drop i) := by
  rw [decode_at]
  unfold decodeL
  simp only [get_list, List.length_drop, List.getD_eq_getElem?_getD, List.getElem?_drop, Array.length_toList, Nat.add_zero]
  rfl
/-- A rune that is none: 65533, one byte. -/
def badRune (p : Nat × Nat) : Bool := p.1 == 65533 && p.2 == 1
theorem decodeN_width (n b0 b1 b2 b3 : Nat) : 1 ≤ (decodeN n b0 b1 b2 b3).2 ∧ (decodeN n b0 b1 b2 b3).2 ≤ 4 := by
  unfold decodeN
  repeat' split
  all_goals simp
theorem decodeL_width (l : List UInt8) : 1 ≤ (decodeL l).2 ∧ (decodeL l).2 ≤ 4 := decodeN_width _ _ _ _ _
theorem decodeN_fits (n b0 b1 b2 b3 : Nat) (h : 1 ≤ n) : (decodeN n b0 b1 b2 b3).2 ≤ n := by
  unfold decodeN
  repeat' split
  all_goals (simp only; omega)
theorem decodeN_le (n b0 b1 b2 b3 : Nat) : (decodeN n b0 b1 b2 b3).1 ≤ 1114111 := by
  unfold decodeN
  repeat' split
  all_goals (simp only; omega)
theorem decodeL_le (l : List UInt8) : (decodeL l).1 ≤ 1114111 := decodeN_le _ _ _ _ _
theorem decodeL_fits (l : List UInt8) (h : l ≠ []) : (decodeL l).2 ≤ l.length :=
  decodeN_fits _ _ _ _ _ (by cases l with | nil => exact absurd rfl h | cons a l => simp)
/-- The runes of a text: each with its width. -/
def runesF : Nat → List UInt8 → List (Nat × Nat)
  | 0, _ => []
  | n + 1, l => if l.isEmpty then [] else decodeL l :: runesF n (l.drop (decodeL l).2)
def runes (l : List UInt8) : List (Nat × Nat) := runesF l.length l
theorem runesF_fuel : ∀ (n m : Nat) (l : List UInt8), l.length ≤ n → l.length ≤ m → runesF n l = runesF m l
  | 0, 0, _, _, _ => rfl
  | 0, m + 1, l, h, _ => by
    have : l = [] := List.eq_nil_of_length_eq_zero (by omega)
    subst this
    simp [runesF]
  | n + 1, 0, l, _, h => by
    have : l = [] := List.eq_nil_of_length_eq_zero (by omega)
    subst this
    simp [runesF]
  | n + 1, m + 1, l, h1, h2 => by
    unfold runesF
    by_cases e : l.isEmpty
    · simp [e]
    · have hw := decodeL_width l
      have hd : (l.drop (decodeL l).2).length = l.length - (decodeL l).2 := List.length_drop
      rw [if_neg e, if_neg e, runesF_fuel n m _ (by omega) (by omega)]
theorem runes_nil : runes [] = [] := rfl
theorem runes_cons (l : List UInt8) (h : l ≠ []) : runes l = decodeL l :: runes (l.drop (decodeL l).2) := by
  have hw := decodeL_width l
  have hd : (l.drop (decodeL l).2).length = l.length - (decodeL l).2 := List.length_drop
  obtain ⟨n, hn⟩ : ∃ n, l.length = n + 1 := by
    cases l with
    | nil => exact absurd rfl h
    | cons a l => exact ⟨l.length, rfl⟩
  have e : ¬ l.isEmpty = true := by simpa using h
  show runesF l.length l = _
  rw [hn]
  show (if l.isEmpty then [] else decodeL l :: runesF n (l.drop (decodeL l).2)) = _
  rw [if_neg e, runesF_fuel n (l.drop (decodeL l).2).length _ (by omega) (Nat.le_refl _)]
  rfl
/-- The hash, rune by rune. -/
def hashStep (h : Nat) (p : Nat × Nat) : Nat := (31 * h + p.1) % 4294967296
def hashFrom (l : List UInt8) (h : Nat) : Nat := (runes l).foldl hashStep h
def hashL (l : List UInt8) : Nat := hashFrom l 7
theorem hashFrom_nil (h : Nat) : hashFrom [] h = h := rfl
theorem hashFrom_cons (l : List UInt8) (h : Nat) (hl : l ≠ []) : hashFrom l h = hashFrom (l.drop (decodeL l).2) (hashStep h (decodeL l)) := by
  unfold hashFrom; rw [runes_cons l hl]; rfl
theorem hashStep_lt (h : Nat) (p : Nat × Nat) : hashStep h p < 4294967296 := Nat.mod_lt _ (by omega)
theorem foldl_hash_lt (l : List (Nat × Nat)) : ∀ h : Nat, h < 4294967296 → l.foldl hashStep h < 4294967296 := by
  induction l with
  | nil => intro h hh; exact hh
  | cons p l ih => intro h _; exact ih _ (hashStep_lt h p)
theorem hashL_lt (l : List UInt8) : hashL l < 4294967296 := foldl_hash_lt _ _ (by omega)
/-- How many runes. -/
def countL (l : List UInt8) : Nat := (runes l).length
theorem countL_nil : countL [] = 0 := rfl
theorem countL_cons (l : List UInt8) (hl : l ≠ []) : countL l = 1 + countL (l.drop (decodeL l).2) := by
  unfold countL; rw [runes_cons l hl]; simp; omega
theorem countL_le : ∀ (n : Nat) (l : List UInt8), l.length ≤ n → countL l ≤ l.length
  | 0, l, h => by
    have : l = [] := List.eq_nil_of_length_eq_zero (by omega)
    subst this
    simp [countL_nil]
  | n + 1, l, h => by
    by_cases e : l = []
    · subst e; simp [countL_nil]
    · have hw := decodeL_width l
      have hf := decodeL_fits l e
      have hd : (l.drop (decodeL l).2).length = l.length - (decodeL l).2 := List.length_drop
      have := countL_le n (l.drop (decodeL l).2) (by omega)
      rw [countL_cons l e]
      omega
/-- Is a rune one that no name may have? -/
def runeBad (p : Nat × Nat) : Bool := p.1 == 47 || decide (p.1 < 32) || p.1 == 127 || badRune p
def anyBad (l : List UInt8) : Bool := (runes l).any runeBad
theorem anyBad_nil : anyBad [] = false := rfl
theorem anyBad_cons (l : List UInt8) (hl : l ≠ []) : anyBad l = (runeBad (decodeL l) || anyBad (l.drop (decodeL l).2)) := by
  unfold anyBad; rw [runes_cons l hl]; rfl
/-- What is wrong with a name: 0, 800, 801. -/
def checkL (l : List UInt8) : Nat := if 12 < l.length then 801 else if l = [] ∨ l = [46] ∨ l = [46, 46] then 800 else if anyBad l then 800 else 0
/-- A byte of UTF-8 that goes on, as the reference tells it; -1: it is none. -/
def nextL (l : List UInt8) (k : Nat) : Int := if k < l.length ∧ 128 ≤ (l.getD k 0).toNat ∧ (l.getD k 0).toNat ≤ 191 then ((l.getD k 0).toNat : Int) - 128 else -1
theorem nextL_range (l : List UInt8) (k : Nat) : -1 ≤ nextL l k ∧ nextL l k ≤ 63 := by unfold nextL; split <;> omega
theorem nextL_drop (l : List UInt8) (p k : Nat) : nextL (l.drop p) k = nextL l (p + k) := by
  unfold nextL
  have e : (l.drop p).getD k 0 = l.getD (p + k) 0 := by simp [List.getD_eq_getElem?_getD, List.getElem?_drop]
  have e2 : (k < (l.drop p).length) = (p + k < l.length) := by rw [List.length_drop]; exact propext ⟨fun h => by omega, fun h => by omega⟩
  simp only [e, e2]
/-- The reference's rune at a place. -/
def rune1I (c a b d : Int) : Int × Int :=
  if c < 128 then (c, 1)
  else if 194 ≤ c ∧ c ≤ 223 ∧ 0 ≤ a then ((c - 192) * 64 + a, 2)
  else if 224 ≤ c ∧ c ≤ 239 ∧ 0 ≤ a ∧ 0 ≤ b then
    (if 2048 ≤ (c - 224) * 4096 + a * 64 + b ∧ ((c - 224) * 4096 + a * 64 + b < 55296 ∨ 57343 < (c - 224) * 4096 + a * 64 + b) then ((c - 224) * 4096 + a * 64 + b, 3) else (65533, 0))
  else if 240 ≤ c ∧ c ≤ 244 ∧ 0 ≤ a ∧ 0 ≤ b ∧ 0 ≤ d then
    (if 65536 ≤ (c - 240) * 262144 + a * 4096 + b * 64 + d ∧ (c - 240) * 262144 + a * 4096 + b * 64 + d ≤ 1114111 then ((c - 240) * 262144 + a * 4096 + b * 64 + d, 4) else (65533, 0))
  else (65533, 0)
/-- The rune at a text's head, its width, or 65533 and 0. -/
def rune1L (l : List UInt8) : Nat × Nat := if badRune (decodeL l) then (65533, 0) else decodeL l
def nextN (n k b : Nat) : Int := if k < n ∧ 128 ≤ b ∧ b ≤ 191 then (b : Int) - 128 else -1
theorem nextN_cases (n k b : Nat) (hb : b < 256) : ((k < n ∧ b / 64 = 2) ∧ nextN n k b = (b : Int) - 128) ∨ (¬ (k < n ∧ b / 64 = 2) ∧ nextN n k b = -1) := by
  unfold nextN
  by_cases h : k < n ∧ 128 ≤ b ∧ b ≤ 191
  · rw [if_pos h]; exact .inl ⟨⟨h.1, by omega⟩, rfl⟩
  · rw [if_neg h]; exact .inr ⟨by omega, rfl⟩
def shown (p : Nat × Nat) : Int × Int := if badRune p then (65533, 0) else ((p.1 : Int), (p.2 : Int))
theorem shown_bad : shown (65533, 1) = (65533, 0) := rfl
theorem shown_ok (x w : Nat) (h : x ≠ 65533 ∨ w ≠ 1) : shown (x, w) = ((x : Int), (w : Int)) := by
  unfold shown badRune
  rw [if_neg (by simp; omega)]
theorem pair_eq {a b c d : Int} (h : a = c) (k : b = d) : (a, b) = (c, d) := by rw [h, k]
set_option maxRecDepth 10000 in
set_option maxHeartbeats 4000000 in
theorem rune1_core (n b0 b1 b2 b3 : Nat) (hn : 1 ≤ n) (h0 : b0 < 256) (h1 : b1 < 256) (h2 : b2 < 256) (h3 : b3 < 256) :
    rune1I (b0 : Int) (nextN n 1 b1) (nextN n 2 b2) (nextN n 3 b3) = shown (decodeN n b0 b1 b2 b3) := by
  generalize ha : nextN n 1 b1 = a
  generalize hb : nextN n 2 b2 = b
  generalize hd : nextN n 3 b3 = d
  have ca := nextN_cases n 1 b1 h1
  have cb := nextN_cases n 2 b2 h2
  have cd := nextN_cases n 3 b3 h3
  rw [ha] at ca
  rw [hb] at cb
  rw [hd] at cd
  clear ha hb hd
  unfold decodeN
  by_cases k1 : b0 < 128
  · rw [if_pos k1, shown_ok _ _ (by omega)]
    unfold rune1I
    rw [if_pos (by omega)]
    rfl
  rw [if_neg k1]
  by_cases k2 : b0 / 32 = 6 ∧ (1 < n ∧ b1 / 64 = 2)
  · rw [if_pos k2]
    unfold rune1I
    rw [if_neg (by omega)]
    by_cases k : b0 % 32 * 64 + b1 % 64 ≥ 128
    · rw [if_pos k, shown_ok _ _ (by omega), if_pos (by omega)]
      exact pair_eq (by omega) rfl
    · rw [if_neg k, shown_bad, if_neg (by omega), if_neg (by omega), if_neg (by omega)]
  rw [if_neg k2]
  by_cases k3 : b0 / 16 = 14 ∧ (1 < n ∧ b1 / 64 = 2) ∧ (2 < n ∧ b2 / 64 = 2)
  · rw [if_pos k3]
    unfold rune1I
    rw [if_neg (by omega), if_neg (by omega), if_pos (by omega)]
    have e : ((b0 : Int) - 224) * 4096 + a * 64 + b = ((b0 % 16 * 4096 + b1 % 64 * 64 + b2 % 64 : Nat) : Int) := by omega
    rw [e]
    generalize b0 % 16 * 4096 + b1 % 64 * 64 + b2 % 64 = x at *
    by_cases k : x ≥ 2048 ∧ (x < 55296 ∨ (57344 ≤ x ∧ x ≤ 1114111))
    · rw [if_pos k, shown_ok _ _ (by omega), if_pos (by omega)]
      rfl
    · rw [if_neg k, shown_bad, if_neg (by omega)]
  rw [if_neg k3]
  by_cases k4 : b0 / 8 = 30 ∧ (1 < n ∧ b1 / 64 = 2) ∧ (2 < n ∧ b2 / 64 = 2) ∧ (3 < n ∧ b3 / 64 = 2)
  · rw [if_pos k4]
    unfold rune1I
    rw [if_neg (by omega), if_neg (by omega), if_neg (by omega)]
    by_cases k5 : b0 ≤ 244
    · rw [if_pos (by omega)]
      have e : ((b0 : Int) - 240) * 262144 + a * 4096 + b * 64 + d = ((b0 % 8 * 262144 + b1 % 64 * 4096 + b2 % 64 * 64 + b3 % 64 : Nat) : Int) := by omega
      rw [e]
      generalize b0 % 8 * 262144 + b1 % 64 * 4096 + b2 % 64 * 64 + b3 % 64 = x at *
      by_cases k : x ≥ 65536 ∧ (x < 55296 ∨ (57344 ≤ x ∧ x ≤ 1114111))
      · rw [if_pos k, shown_ok _ _ (by omega), if_pos (by omega)]
        rfl
      · rw [if_neg k, shown_bad, if_neg (by omega)]
    · rw [if_neg (by omega), if_neg (by omega), shown_bad]
  rw [if_neg k4, shown_bad]
  unfold rune1I
  rw [if_neg (by omega), if_neg (by omega), if_neg (by omega), if_neg (by omega)]
theorem rune1_list (l : List UInt8) (h : l ≠ []) : rune1I ((l.getD 0 0).toNat : Int) (nextL l 1) (nextL l 2) (nextL l 3) = (((rune1L l).1 : Int), ((rune1L l).2 : Int)) := by
  have := rune1_core l.length (l.getD 0 0).toNat (l.getD 1 0).toNat (l.getD 2 0).toNat (l.getD 3 0).toNat
    (by cases l with | nil => exact absurd rfl h | cons a l => simp) (l.getD 0 0).toNat_lt (l.getD 1 0).toNat_lt (l.getD 2 0).toNat_lt (l.getD 3 0).toNat_lt
  have e : shown (decodeL l) = (((rune1L l).1 : Int), ((rune1L l).2 : Int)) := by
    unfold shown rune1L
    split <;> rfl
  rw [← e]
  exact this
end Go.Proofs.Ytihkjpfibogpdab
