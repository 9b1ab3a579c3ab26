/- Plain facts on texts that are put one behind the other, rune by rune: no program in sight. -/
import Derived.Test.YtihkjpfibogpdaaPlainName
set_option linter.unusedVariables false
namespace Go.Proofs.Ytihkjpfibogpdaa
open Go.Lib (decodeN)

/-- A text whose last byte is below 128, or none. -/
def Shut (l : List UInt8) : Prop := ∀ h : l ≠ [], (l.getLast h).toNat < 128
theorem shut_nil : Shut [] := fun h => absurd rfl h
theorem shut_snoc (l : List UInt8) (b : UInt8) (h : b.toNat < 128) : Shut (l ++ [b]) := fun _ => by simpa using h
theorem shut_drop (l : List UInt8) (k : Nat) (h : Shut l) : Shut (l.drop k) := fun hd => by
  rw [List.getLast_drop]
  exact h _
theorem decodeN_one (n b0 b1 b2 b3 : Nat) (h : b0 < 128) : decodeN n b0 b1 b2 b3 = (b0, 1) := by unfold decodeN; rw [if_pos h]
theorem decodeN_c1 (n b0 b1 b2 b3 m c2 c3 : Nat) (h : ¬ b1 / 64 = 2) : decodeN n b0 b1 b2 b3 = decodeN m b0 b1 c2 c3 := by
  unfold decodeN
  by_cases h0 : b0 < 128
  · rw [if_pos h0, if_pos h0]
  · rw [if_neg h0, if_neg h0, if_neg (by omega), if_neg (by omega), if_neg (by omega), if_neg (by omega), if_neg (by omega), if_neg (by omega)]
theorem decodeN_c2 (n b0 b1 b2 b3 m c3 : Nat) (hn : 3 ≤ n) (hm : 3 ≤ m) (h : ¬ b2 / 64 = 2) : decodeN n b0 b1 b2 b3 = decodeN m b0 b1 b2 c3 := by
  unfold decodeN
  by_cases h0 : b0 < 128
  · rw [if_pos h0, if_pos h0]
  rw [if_neg h0, if_neg h0]
  by_cases h1 : b0 / 32 = 6 ∧ b1 / 64 = 2
  · rw [if_pos (⟨h1.1, by omega, h1.2⟩ : b0 / 32 = 6 ∧ (1 < n ∧ b1 / 64 = 2)), if_pos (⟨h1.1, by omega, h1.2⟩ : b0 / 32 = 6 ∧ (1 < m ∧ b1 / 64 = 2))]
  · rw [if_neg (by omega), if_neg (by omega), if_neg (by omega), if_neg (by omega), if_neg (by omega), if_neg (by omega)]
theorem decodeN_big (n b0 b1 b2 b3 m : Nat) (hn : 4 ≤ n) (hm : 4 ≤ m) : decodeN n b0 b1 b2 b3 = decodeN m b0 b1 b2 b3 := by
  unfold decodeN
  simp only [show (1 < n) = (1 < m) from propext ⟨fun _ => by omega, fun _ => by omega⟩, show (2 < n) = (2 < m) from propext ⟨fun _ => by omega, fun _ => by omega⟩, show (3 < n) = (3 < m) from propext ⟨fun _ => by omega, fun _ => by omega⟩]
theorem decodeL_append (l t : List UInt8) (hl : l ≠ []) (h : Shut l) : decodeL (l ++ t) = decodeL l := by
  have hb := h hl
  unfold decodeL
  match l, hl, hb with
  | [a], _, hb =>
    simp at hb
    simp only [List.cons_append, List.getD_cons_zero]
    rw [decodeN_one _ _ _ _ _ hb, decodeN_one _ _ _ _ _ hb]
  | [a, b], _, hb =>
    simp at hb
    simp only [List.cons_append, List.getD_cons_zero, List.getD_cons_succ]
    exact decodeN_c1 _ _ _ _ _ _ _ _ (by omega)
  | [a, b, c], _, hb =>
    simp at hb
    simp only [List.cons_append, List.getD_cons_zero, List.getD_cons_succ]
    exact decodeN_c2 _ _ _ _ _ _ _ (by simp <;> omega) (by simp) (by omega)
  | a :: b :: c :: d :: r, _, _ =>
    simp only [List.cons_append, List.getD_cons_zero, List.getD_cons_succ]
    exact decodeN_big _ _ _ _ _ _ (by simp <;> omega) (by simp)
theorem runes_append : ∀ (n : Nat) (l t : List UInt8), l.length ≤ n → Shut l → runes (l ++ t) = runes l ++ runes t
  | 0, l, t, hn, _ => by
    have : l = [] := List.eq_nil_of_length_eq_zero (by omega)
    subst this
    simp [runes_nil]
  | n + 1, l, t, hn, h => by
    by_cases e : l = []
    · subst e; simp [runes_nil]
    · have hw := decodeL_width l
      have hf := decodeL_fits l e
      have hd : (l.drop (decodeL l).2).length = l.length - (decodeL l).2 := List.length_drop
      rw [runes_cons (l ++ t) (by simp [e]), runes_cons l e, decodeL_append l t e h, List.drop_append_of_le_length hf,
        runes_append n (l.drop (decodeL l).2) t (by omega) (shut_drop l _ h)]
      rfl
theorem countL_append (l t : List UInt8) (h : Shut l) : countL (l ++ t) = countL l + countL t := by
  unfold countL; rw [runes_append l.length l t (Nat.le_refl _) h]; simp
theorem hashL_append (l t : List UInt8) (h : Shut l) : hashL (l ++ t) = hashFrom t (hashL l) := by
  unfold hashL hashFrom; rw [runes_append l.length l t (Nat.le_refl _) h, List.foldl_append]
theorem anyBad_append (l t : List UInt8) (h : Shut l) : anyBad (l ++ t) = (anyBad l || anyBad t) := by
  unfold anyBad; rw [runes_append l.length l t (Nat.le_refl _) h]; simp
theorem runes_ascii1 (b : UInt8) (h : b.toNat < 128) : runes [b] = [(b.toNat, 1)] := by
  have e : decodeL [b] = (b.toNat, 1) := decodeN_one _ _ _ _ _ h
  rw [runes_cons [b] (by simp), e]
  rfl
theorem runes_ascii : ∀ l : List UInt8, (∀ b ∈ l, b.toNat < 128) → runes l = l.map fun b => (b.toNat, 1)
  | [], _ => rfl
  | b :: l, h => by
    have hb : b.toNat < 128 := h b (by simp)
    have e : decodeL (b :: l) = (b.toNat, 1) := decodeN_one _ _ _ _ _ hb
    rw [runes_cons (b :: l) (by simp), e]
    show (b.toNat, 1) :: runes l = _
    rw [runes_ascii l (fun c hc => h c (by simp [hc]))]
    rfl
theorem countL_four : ∀ (n : Nat) (l : List UInt8), l.length ≤ n → l.length ≤ 4 * countL l
  | 0, l, h => by omega
  | n + 1, l, h => by
    by_cases e : l = []
    · subst e; simp
    · have hw := decodeL_width l
      have hd : (l.drop (decodeL l).2).length = l.length - (decodeL l).2 := List.length_drop
      have := countL_four n (l.drop (decodeL l).2) (by omega)
      rw [countL_cons l e]
      omega
end Go.Proofs.Ytihkjpfibogpdaa
