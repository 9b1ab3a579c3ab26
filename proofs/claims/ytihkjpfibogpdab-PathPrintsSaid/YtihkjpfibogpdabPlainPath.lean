/- Plain facts on paths: no program in sight. A path is cut at each byte 47; each piece must be a name. -/
import Derived.Test.YtihkjpfibogpdabPlainName
set_option linter.unusedVariables false
namespace Go.Proofs.Ytihkjpfibogpdab

/-- What checkL answers. -/
theorem checkL_three (l : List UInt8) (h : ∀ n, n = checkL l → n = 0 ∨ n = 800 ∨ n = 801) : True := trivial
theorem checkL_cases (l : List UInt8) : checkL l = 0 ∨ checkL l = 800 ∨ checkL l = 801 := by
  unfold checkL
  split
  · exact Or.inr (Or.inr rfl)
  · split
    · exact Or.inr (Or.inl rfl)
    · split
      · exact Or.inr (Or.inl rfl)
      · exact Or.inl rfl
/-- The rest of a path: bytes still to come, the piece under way, the names so far; the names and the error. -/
def scanP : List UInt8 → List UInt8 → List (List UInt8) → List (List UInt8) × Nat
  | [], _, out => if 4 < out.length then ([], 1102) else (out, 0)
  | b :: r, cur, out => if b = 47 then (if checkL cur = 0 then scanP r [] (out ++ [cur]) else if checkL cur = 801 then ([], 1101) else ([], 1100)) else scanP r (cur ++ [b]) out
def parseL (l : List UInt8) : List (List UInt8) × Nat :=
  if 64 < l.length then ([], 1101) else if ¬ l.head? = some 47 then ([], 1100) else if l.length = 1 then ([], 0) else scanP (l.drop 1 ++ [47]) [] []
theorem scanP_nil (cur : List UInt8) (out : List (List UInt8)) : scanP [] cur out = if 4 < out.length then ([], 1102) else (out, 0) := rfl
theorem scanP_other (b : UInt8) (r cur : List UInt8) (out : List (List UInt8)) (h : ¬ b = 47) : scanP (b :: r) cur out = scanP r (cur ++ [b]) out := by
  show (if b = 47 then _ else _) = _
  rw [if_neg h]
theorem scanP_ok (r cur : List UInt8) (out : List (List UInt8)) (h : checkL cur = 0) : scanP (47 :: r) cur out = scanP r [] (out ++ [cur]) := by
  show (if (47 : UInt8) = 47 then _ else _) = _
  rw [if_pos rfl, if_pos h]
theorem scanP_long (r cur : List UInt8) (out : List (List UInt8)) (h : checkL cur = 801) : scanP (47 :: r) cur out = ([], 1101) := by
  show (if (47 : UInt8) = 47 then _ else _) = _
  rw [if_pos rfl, if_neg (by omega), if_pos h]
theorem scanP_form (r cur : List UInt8) (out : List (List UInt8)) (h : checkL cur = 800) : scanP (47 :: r) cur out = ([], 1100) := by
  show (if (47 : UInt8) = 47 then _ else _) = _
  rw [if_pos rfl, if_neg (by omega), if_neg (by omega)]
/-- The piece of a text from a place up to another. -/
def piece (l : List UInt8) (i j : Nat) : List UInt8 := (l.take j).drop i
theorem piece_self (l : List UInt8) (i : Nat) : piece l i i = [] := by
  unfold piece
  exact List.drop_eq_nil_of_le (by rw [List.length_take]; omega)
theorem piece_succ (l : List UInt8) (i j : Nat) (hij : i ≤ j) (hj : j < l.length) : piece l i (j + 1) = piece l i j ++ [l[j]] := by
  unfold piece
  rw [List.take_succ_eq_append_getElem hj, List.drop_append_of_le_length (by rw [List.length_take]; omega)]
theorem extract_piece (s : ByteArray) (i j : Nat) : s.extract i j = ⟨(piece s.data.toList i j).toArray⟩ := by
  apply ByteArray.ext
  apply Array.ext'
  simp [piece, List.extract_eq_take_drop, List.drop_take]
theorem drop_in (l : List UInt8) (j : Nat) (h : j < l.length) : (l ++ [47]).drop j = l[j] :: (l ++ [47]).drop (j + 1) := by
  rw [List.drop_eq_getElem_cons (by simp; omega)]
  rw [List.getElem_append_left h]
theorem drop_at (l : List UInt8) (j : Nat) (h : j = l.length) : (l ++ [47]).drop j = 47 :: (l ++ [47]).drop (j + 1) := by
  subst h
  simp
theorem drop_out (l : List UInt8) (j : Nat) (h : j = l.length + 1) : (l ++ [47]).drop j = [] := by
  subst h
  simp
theorem path_head (s : ByteArray) : s.data.toList.head? = some 47 ↔ ∃ h : 0 < s.size, s[0] = 47 := by
  constructor
  · intro h
    have hl : 0 < s.data.toList.length := by
      cases e : s.data.toList with
      | nil => rw [e] at h; simp at h
      | cons a l => simp
    have hs : 0 < s.size := hl
    refine ⟨hs, ?_⟩
    rw [List.head?_eq_getElem?, List.getElem?_eq_getElem hl] at h
    exact Option.some.inj h
  · rintro ⟨h, e⟩
    have hl : 0 < s.data.toList.length := h
    rw [List.head?_eq_getElem?, List.getElem?_eq_getElem hl]
    exact congrArg some e
end Go.Proofs.Ytihkjpfibogpdab
