/- Plain facts: names that are printed are parsed back, and the other way round. No program in sight but for the words of Print. -/
import Derived.Test.YtihkjpfibogpdabPrint
import Derived.Test.YtihkjpfibogpdabPlainPath2
set_option linter.unusedVariables false
namespace Go.Proofs.Ytihkjpfibogpdab
theorem mayL_check {t : List UInt8} (h : mayL t = true) : checkL t = 0 := by unfold mayL at h; simpa using h
theorem anyBad_no47 : ∀ (n : Nat) (l : List UInt8), l.length ≤ n → anyBad l = false → ∀ b ∈ l, ¬ b = 47
  | 0, l, hl, _, b, hb => by
    have : l = [] := List.eq_nil_of_length_eq_zero (by omega)
    subst this
    cases hb
  | n + 1, l, hl, h, b, hb => by
    by_cases e : l = []
    · subst e; cases hb
    · have hw := decodeL_width l
      have hd : (l.drop (decodeL l).2).length = l.length - (decodeL l).2 := List.length_drop
      rw [anyBad_cons l e, Bool.or_eq_false_iff] at h
      have h0 : ¬ l.getD 0 0 = 47 := by
        intro c
        have := decodeL_slash l c
        rw [this] at h
        exact absurd h.1 (by decide)
      have hs := (decodeL_noslash l h0).2
      have hm : b ∈ l.take (decodeL l).2 ++ l.drop (decodeL l).2 := by rw [List.take_append_drop]; exact hb
      rcases List.mem_append.1 hm with hm | hm
      · exact hs b hm
      · exact anyBad_no47 n _ (by omega) h.2 b hm
theorem mayL_no47 {t : List UInt8} (h : mayL t = true) : ∀ b ∈ t, ¬ b = 47 := by
  have hc := mayL_check h
  unfold checkL at hc
  split at hc
  · omega
  · split at hc
    · omega
    · split at hc
      · omega
      · rename_i hb
        exact anyBad_no47 t.length t (Nat.le_refl _) (by simpa using hb)
theorem joinL_nil : joinL [] = [] := rfl
theorem joinL_cons (t : List UInt8) (ts : List (List UInt8)) : joinL (t :: ts) = 47 :: (t ++ joinL ts) := by simp [joinL]
theorem scan_join : ∀ (ts : List (List UInt8)) (out : List (List UInt8)), ts.all mayL = true → scanP ((joinL ts ++ [47]).drop 1) [] out = if 4 < (out ++ ts).length then ([], 1102) else (out ++ ts, 0)
  | [], out, _ => by simp [joinL_nil, scanP_nil]
  | t :: ts, out, h => by
    have h' : mayL t = true ∧ ts.all mayL = true := by simpa using h
    have e : (joinL (t :: ts) ++ [47]).drop 1 = t ++ 47 :: ((joinL ts ++ [47]).drop 1) := by
      rw [joinL_cons]
      cases ts with
      | nil => simp [joinL_nil]
      | cons u us => rw [joinL_cons]; simp
    rw [e, scanP_skip t _ _ _ (mayL_no47 h'.1), List.nil_append, scanP_ok _ _ _ (mayL_check h'.1), scan_join ts _ h'.2]
    simp [Nat.add_assoc, Nat.add_comm]
/-- A path that is made of names is parsed so. -/
theorem parse_join (ts : List (List UInt8)) (hn : ts ≠ []) (h : ts.all mayL = true) (hl : (joinL ts).length ≤ 64) : parseL (joinL ts) = if 4 < ts.length then ([], 1102) else (ts, 0) := by
  obtain ⟨t, us, rfl⟩ : ∃ t us, ts = t :: us := by
    cases ts with
    | nil => exact absurd rfl hn
    | cons t us => exact ⟨t, us, rfl⟩
  have hs := scan_join (t :: us) [] h
  have h' : mayL t = true ∧ us.all mayL = true := by simpa using h
  have hne : t ≠ [] := by
    rintro rfl
    exact absurd h'.1 (by decide)
  unfold parseL
  rw [if_neg (by omega), if_neg (by rw [joinL_cons]; simp), if_neg (by rw [joinL_cons]; cases t with | nil => exact absurd rfl hne | cons a l => simp)]
  have e : (joinL (t :: us)).drop 1 ++ [47] = (joinL (t :: us) ++ [47]).drop 1 := by rw [joinL_cons]; simp
  rw [e, hs]
  simp
/-- What is printed is parsed back. -/
theorem print_parse (ts : List (List UInt8)) (s : List UInt8) (h : printL ts = (s, 0)) : parseL s = (ts, 0) ∧ s.length ≤ 64 ∧ ts.length ≤ 4 := by
  unfold printL at h
  split at h
  · cases h
  · rename_i ha
    have ha' : ts.all mayL = true := by simpa using ha
    split at h
    · cases h
    · rename_i h4
      split at h
      · cases h
      · rename_i h64
        split at h
        · rename_i hj
          injection h with h1 h2
          subst h1
          have hts : ts = [] := by
            cases ts with
            | nil => rfl
            | cons t us => rw [joinL_cons] at hj; cases hj
          subst hts
          exact ⟨by decide +kernel, by decide, by decide⟩
        · rename_i hj
          injection h with h1 h2
          subst h1
          have hts : ts ≠ [] := by rintro rfl; exact hj rfl
          refine ⟨?_, by omega, by omega⟩
          rw [parse_join ts hts ha' (by omega), if_neg h4]
theorem scanP_back : ∀ (r cur : List UInt8) (out ts : List (List UInt8)), ((r = [] ∧ cur = []) ∨ ∃ r0, r = r0 ++ [47]) → scanP r cur out = (ts, 0) →
    ∃ new, ts = out ++ new ∧ new.all mayL = true ∧ ts.length ≤ 4 ∧ 47 :: (cur ++ r) = joinL new ++ [47]
  | [], cur, out, ts, hr, h => by
    rw [scanP_nil] at h
    have hc : cur = [] := by
      rcases hr with h | ⟨r0, h⟩
      · exact h.2
      · cases r0 <;> cases h
    split at h
    · cases h
    · injection h with h1 h2
      subst h1 hc
      exact ⟨[], by simp, rfl, by omega, rfl⟩
  | b :: r, cur, out, ts, hr, h => by
    have hr' : (r = []) ∨ ∃ r0, r = r0 ++ [47] := by
      rcases hr with h | ⟨r0, h⟩
      · cases h.1
      · cases r0 with
        | nil => injection h with h1 h2; exact Or.inl h2
        | cons a r1 => injection h with h1 h2; exact Or.inr ⟨r1, h2⟩
    by_cases e : b = 47
    · subst e
      rcases checkL_cases cur with hk | hk | hk
      · rw [scanP_ok _ _ _ hk] at h
        obtain ⟨new, h1, h2, h3, h4⟩ := scanP_back r [] (out ++ [cur]) ts (by rcases hr' with h | h; exact Or.inl ⟨h, rfl⟩; exact Or.inr h) h
        refine ⟨cur :: new, by rw [h1]; simp, by simp [h2, mayL, hk], h3, ?_⟩
        · rw [joinL_cons]
          simp only [List.nil_append] at h4
          simp [h4]
      · rw [scanP_form _ _ _ hk] at h; cases h
      · rw [scanP_long _ _ _ hk] at h; cases h
    · rw [scanP_other _ _ _ _ e] at h
      have hr2 : ∃ r0, r = r0 ++ [47] := by
        rcases hr' with h0 | h0
        · exfalso
          subst h0
          rcases hr with h1 | ⟨r0, h1⟩
          · cases h1.1
          · cases r0 with
            | nil => injection h1 with h2 _; exact e h2
            | cons a r1 => injection h1 with h2 h3; cases r1 <;> cases h3
        · exact h0
      obtain ⟨new, h1, h2, h3, h4⟩ := scanP_back r (cur ++ [b]) out ts (Or.inr hr2) h
      exact ⟨new, h1, h2, h3, by simpa using h4⟩
/-- What is parsed is printed as it stood. -/
theorem parse_print (s : List UInt8) (ts : List (List UInt8)) (h : parseL s = (ts, 0)) : printL ts = (s, 0) := by
  unfold parseL at h
  split at h
  · cases h
  · rename_i h64
    split at h
    · cases h
    · rename_i hh
      have hh' : s.head? = some 47 := by
        rcases Classical.em (s.head? = some 47) with c | c
        · exact c
        · exact absurd c hh
      obtain ⟨r, rfl⟩ : ∃ r, s = 47 :: r := by
        cases s with
        | nil => cases hh'
        | cons a r => simp at hh'; exact ⟨r, by rw [hh']⟩
      split at h
      · rename_i h1
        injection h with h2 _
        subst h2
        have : r = [] := List.eq_nil_of_length_eq_zero (by simpa using h1)
        subst this
        decide +kernel
      · rename_i h1
        obtain ⟨new, e1, e2, e3, e4⟩ := scanP_back _ [] [] ts (Or.inr ⟨r, by simp⟩) h
        simp at e1
        subst e1
        have ej : joinL ts = 47 :: r := by
          have : (47 :: r) ++ [47] = joinL ts ++ [47] := by simpa using e4
          exact (List.append_cancel_right this).symm
        unfold printL
        rw [if_neg (by rw [e2]; simp), if_neg (by omega), ej, if_neg h64, if_neg (by simp)]
theorem parse_names {s : List UInt8} {ts : List (List UInt8)} {n : Nat} (h : parseL s = (ts, n)) (hn : n ≠ 0) : ts = [] := by
  unfold parseL at h
  split at h
  · injection h with h1 _; exact h1.symm
  · split at h
    · injection h with h1 _; exact h1.symm
    · split at h
      · injection h with h1 _; exact h1.symm
      · have key : ∀ (r cur : List UInt8) (out : List (List UInt8)), (scanP r cur out).2 ≠ 0 → (scanP r cur out).1 = [] := by
          intro r
          induction r with
          | nil => intro cur out; unfold scanP; split <;> simp
          | cons b r ih =>
            intro cur out
            unfold scanP
            split
            · split
              · exact ih _ _
              · split <;> simp
            · exact ih _ _
        have := key (s.drop 1 ++ [47]) [] []
        rw [h] at this
        exact this hn
end Go.Proofs.Ytihkjpfibogpdab
