/- The plain law of PmemFenced: what was fenced is there behind any crash. -/
import Derived.Test.YtbflennacniacaaPmUnf
namespace Go.Proofs.Ytbflennacniacaa
open Go.RowKit
set_option linter.unusedVariables false
theorem store_parts {M : PM} (h : M.calm) (k : Nat) (v : Int) (hk : k < M.n * 8) : (M.store k v).seen = updI M.seen k v ∧ (M.store k v).lasts = M.lasts ∧ (M.store k v).way = M.way := by
  rw [store_calm h k v hk]
  exact ⟨rfl, rfl, rfl⟩
theorem flush_parts {M : PM} (h : M.calm) (q : Nat) (hq : q < M.n) : (M.flush q).seen = M.seen ∧ (M.flush q).lasts = M.lasts ∧ (M.flush q).way = fun i => if i = q then some (lineOf M.seen q) else M.way i := by
  rw [flush_calm h q hq]
  exact ⟨rfl, rfl, rfl⟩
theorem fence_parts {M : PM} (h : M.calm) : M.fence.seen = M.seen ∧ M.fence.lasts = lastsL M (fun _ => false) ∧ M.fence.way = fun _ => none := by
  rw [fence_calm h]
  exact ⟨rfl, rfl, rfl⟩
/-- Stores one by one. -/
def fst1 (val : Nat → Int) : Nat → PM
  | 0 => PM.fresh 8
  | i + 1 => (fst1 val i).store i (val i)
structure FenP (M : PM) (S L : Nat → Int) (W : Nat → Option (Nat → Int)) (K : Nat) : Prop where
  calm : M.calm
  n : M.n = 8
  seen : M.seen = S
  lasts : M.lasts = L
  way : M.way = W
  ok : M.ok K
theorem FenP.store {M : PM} {S L : Nat → Int} {W : Nat → Option (Nat → Int)} {K : Nat} (h : FenP M S L W K) (k : Nat) (v : Int) (hk : k < 64) : FenP (M.store k v) (updI S k v) L W (K + 1) := by
  obtain ⟨p1, p2, p3⟩ := store_parts h.calm k v (by rw [h.n]; omega)
  exact ⟨h.calm.store _ _, by rw [PM.store_n]; exact h.n, by rw [p1, h.seen], by rw [p2, h.lasts], by rw [p3, h.way], h.ok.store _ _⟩
theorem FenP.flush {M : PM} {S L : Nat → Int} {W : Nat → Option (Nat → Int)} {K : Nat} (h : FenP M S L W K) (q : Nat) (hq : q < 8) : FenP (M.flush q) S L (fun i => if i = q then some (lineOf S q) else W i) (K + 1) := by
  obtain ⟨p1, p2, p3⟩ := flush_parts h.calm q (by rw [h.n]; omega)
  exact ⟨h.calm.flush _, by rw [PM.flush_n]; exact h.n, by rw [p1, h.seen], by rw [p2, h.lasts], by rw [p3, h.way, h.seen], h.ok.flush _⟩
def cutV (val : Nat → Int) (i : Nat) : Nat → Int := fun j => if j < i then val j else 0
theorem fst1_p (val : Nat → Int) (i : Nat) (hi : i ≤ 64) : FenP (fst1 val i) (cutV val i) (fun _ => 0) (fun _ => none) i := by
  induction i with
  | zero => exact ⟨calm_fresh 8, rfl, by funext j; unfold cutV; rw [if_neg (by omega)]; rfl, rfl, rfl, PM.ok.fresh 8⟩
  | succ i ih =>
    have h := (ih (by omega)).store i (val i) (by omega)
    have e : updI (cutV val i) i (val i) = cutV val (i + 1) := by
      funext j
      unfold updI cutV
      by_cases c : j = i
      · subst c
        rw [if_pos rfl, if_pos (by omega)]
      · rw [if_neg c]
        have : (j < i ↔ j < i + 1) := by omega
        simp only [this]
    rw [e] at h
    exact h
def fst2 (M : PM) : Nat → PM
  | 0 => M
  | i + 1 => (fst2 M i).flush i
theorem fst2_p {M : PM} {S : Nat → Int} {K : Nat} (h : FenP M S (fun _ => 0) (fun _ => none) K) (i : Nat) (hi : i ≤ 8) : FenP (fst2 M i) S (fun _ => 0) (fun q => if q < i then some (lineOf S q) else none) (K + i) := by
  induction i with
  | zero =>
    have e : (fun q => if q < 0 then some (lineOf S q) else none) = fun _ => (none : Option (Nat → Int)) := by funext q; rw [if_neg (by omega)]
    rw [e]
    exact h
  | succ i ih =>
    have h2 := (ih (by omega)).flush i (by omega)
    have e : (fun j => if j = i then some (lineOf S i) else if j < i then some (lineOf S j) else none) = fun q => if q < i + 1 then some (lineOf S q) else none := by
      funext q
      by_cases c : q = i
      · subst c
        rw [if_pos rfl, if_pos (by omega)]
      · rw [if_neg c]
        have : (q < i ↔ q < i + 1) := by omega
        simp only [this]
    rw [e] at h2
    exact h2
theorem fst3_p {M : PM} {S : Nat → Int} {K : Nat} (h : FenP M S (fun _ => 0) (fun q => if q < 8 then some (lineOf S q) else none) K) :
    ∃ L, FenP M.fence S L (fun _ => none) (K + 1) ∧ ∀ j, j < 64 → L j = S j := by
  obtain ⟨p1, p2, p3⟩ := fence_parts h.calm
  refine ⟨_, ⟨h.calm.fence, by rw [PM.fence_n]; exact h.n, by rw [p1, h.seen], p2, p3, h.ok.fence⟩, fun j hj => ?_⟩
  unfold lastsL
  rw [h.way]
  simp only [if_pos (show j / 8 < 8 by omega)]
  show S (j / 8 * 8 + j % 8) = S j
  have : j / 8 * 8 + j % 8 = j := by omega
  rw [this]
def fst4 (M : PM) (k : Nat) : Nat → PM
  | 0 => M
  | i + 1 => (fst4 M k i).store (8 * (k : Int) + i) (1000 + (i : Int))
def lineS (S : Nat → Int) (k i : Nat) : Nat → Int := fun j => if j / 8 = k ∧ j % 8 < i then 1000 + ((j % 8 : Nat) : Int) else S j
theorem fst4_p {M : PM} {S L : Nat → Int} {K : Nat} (h : FenP M S L (fun _ => none) K) (k : Nat) (hk : k < 8) (i : Nat) (hi : i ≤ 8) : FenP (fst4 M k i) (lineS S k i) L (fun _ => none) (K + i) := by
  induction i with
  | zero =>
    have e : lineS S k 0 = S := by funext j; unfold lineS; rw [if_neg (by omega)]
    rw [e]
    exact h
  | succ i ih =>
    have h2 := (ih (by omega)).store (8 * k + i) (1000 + (i : Int)) (by omega)
    have e : updI (lineS S k i) (8 * k + i) (1000 + (i : Int)) = lineS S k (i + 1) := by
      funext j
      unfold updI lineS
      by_cases c : j = 8 * k + i
      · subst c
        have e1 : (8 * k + i) % 8 = i := by omega
        rw [if_pos rfl, e1, if_pos ⟨by omega, by omega⟩]
      · rw [if_neg c]
        by_cases d : j / 8 = k
        · have : (j % 8 < i ↔ j % 8 < i + 1) := by omega
          simp only [this]
        · rw [if_neg (fun h => d h.1), if_neg (fun h => d h.1)]
    rw [e] at h2
    show FenP ((fst4 M k i).store (8 * (k : Int) + i) _) _ _ _ _
    have e2 : 8 * (k : Int) + i = ((8 * k + i : Nat) : Int) := by omega
    rw [e2]
    exact h2
/-- A crash over lines of which one alone may differ. -/
theorem crash_one {S L : Nat → Int} {k : Nat} (h : ∀ j, j < 64 → j / 8 ≠ k → S j = L j) (keep : Int) (a : Nat) (ha : a ≤ 8) :
    ((crashI S keep L a).1 = 0 ∨ k < a) ∧ ∀ j, j < 64 → (crashI S keep L a).2 j = if j / 8 = k ∧ k < a ∧ keptB keep 0 = true then S j else L j := by
  induction a with
  | zero => exact ⟨.inl rfl, fun j hj => by rw [if_neg (by omega)]; rfl⟩
  | succ a ih =>
    obtain ⟨i1, i2⟩ := ih (by omega)
    obtain ⟨X, hX⟩ : ∃ X, (crashI S keep L a).2 = X := ⟨_, rfl⟩
    obtain ⟨c, hc⟩ : ∃ c, (crashI S keep L a).1 = c := ⟨_, rfl⟩
    rw [hX] at i2
    rw [hc] at i1
    by_cases e : a = k
    · subst e
      have hc0 : c = 0 := by omega
      subst hc0
      have line : ∀ r, r < 8 → X (a * 8 + r) = L (a * 8 + r) := fun r hr => by rw [i2 _ (by omega), if_neg (by omega)]
      cases hs : sameW (lineOf S a) (lineOf X a) with
      | true =>
        rw [crashI_same hX hc hs]
        refine ⟨.inl rfl, fun j hj => ?_⟩
        show X j = _
        rw [i2 j hj, if_neg (by omega)]
        by_cases d : j / 8 = a ∧ a < a + 1 ∧ keptB keep 0 = true
        · rw [if_pos d]
          have := (sameW_iff _ _).1 hs (j % 8) (by omega)
          have e1 : a * 8 + j % 8 = j := by omega
          have h2 : S (a * 8 + j % 8) = X (a * 8 + j % 8) := this
          rw [line _ (by omega), e1] at h2
          exact h2.symm
        · rw [if_neg d]
      | false =>
        rw [crashI_other hX hc hs]
        refine ⟨.inr (Nat.lt_succ_self _), fun j hj => ?_⟩
        show (if keptB keep 0 then putLine X a (lineOf S a) else X) j = _
        cases hk : keptB keep 0 with
        | false => rw [if_neg (by simp), i2 j hj, if_neg (by omega), if_neg (by simp)]
        | true =>
          rw [if_pos rfl]
          unfold putLine
          by_cases d : j / 8 = a
          · rw [if_pos d, if_pos ⟨d, by omega, rfl⟩]
            show S (a * 8 + j % 8) = S j
            have e1 : a * 8 + j % 8 = j := by omega
            rw [e1]
          · rw [if_neg d, i2 j hj, if_neg (fun h => d h.1), if_neg (fun h => d h.1)]
    · have hs : sameW (lineOf S a) (lineOf X a) = true := by
        rw [sameW_iff]
        intro r hr
        show S (a * 8 + r) = X (a * 8 + r)
        rw [i2 _ (by omega), if_neg (by omega)]
        exact h _ (by omega) (by omega)
      rw [crashI_same hX hc hs]
      refine ⟨by show c = 0 ∨ k < a + 1; omega, fun j hj => ?_⟩
      show X j = _
      rw [i2 j hj]
      have : (k < a ↔ k < a + 1) := by omega
      simp only [this]
theorem fen_read {M : PM} {S L : Nat → Int} {K k : Nat} (h : FenP M (lineS S k 8) L (fun _ => none) K) (hL : ∀ j, j < 64 → L j = S j) (keep : Int) (i : Nat) (hi : i < 64) :
    loadV (M.crash keep) i = (if i / 8 = k ∧ keptB keep 0 = true then 1000 + ((i % 8 : Nat) : Int) else S i) ∧ placeV (M.crash keep).n i = 0 := by
  have hp : placeV (M.crash keep).n (i : Int) = 0 := by
    rw [PM.crash_n, h.n]
    unfold placeV
    rw [if_neg (by omega)]
  refine ⟨?_, hp⟩
  unfold loadV
  rw [if_pos hp, Int.toNat_natCast]
  show (crashI M.was keep M.lasts M.n).2 i = _
  have hwas : M.was = lineS S k 8 := by unfold PM.was; rw [h.calm.2]; exact h.seen
  rw [hwas, h.lasts, h.n, (crash_one (k := k) (fun j hj hne => by unfold lineS; rw [if_neg (fun h => hne h.1)]; exact (hL j hj).symm) keep 8 (Nat.le_refl _)).2 i hi]
  by_cases c : i / 8 = k
  · by_cases d : keptB keep 0 = true
    · rw [if_pos ⟨c, by omega, d⟩, if_pos ⟨c, d⟩]
      unfold lineS
      rw [if_pos ⟨c, by omega⟩]
    · rw [if_neg (fun h => d h.2.2), if_neg (fun h => d h.2)]
      exact hL i hi
  · rw [if_neg (fun h => c h.1), if_neg (fun h => c h.1)]
    exact hL i hi
end Go.Proofs.Ytbflennacniacaa
