/- The plain law of PmemUnfenced: what a crash leaves of lines that were not fenced. -/
import Derived.Test.YtbflennacniacaaPmCalm
namespace Go.Proofs.Ytbflennacniacaa
open Go.RowKit
set_option linter.unusedVariables false
theorem bits1 (x : Int) : bits .and .i64 x 1 = 0 ∨ bits .and .i64 x 1 = 1 := by
  obtain ⟨k, hk, e⟩ := Cv.and_i64 x 1 (by omega)
  rw [show ((1 : Nat) : Int) = 1 from rfl] at e
  rw [e]
  omega
/-- The i-th bit. -/
def bitB (x : Int) (i : Nat) : Bool := bits .and .i64 (x / 2 ^ i) 1 == 1
theorem bitB_one {x : Int} {i : Nat} (h : bitB x i = true) : bits .and .i64 (x / 2 ^ i) 1 = 1 := by simpa [bitB] using h
theorem bitB_zero {x : Int} {i : Nat} (h : bitB x i = false) : bits .and .i64 (x / 2 ^ i) 1 = 0 := by
  have : ¬ bits .and .i64 (x / 2 ^ i) 1 = 1 := by simpa [bitB] using h
  rcases bits1 (x / 2 ^ i) with h | h
  · exact h
  · exact absurd h this
theorem keptB_bit {keep : Int} {i : Nat} (hi : i < 60) : keptB keep i = (if keep < 0 then false else bitB keep i) := by
  unfold keptB bitB
  rw [Nat.mod_eq_of_lt hi]
def unf (bt : Nat → Bool) (flush : Bool) : Nat → PM
  | 0 => PM.fresh 8
  | i + 1 => if bt i then (if flush then ((unf bt flush i).store (8 * (i : Int) + i) (100 + i)).flush i else (unf bt flush i).store (8 * (i : Int) + i) (100 + i)) else unf bt flush i
def uS (bt : Nat → Bool) (i j : Nat) : Int := if j % 9 = 0 ∧ j / 9 < i ∧ bt (j / 9) = true then 100 + ((j / 9 : Nat) : Int) else 0
structure UnfP (bt : Nat → Bool) (M : PM) (i : Nat) : Prop where
  calm : M.calm
  n : M.n = 8
  seen : ∀ j, j < 64 → M.seen j = uS bt i j
  lasts : M.lasts = fun _ => 0
  ok : M.ok (2 * i)
theorem unf_store {bt : Nat → Bool} {M : PM} {i : Nat} (h : UnfP bt M i) (hi : i < 8) (hb : bt i = true) :
    (M.store (8 * (i : Int) + i) (100 + i)).calm ∧ (M.store (8 * (i : Int) + i) (100 + i)).n = 8 ∧ (∀ j, j < 64 → (M.store (8 * (i : Int) + i) (100 + i)).seen j = uS bt (i + 1) j) ∧ (M.store (8 * (i : Int) + i) (100 + i)).lasts = (fun _ => 0) ∧ (M.store (8 * (i : Int) + i) (100 + i)).ok (2 * i + 1) := by
  have e : 8 * (i : Int) + i = ((9 * i : Nat) : Int) := by omega
  rw [e]
  have hk : 9 * i < M.n * 8 := by rw [h.n]; omega
  refine ⟨h.calm.store _ _, by rw [PM.store_n]; exact h.n, fun j hj => ?_, ?_, h.ok.store _ _⟩
  · rw [store_calm h.calm (9 * i) _ hk]
    show updI M.seen (9 * i) (100 + (i : Int)) j = uS bt (i + 1) j
    unfold updI
    by_cases c : j = 9 * i
    · subst c
      rw [if_pos rfl]
      unfold uS
      have e1 : 9 * i / 9 = i := by omega
      rw [e1, if_pos ⟨by omega, by omega, hb⟩]
    · rw [if_neg c, h.seen j hj]
      unfold uS
      by_cases d : j % 9 = 0
      · have : (j / 9 < i ↔ j / 9 < i + 1) := by omega
        simp only [this]
      · rw [if_neg (fun hh => d hh.1), if_neg (fun hh => d hh.1)]
  · rw [store_calm h.calm (9 * i) _ hk]
    exact h.lasts
theorem unf_p (bt : Nat → Bool) (flush : Bool) (i : Nat) (hi : i ≤ 8) : UnfP bt (unf bt flush i) i := by
  induction i with
  | zero => exact ⟨calm_fresh 8, rfl, fun j _ => by unfold uS; rw [if_neg (by omega)]; rfl, rfl, PM.ok.fresh 8⟩
  | succ i ih =>
    have h := ih (by omega)
    unfold unf
    cases hb : bt i with
    | false =>
      rw [if_neg (by simp)]
      refine ⟨h.calm, h.n, fun j hj => ?_, h.lasts, h.ok.mono (by omega)⟩
      rw [h.seen j hj]
      unfold uS
      by_cases d : j / 9 = i
      · rw [if_neg (by omega), if_neg (by rw [d, hb]; simp)]
      · have : (j / 9 < i ↔ j / 9 < i + 1) := by omega
        simp only [this]
    | true =>
      rw [if_pos rfl]
      obtain ⟨s1, s2, s3, s4, s5⟩ := unf_store h (by omega) hb
      cases flush with
      | false =>
        rw [if_neg (by simp)]
        exact ⟨s1, s2, s3, s4, s5.mono (by omega)⟩
      | true =>
        rw [if_pos rfl]
        have hf := flush_calm s1 i (by rw [s2]; omega)
        refine ⟨s1.flush _, by rw [PM.flush_n]; exact s2, ?_, ?_, (s5.flush _).mono (by omega)⟩
        · rw [hf]; exact s3
        · rw [hf]; exact s4
/-- How many bits ahead of a. -/
def cntB (bt : Nat → Bool) : Nat → Nat
  | 0 => 0
  | a + 1 => if bt a then cntB bt a + 1 else cntB bt a
theorem cntB_succ (bt : Nat → Bool) (a : Nat) : cntB bt (a + 1) = if bt a then cntB bt a + 1 else cntB bt a := rfl
theorem cntB_le (bt : Nat → Bool) (a : Nat) : cntB bt a ≤ a := by
  induction a with
  | zero => exact Nat.le_refl _
  | succ a ih => unfold cntB; split <;> omega
def uL (bt : Nat → Bool) (keep : Int) (a j : Nat) : Int := if j % 9 = 0 ∧ j / 9 < a ∧ bt (j / 9) = true ∧ keptB keep (cntB bt (j / 9)) = true then 100 + ((j / 9 : Nat) : Int) else 0
theorem unf_crash (bt : Nat → Bool) (was : Nat → Int) (hw : ∀ j, j < 64 → was j = uS bt 8 j) (keep : Int) (a : Nat) (ha : a ≤ 8) :
    (crashI was keep (fun _ => 0) a).1 = cntB bt a ∧ ∀ j, j < 64 → (crashI was keep (fun _ => 0) a).2 j = uL bt keep a j := by
  induction a with
  | zero => exact ⟨rfl, fun j hj => by unfold uL; rw [if_neg (by omega)]; rfl⟩
  | succ a ih =>
    obtain ⟨i1, i2⟩ := ih (by omega)
    have line : ∀ r, r < 8 → lineOf (crashI was keep (fun _ => 0) a).2 a r = 0 := by
      intro r hr
      show (crashI was keep (fun _ => 0) a).2 (a * 8 + r) = 0
      rw [i2 _ (by omega)]
      unfold uL
      rw [if_neg (by omega)]
    have wline : ∀ r, r < 8 → lineOf was a r = if r = a ∧ bt a = true then 100 + (a : Int) else 0 := by
      intro r hr
      show was (a * 8 + r) = _
      rw [hw _ (by omega)]
      unfold uS
      by_cases c : r = a
      · have e1 : (a * 8 + r) / 9 = a := by omega
        rw [e1]
        by_cases d : bt a = true
        · rw [if_pos ⟨by omega, by omega, d⟩, if_pos ⟨c, d⟩]
        · rw [if_neg (fun h => d h.2.2), if_neg (fun h => d h.2)]
      · rw [if_neg (by omega), if_neg (fun h => c h.1)]
    obtain ⟨L, hL⟩ : ∃ L, (crashI was keep (fun _ => 0) a).2 = L := ⟨_, rfl⟩
    rw [hL] at line i2
    cases hb : bt a with
    | false =>
      have hs : sameW (lineOf was a) (lineOf L a) = true := by
        rw [sameW_iff]
        intro r hr
        rw [line r hr, wline r hr, if_neg (by rw [hb]; simp)]
      rw [crashI_same hL i1 hs]
      refine ⟨by rw [cntB_succ, hb]; rfl, fun j hj => ?_⟩
      show L j = _
      rw [i2 j hj]
      unfold uL
      by_cases d : j / 9 = a
      · rw [if_neg (by omega), if_neg (by rw [d, hb]; simp)]
      · have : (j / 9 < a ↔ j / 9 < a + 1) := by omega
        simp only [this]
    | true =>
      have hs : sameW (lineOf was a) (lineOf L a) = false := by
        rw [← Bool.not_eq_true, sameW_iff]
        intro hh
        have := hh a (by omega)
        rw [line a (by omega), wline a (by omega), if_pos ⟨rfl, hb⟩] at this
        omega
      rw [crashI_other hL i1 hs]
      refine ⟨by rw [cntB_succ, hb]; rfl, fun j hj => ?_⟩
      show (if keptB keep (cntB bt a) then putLine L a (lineOf was a) else L) j = _
      cases hk : keptB keep (cntB bt a) with
      | false =>
        rw [if_neg (by simp), i2 j hj]
        unfold uL
        by_cases d : j / 9 = a
        · rw [if_neg (by omega), if_neg (by rw [d, hk]; simp)]
        · have : (j / 9 < a ↔ j / 9 < a + 1) := by omega
          simp only [this]
      | true =>
        rw [if_pos rfl]
        unfold putLine
        by_cases d : j / 8 = a
        · rw [if_pos d, wline _ (by omega)]
          unfold uL
          by_cases e : j % 8 = a
          · have e1 : j / 9 = a := by omega
            rw [if_pos ⟨e, hb⟩, e1, if_pos ⟨by omega, by omega, hb, hk⟩]
          · rw [if_neg (fun h => e h.1), if_neg (by omega)]
        · rw [if_neg d, i2 j hj]
          unfold uL
          by_cases e : j % 9 = 0
          · have : (j / 9 < a ↔ j / 9 < a + 1) := by omega
            simp only [this]
          · rw [if_neg (fun h => e h.1), if_neg (fun h => e h.1)]
/-- What is read behind the crash. -/
theorem unf_read (bt : Nat → Bool) (flush : Bool) (keep : Int) (i : Nat) (hi : i < 8) :
    loadV ((unf bt flush 8).crash keep) (8 * (i : Int) + i) = (if bt i && keptB keep (cntB bt i) then 100 + (i : Int) else 0) ∧ placeV ((unf bt flush 8).crash keep).n (8 * (i : Int) + i) = 0 := by
  have h := unf_p bt flush 8 (Nat.le_refl _)
  have hp : placeV ((unf bt flush 8).crash keep).n (8 * (i : Int) + i) = 0 := by
    rw [PM.crash_n, h.n]
    unfold placeV
    rw [if_neg (by omega)]
  refine ⟨?_, hp⟩
  unfold loadV
  rw [if_pos hp]
  show (crashI (unf bt flush 8).was keep (unf bt flush 8).lasts (unf bt flush 8).n).2 _ = _
  have hwas : (unf bt flush 8).was = (unf bt flush 8).seen := by unfold PM.was; rw [h.calm.2]
  rw [hwas, h.lasts, h.n, (unf_crash bt _ h.seen keep 8 (Nat.le_refl _)).2 _ (by omega)]
  have e : (8 * (i : Int) + i).toNat = 9 * i := by omega
  rw [e]
  unfold uL
  have e1 : 9 * i / 9 = i := by omega
  rw [e1]
  cases hb : bt i <;> cases hk : keptB keep (cntB bt i) <;> simp [hi]
end Go.Proofs.Ytbflennacniacaa
