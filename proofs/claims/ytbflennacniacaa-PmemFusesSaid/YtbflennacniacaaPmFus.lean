/- The plain law of PmemFuses: behind the fuse's end nothing lasts. -/
import Derived.Test.YtbflennacniacaaPmUnf
namespace Go.Proofs.Ytbflennacniacaa
open Go.RowKit
set_option linter.unusedVariables false
theorem lastsL_some {M : PM} {left : Lit → Bool} {j : Nat} {g : Nat → Int} (h : M.way (j / 8) = some g) (hl : left (keyI (j / 8)) = false) : lastsL M left j = g (j % 8) := by
  unfold lastsL
  rw [h]
  show (if left (keyI (j / 8)) = true then _ else _) = _
  rw [hl]
  rfl
theorem lastsL_none {M : PM} {left : Lit → Bool} {j : Nat} (h : M.way (j / 8) = none) : lastsL M left j = M.lasts j := by
  unfold lastsL
  rw [h]
/-- Whether the power is on behind s steps, the fuse being of c. -/
structure Burn (M : PM) (c s : Nat) : Prop where
  power : M.fin.isNone = decide (s < c)
  fuse : s < c → M.fuse = (c : Int) - s
theorem ticked_keeps (T : PM) : T.ticked.n = T.n ∧ T.ticked.seen = T.seen ∧ T.ticked.lasts = T.lasts ∧ T.ticked.way = T.way ∧ T.ticked.steps = T.steps := by
  unfold PM.ticked
  split
  · obtain ⟨a, b, c, d, _, e, _⟩ := PM.marked_same { T with fuse := T.fuse - 1 }
    exact ⟨a, b, c, d, e⟩
  · exact ⟨rfl, rfl, rfl, rfl, rfl⟩
theorem Burn.tick {T : PM} {c s : Nat} (h : Burn T c s) : Burn T.ticked c (s + 1) := by
  obtain ⟨h1, h2⟩ := h
  by_cases hs : s < c
  · have hf := h2 hs
    have hn : T.fin.isNone = true := by rw [h1]; simpa using hs
    unfold PM.ticked
    rw [if_pos ⟨hn, by omega⟩]
    unfold PM.marked
    by_cases h0 : T.fuse - 1 = 0
    · rw [if_pos h0]
      refine ⟨?_, fun h => by omega⟩
      show false = _
      symm
      simp
      omega
    · rw [if_neg h0]
      refine ⟨?_, fun h => ?_⟩
      · show T.fin.isNone = _
        rw [hn]
        symm
        simp
        omega
      · show T.fuse - 1 = _
        omega
  · have hn : T.fin.isNone = false := by rw [h1]; simpa using hs
    unfold PM.ticked
    rw [if_neg (fun h => by rw [hn] at h; exact Bool.noConfusion h.1)]
    exact ⟨by rw [hn]; symm; simp; omega, fun h => by omega⟩
structure FusP (M : PM) (c i : Nat) : Prop where
  n : M.n = 16
  burn : Burn M c (3 * i)
  way : 3 * i < c → M.way = fun _ => none
  lasts : ∀ a, a < 16 → M.lasts (8 * a) = if a < i ∧ 3 * a + 2 < c then (a : Int) + 1 else 0
  steps : M.steps = 3 * i
  ok : M.ok (3 * i)
theorem FusP.begin (c : Nat) (hc : c < 64) : FusP ((PM.fresh 16).fused c) c 0 := by
  unfold PM.fused
  rw [if_neg (by omega), if_pos (show (PM.fresh 16).fin.isNone = true from rfl)]
  obtain ⟨a1, a2, a3, a4, a5, a6, a7, a8⟩ := PM.marked_same ({ PM.fresh 16 with fuse := (c : Int) } : PM)
  refine ⟨by rw [a1]; rfl, ?_, fun _ => by rw [a4]; rfl, fun a ha => by rw [a3, if_neg (by omega)]; rfl, by rw [a6]; rfl, PM.ok.marked ⟨Nat.le_refl _, Nat.le_refl _, Nat.le_refl _, by unfold wf64; show -9223372036854775808 ≤ (c : Int) ∧ (c : Int) ≤ 9223372036854775807; omega⟩⟩
  refine ⟨?_, fun h => by rw [a5]; show (c : Int) = _; omega⟩
  unfold PM.marked
  by_cases h0 : (c : Int) = 0
  · rw [if_pos h0]
    show false = _
    symm
    simp
    omega
  · rw [if_neg h0]
    show true = _
    symm
    simp
    omega
def fuR (M : PM) (i : Nat) : PM := ((M.store (8 * (i : Int)) ((i : Int) + 1)).flush i).fence
theorem FusP.round {M : PM} {c i : Nat} (h : FusP M c i) (hi : i < 16) :
    (placeV M.n (8 * (i : Int)) = 0 ∧ lineE (M.store (8 * (i : Int)) ((i : Int) + 1)).n (i : Int) = 0 ∧ (M.store (8 * (i : Int)) ((i : Int) + 1)).ok (3 * i + 1) ∧ ((M.store (8 * (i : Int)) ((i : Int) + 1)).flush i).ok (3 * i + 2)) ∧ FusP (fuR M i) c (i + 1) := by
  have hp : placeV M.n (8 * (i : Int)) = 0 := by
    rw [h.n]
    unfold placeV
    rw [if_neg (by omega)]
  obtain ⟨M1, hM1⟩ : ∃ M1, M.store (8 * (i : Int)) ((i : Int) + 1) = M1 := ⟨_, rfl⟩
  have hM1e : M1 = (M.stepped.stored (8 * i) ((i : Int) + 1)).ticked := by
    rw [← hM1]
    unfold PM.store
    rw [if_pos hp, show (8 * (i : Int)).toNat = 8 * i from by omega]
  have b1 : Burn M1 c (3 * i + 1) := by
    rw [hM1e]
    exact Burn.tick ⟨h.burn.power, h.burn.fuse⟩
  obtain ⟨k1, k2, k3, k4, k5⟩ := ticked_keeps (M.stepped.stored (8 * i) ((i : Int) + 1))
  rw [← hM1e] at k1 k2 k3 k4 k5
  have s1 : M1.seen (8 * i) = (i : Int) + 1 := by
    rw [k2]
    show updI M.seen (8 * i) ((i : Int) + 1) (8 * i) = _
    unfold updI
    rw [if_pos rfl]
  have l1 : M1.lasts = M.lasts := k3
  have w1 : M1.way = M.way := k4
  have n1 : M1.n = 16 := k1.trans h.n
  have t1 : M1.steps = M.steps + 1 := k5
  have o1 : M1.ok (3 * i + 1) := by rw [← hM1]; exact h.ok.store _ _
  have hl : lineE M1.n (i : Int) = 0 := by
    rw [n1]
    unfold lineE
    rw [if_neg (by omega)]
  rw [hM1]
  refine ⟨⟨hp, hl, o1, o1.flush _⟩, ?_⟩
  unfold fuR
  rw [hM1]
  obtain ⟨M2, hM2⟩ : ∃ M2, M1.flush i = M2 := ⟨_, rfl⟩
  have hM2e : M2 = (if M1.fin.isNone then M1.stepped.flushed i else M1.stepped).ticked := by
    rw [← hM2]
    unfold PM.flush
    rw [if_pos hl, Int.toNat_natCast]
  rw [hM2]
  have b2 : Burn M2 c (3 * i + 2) := by
    rw [hM2e]
    refine Burn.tick ?_
    split <;> exact ⟨b1.power, b1.fuse⟩
  have o2 : M2.ok (3 * i + 2) := by rw [← hM2]; exact o1.flush _
  have n2 : M2.n = 16 := by rw [← hM2, PM.flush_n]; exact n1
  have l2 : M2.lasts = M.lasts ∧ M2.steps = M.steps + 2 ∧ (3 * i + 1 < c → M2.way = fun x => if x = i then some (lineOf M1.seen i) else M1.way x) := by
    obtain ⟨k1, k2, k3, k4, k5⟩ := ticked_keeps (if M1.fin.isNone then M1.stepped.flushed i else M1.stepped)
    rw [← hM2e] at k1 k2 k3 k4 k5
    rw [k3, k5, k4, b1.power]
    by_cases hq : 3 * i + 1 < c
    · rw [show decide (3 * i + 1 < c) = true from by simpa using hq, if_pos rfl]
      exact ⟨l1, by show M1.steps + 1 = _; omega, fun _ => rfl⟩
    · rw [show decide (3 * i + 1 < c) = false from by simpa using hq, if_neg (by simp)]
      exact ⟨l1, by show M1.steps + 1 = _; omega, fun h => absurd h hq⟩
  have b3 : Burn M2.fence c (3 * i + 3) := by
    unfold PM.fence
    refine Burn.tick ?_
    split <;> exact ⟨b2.power, b2.fuse⟩
  obtain ⟨k1', k2', k3', k4', k5'⟩ := ticked_keeps (if M2.fin.isNone then M2.stepped.lasted else M2.stepped)
  have fe : M2.fence = (if M2.fin.isNone then M2.stepped.lasted else M2.stepped).ticked := rfl
  rw [← fe, b2.power] at k1' k2' k3' k4' k5'
  by_cases hq : 3 * i + 2 < c
  · rw [show decide (3 * i + 2 < c) = true from by simpa using hq, if_pos rfl] at k1' k2' k3' k4' k5'
    have hw : M2.way = fun x => if x = i then some (lineOf M1.seen i) else none := by
      rw [l2.2.2 (by omega), w1, h.way (by omega)]
    refine ⟨by rw [PM.fence_n]; exact n2, b3, fun _ => ?_, fun a ha => ?_, ?_, o2.fence⟩
    · rw [k4']
      rfl
    · rw [k3']
      show lastsL M2.stepped (fun _ => false) (8 * a) = _
      have e1 : 8 * a / 8 = a := by omega
      have e2 : 8 * a % 8 = 0 := by omega
      by_cases c1 : a = i
      · subst c1
        rw [lastsL_some (M := M2.stepped) (g := lineOf M1.seen a) (by rw [e1]; show M2.way a = _; rw [hw]; exact if_pos rfl) rfl, e2, if_pos ⟨by omega, hq⟩]
        show M1.seen (a * 8 + 0) = _
        rw [show a * 8 + 0 = 8 * a from by omega]
        exact s1
      · rw [lastsL_none (M := M2.stepped) (by rw [e1]; show M2.way a = _; rw [hw]; exact if_neg c1)]
        show M2.lasts (8 * a) = _
        rw [l2.1, h.lasts a ha]
        have : (a < i ↔ a < i + 1) := by omega
        simp only [this]
    · rw [k5']
      show M2.steps + 1 = _
      have := h.steps
      omega
  · rw [show decide (3 * i + 2 < c) = false from by simpa using hq, if_neg (by simp)] at k1' k2' k3' k4' k5'
    refine ⟨by rw [PM.fence_n]; exact n2, b3, fun h => by omega, fun a ha => ?_, ?_, o2.fence⟩
    · rw [k3']
      show M2.lasts (8 * a) = _
      rw [l2.1, h.lasts a ha]
      by_cases c1 : a = i
      · subst c1
        rw [if_neg (by omega), if_neg (by omega)]
      · have : (a < i ↔ a < i + 1) := by omega
        simp only [this]
    · rw [k5']
      show M2.steps + 1 = _
      have := h.steps
      omega
def fuI (c : Nat) : Nat → PM
  | 0 => (PM.fresh 16).fused c
  | i + 1 => fuR (fuI c i) i
theorem fuI_p (c : Nat) (hc : c < 64) (i : Nat) (hi : i ≤ 16) : FusP (fuI c i) c i := by
  induction i with
  | zero => exact FusP.begin c hc
  | succ i ih => exact ((ih (by omega)).round (by omega)).2
theorem keptB_none (i : Nat) : keptB 0 i = false := by
  unfold keptB
  rw [if_neg (by omega), Int.zero_ediv]
  decide
theorem crash0_drop {was ls : Nat → Int} (a : Nat) : (crashI was 0 ls a).2 = ls := by
  induction a with
  | zero => rfl
  | succ a ih =>
    obtain ⟨S, hS⟩ : ∃ S, sameW (lineOf was a) (lineOf ls a) = S := ⟨_, rfl⟩
    cases S with
    | true => rw [crashI_same ih rfl hS]
    | false =>
      rw [crashI_other ih rfl hS, keptB_none]
      rfl
theorem fus_read {c k : Nat} (hc : c < 64) (hk : k ≤ 15) (i : Nat) (hi : i < 16) :
    loadV ((fuI c k).crash 0) (8 * (i : Int)) = (if i < k ∧ 3 * i + 2 < c then (i : Int) + 1 else 0) ∧ placeV ((fuI c k).crash 0).n (8 * (i : Int)) = 0 := by
  have h := fuI_p c hc k (by omega)
  have hp : placeV ((fuI c k).crash 0).n (8 * (i : Int)) = 0 := by
    rw [PM.crash_n, h.n]
    unfold placeV
    rw [if_neg (by omega)]
  refine ⟨?_, hp⟩
  unfold loadV
  rw [if_pos hp]
  show (crashI (fuI c k).was 0 (fuI c k).lasts (fuI c k).n).2 _ = _
  rw [crash0_drop, show (8 * (i : Int)).toNat = 8 * i from by omega, h.lasts i hi]
theorem fus_steps {c k : Nat} (hc : c < 64) (hk : k ≤ 15) : (((((fuI c k).crash 0).fused (-1)).steps : Nat) : Int) = 3 * (k : Int) := by
  have h := fuI_p c hc k (by omega)
  have e : ((fuI c k).crash 0).fused (-1) = (fuI c k).crash 0 := by unfold PM.fused; rw [if_pos (by omega)]
  rw [e]
  show (((fuI c k).steps : Nat) : Int) = _
  rw [h.steps]
  omega
end Go.Proofs.Ytbflennacniacaa
