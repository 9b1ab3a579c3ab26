/- A head that is written under a fuse: what a crash leaves of it. -/
import Derived.Test.YtbflennacniacaaAwake21
namespace Go.Proofs.Ytbflennacniacaa
open Go.RowKit
set_option linter.unusedVariables false
/-- The first p words are the new head's. -/
def cutF (f : Nat → Nat) (xs : List Nat) (p : Nat) : Nat → Nat := fun j => if j < p then xs.getD j 0 else f j
def cutI (f : Nat → Nat) (xs : List Nat) (p : Nat) : Nat → Int := fun j => ((cutF f xs p j : Nat) : Int)
theorem cutI_far (f : Nat → Nat) (xs : List Nat) (p q : Nat) (hp : p ≤ 5) (hq : q ≤ 5) (j : Nat) (hj : 8 ≤ j) : cutI f xs p j = cutI f xs q j := by
  unfold cutI cutF
  rw [if_neg (by omega), if_neg (by omega)]
structure Cut (M : PM) (n : Nat) (f : Nat → Nat) (xs : List Nat) (s : Nat) : Prop where
  n : M.n = n
  s5 : s ≤ 5
  seen : M.seen = cutI f xs s
  lasts : ∃ a, a ≤ 5 ∧ M.lasts = cutI f xs a
  fin : ∀ g, M.fin = some g → ∃ b, b ≤ 5 ∧ g = cutI f xs b
  way : ∀ i g, M.way i = some g → ∃ d, d ≤ 5 ∧ g = lineOf (cutI f xs d) i
section
variable {M : PM} {n s : Nat} {f : Nat → Nat} {xs : List Nat}
theorem Cut.stepped (h : Cut M n f xs s) : Cut M.stepped n f xs s := ⟨h.n, h.s5, h.seen, h.lasts, h.fin, h.way⟩
theorem Cut.marked (h : Cut M n f xs s) : Cut M.marked n f xs s := by
  obtain ⟨a1, a2, a3, a4, _⟩ := M.marked_same
  refine ⟨by rw [a1]; exact h.n, h.s5, by rw [a2]; exact h.seen, by rw [a3]; exact h.lasts, fun g hg => ?_, by rw [a4]; exact h.way⟩
  unfold PM.marked at hg
  split at hg
  · injection hg with hg
    exact ⟨s, h.s5, by rw [← hg]; exact h.seen⟩
  · exact h.fin g hg
theorem Cut.fuse (h : Cut M n f xs s) (x : Int) : Cut { M with fuse := x } n f xs s := ⟨h.n, h.s5, h.seen, h.lasts, h.fin, h.way⟩
theorem Cut.ticked (h : Cut M n f xs s) : Cut M.ticked n f xs s := by
  unfold PM.ticked
  split
  · exact (h.fuse _).marked
  · exact h
theorem Cut.store (h : Cut M n f xs s) (hs : s < 5) (hn : 1 ≤ n) : Cut (M.store (s : Int) ((xs.getD s 0 : Nat) : Int)) n f xs (s + 1) := by
  have hp : placeV M.n (s : Int) = 0 := by
    rw [h.n]
    exact place_in (by omega)
  have e : M.store (s : Int) ((xs.getD s 0 : Nat) : Int) = (M.stepped.stored s ((xs.getD s 0 : Nat) : Int)).ticked := by
    unfold PM.store
    rw [if_pos hp, Int.toNat_natCast]
  rw [e]
  refine Cut.ticked ⟨h.n, by omega, ?_, h.lasts, h.fin, h.way⟩
  show updI M.seen s _ = _
  rw [h.seen]
  funext j
  unfold updI cutI cutF
  by_cases c : j = s
  · subst c
    rw [if_pos rfl, if_pos (by omega)]
  · rw [if_neg c]
    have : (j < s ↔ j < s + 1) := by omega
    simp only [this]
theorem Cut.flush (h : Cut M n f xs s) (q : Nat) (hq : q < n) : Cut (M.flush (q : Int)) n f xs s := by
  have hl : lineE M.n (q : Int) = 0 := by
    unfold lineE
    rw [h.n, if_neg (by omega)]
  unfold PM.flush
  rw [if_pos hl, Int.toNat_natCast]
  refine Cut.ticked ?_
  split
  · refine ⟨h.n, h.s5, h.seen, h.lasts, h.fin, fun i g hg => ?_⟩
    have hg' : (if i = q then some (lineOf M.seen q) else M.way i) = some g := hg
    by_cases c : i = q
    · rw [if_pos c] at hg'
      injection hg' with hg'
      exact ⟨s, h.s5, by rw [← hg', h.seen, c]⟩
    · rw [if_neg c] at hg'
      exact h.way i g hg'
  · exact h.stepped
theorem Cut.lasted (h : Cut M n f xs s) : Cut M.lasted n f xs s := by
  obtain ⟨a, ha, hla⟩ := h.lasts
  refine ⟨h.n, h.s5, h.seen, ?_, h.fin, fun i g hg => ?_⟩
  · have hfar : ∀ d, d ≤ 5 → (∀ j, j < 8 → lastsL M (fun _ => false) j = cutI f xs d j) → lastsL M (fun _ => false) = cutI f xs d := fun d hd hnear => by
      funext j
      by_cases c : j < 8
      · exact hnear j c
      · cases hw : M.way (j / 8) with
        | none =>
          have : lastsL M (fun _ => false) j = M.lasts j := by unfold lastsL; rw [hw]
          rw [this, hla]
          exact cutI_far f xs a d ha hd j (by omega)
        | some g =>
          obtain ⟨e, he, hge⟩ := h.way _ _ hw
          have : lastsL M (fun _ => false) j = g (j % 8) := by unfold lastsL; rw [hw]; rfl
          rw [this, hge]
          show cutI f xs e (j / 8 * 8 + j % 8) = _
          rw [show j / 8 * 8 + j % 8 = j from by omega]
          exact cutI_far f xs e d he hd j (by omega)
    cases hw : M.way 0 with
    | none =>
      refine ⟨a, ha, hfar a ha fun j hj => ?_⟩
      have h0 : j / 8 = 0 := by omega
      unfold lastsL
      rw [h0, hw, hla]
    | some g =>
      obtain ⟨e, he, hge⟩ := h.way _ _ hw
      refine ⟨e, he, hfar e he fun j hj => ?_⟩
      have h0 : j / 8 = 0 := by omega
      have : lastsL M (fun _ => false) j = g (j % 8) := by unfold lastsL; rw [h0, hw]; rfl
      rw [this, hge]
      show cutI f xs e (0 * 8 + j % 8) = _
      rw [show 0 * 8 + j % 8 = j from by omega]
  · have : (wayL M (fun _ => false)) i = some g := hg
    unfold wayL at this
    simp at this
theorem Cut.fence (h : Cut M n f xs s) : Cut M.fence n f xs s := by
  unfold PM.fence
  refine Cut.ticked ?_
  split
  · exact h.stepped.lasted
  · exact h.stepped
theorem Cut.stH (h : Cut M n f xs 0) (hn : 1 ≤ n) (m : Nat) (hm : m ≤ 5) : Cut (stH M 0 xs m) n f xs m := by
  induction m with
  | zero => exact h
  | succ m ih =>
    have h2 := (ih (by omega)).store (by omega) hn
    show Cut ((Go.Proofs.Ytbflennacniacaa.stH M 0 xs m).store ((0 + m : Nat) : Int) _) n f xs (m + 1)
    rw [Nat.zero_add]
    exact h2
theorem Cut.put {t : Nat} (h : Cut M n f (head5 t []) 0) (hn : 2 ≤ n) : Cut (putM M 0 t []) n f (head5 t []) 5 := by
  have h1 : Cut M.fence n f (head5 t []) 0 := h.fence
  have h2 := h1.stH (by omega) 5 (by omega)
  have h3 := (h2.flush 0 (by omega)).fence
  exact h3
theorem Cut.crash (h : Cut M n f xs s) (keep : Int) : ∃ p, p ≤ 5 ∧ (M.crash keep).seen = cutI f xs p ∧ (M.crash keep).n = n := by
  obtain ⟨a, ha, hla⟩ := h.lasts
  obtain ⟨b, hb, hwb⟩ : ∃ b, b ≤ 5 ∧ M.was = cutI f xs b := by
    unfold PM.was
    cases hf : M.fin with
    | none => exact ⟨s, h.s5, h.seen⟩
    | some g => exact h.fin g hf
  have key : ∀ m, (crashI (cutI f xs b) keep (cutI f xs a) m).2 = cutI f xs a ∨ (crashI (cutI f xs b) keep (cutI f xs a) m).2 = cutI f xs b := by
    intro m
    induction m with
    | zero => exact .inl rfl
    | succ m ih =>
      obtain ⟨X, hX⟩ : ∃ X, (crashI (cutI f xs b) keep (cutI f xs a) m).2 = X := ⟨_, rfl⟩
      rw [hX] at ih
      cases hs : sameW (lineOf (cutI f xs b) m) (lineOf X m) with
      | true => rw [crashI_same hX rfl hs]; exact ih
      | false =>
        rw [crashI_other hX rfl hs]
        show (if keptB keep _ = true then putLine X m (lineOf (cutI f xs b) m) else X) = _ ∨ (if keptB keep _ = true then putLine X m (lineOf (cutI f xs b) m) else X) = _
        split
        · right
          funext j
          unfold putLine
          by_cases c : j / 8 = m
          · rw [if_pos c]
            show cutI f xs b (m * 8 + j % 8) = _
            rw [show m * 8 + j % 8 = j from by omega]
          · rw [if_neg c]
            rcases ih with e | e
            · rw [e]
              by_cases hm0 : m = 0
              · exact cutI_far f xs a b ha hb j (by omega)
              · exfalso
                have : sameW (lineOf (cutI f xs b) m) (lineOf X m) = true := by
                  rw [sameW_iff, e]
                  intro r hr
                  exact cutI_far f xs b a hb ha (m * 8 + r) (by omega)
                rw [hs] at this
                cases this
            · rw [e]
        · exact ih
  have hseen : (M.crash keep).seen = (crashI (cutI f xs b) keep (cutI f xs a) M.n).2 := by
    show (crashI M.was keep M.lasts M.n).2 = _
    rw [hwb, hla]
  rcases key M.n with e | e
  · exact ⟨a, ha, by rw [hseen, e], h.n⟩
  · exact ⟨b, hb, by rw [hseen, e], h.n⟩
end
theorem Cut.of_clean {M : PM} {n : Nat} {f : Nat → Nat} (h : Clean M n f) (xs : List Nat) (c : Int) : Cut (M.fused c) n f xs 0 := by
  have h0 : Cut M n f xs 0 := by
    have e : cutI f xs 0 = fun j => (f j : Int) := by
      funext j
      unfold cutI cutF
      rw [if_neg (by omega)]
    refine ⟨h.clm.n, by omega, by rw [e]; exact h.clm.seen, ⟨0, by omega, by rw [e]; exact h.clm.lasts⟩, fun g hg => ?_, fun i g hg => ?_⟩
    · rw [h.clm.calm.2] at hg
      cases hg
    · rw [h.clm.way] at hg
      cases hg
  unfold PM.fused
  split
  · exact h0
  · split
    · exact (h0.fuse c).marked
    · exact h0
theorem find_good {J : JD} {M : PM} {f : Nat → Nat} (h : Good J M f) (A : Nat) : findS f (jd0 J.start J.words A) 2 = (J, true) := by
  show findN (lookP f (baseN J 1) (halfN J.words)) (findN (lookP f (baseN J 0) (halfN J.words)) (jd0 J.start J.words A, false) 0) 1 = _
  have hs : (jd0 J.start J.words A).found J.area J.turn J.text.data.toList = J := found_self
  have : J.area = 0 ∨ J.area = 1 := by have := h.area; omega
  rcases this with e | e
  · have h0 := h.holds
    have h1 := h.other
    rw [e] at h0 h1 hs
    rw [h0]
    have e0 : findN (some (J.turn, J.text.data.toList)) (jd0 J.start J.words A, false) 0 = (J, true) := by
      show ((jd0 J.start J.words A).found 0 J.turn J.text.data.toList, true) = _
      rw [hs]
    rw [e0]
    cases hx : lookP f (baseN J 1) (halfN J.words) with
    | none => rfl
    | some ts =>
      obtain ⟨t, s⟩ := ts
      have := (h1 t s hx).2
      unfold findN
      simp only [this]
      rfl
  · have h0 := h.holds
    have h1 := h.other
    rw [e] at h0 h1 hs
    rw [h0]
    cases hx : lookP f (baseN J 0) (halfN J.words) with
    | none =>
      show ((jd0 J.start J.words A).found 1 J.turn J.text.data.toList, true) = _
      rw [hs]
    | some ts =>
      obtain ⟨t, s⟩ := ts
      have hn := (h1 t s hx).1
      have e1 : findN (some (t, s)) (jd0 J.start J.words A, false) 0 = ((jd0 J.start J.words A).found 0 t s, true) := rfl
      rw [e1]
      unfold findN
      have e2 : ((jd0 J.start J.words A).found 0 t s).turn = t := rfl
      simp only [e2, hn]
      show (((jd0 J.start J.words A).found 0 t s).found 1 J.turn J.text.data.toList, true) = _
      have e3 : ((jd0 J.start J.words A).found 0 t s).found 1 J.turn J.text.data.toList = (jd0 J.start J.words A).found 1 J.turn J.text.data.toList := rfl
      rw [e3, hs]
theorem own_apart : sumN (digitsL [magicN, 3, 0, sumN []]) ≠ sumN (digitsL [magicN, 1, 0, sumN []]) := by decide +kernel
/-- What Open finds behind a head that was cut off. -/
theorem cut_open {J : JD} {M : PM} {f : Nat → Nat} (h : Good J M f) (ha : J.area = 1) (hs : J.start = 0 ∧ J.words = 128) (ht : J.turn = 2) (h0 : f 0 = magicN) (h1 : f 1 = 1) (h2 : f 2 = 0) (h3 : f 3 = sumN []) (h4 : f 4 = sumN (digitsL [magicN, 1, 0, sumN []])) (p : Nat) (hp : p ≤ 5) :
    ∃ J', findS (cutF f (head5 3 []) p) (jd0 0 128 0) 2 = (J', true) ∧ (J'.text = ByteArray.empty ∨ J'.text = J.text) := by
  have hJ0 : jd0 0 128 0 = jd0 J.start J.words 0 := by rw [hs.1, hs.2]
  obtain ⟨g0, g1, g2, g3, g4⟩ := head5_at 3 []
  have hfar : ∀ j, 5 ≤ j → cutF f (head5 3 []) p j = f j := fun j hj => by unfold cutF; rw [if_neg (by omega)]
  by_cases c1 : p ≤ 1
  · have e : cutF f (head5 3 []) p = f := by
      funext j
      unfold cutF
      by_cases c : j < p
      · obtain rfl : j = 0 := by omega
        rw [if_pos c, g0, h0]
      · rw [if_neg c]
    rw [e, hJ0, find_good h 0]
    exact ⟨J, rfl, .inr rfl⟩
  · by_cases c5 : p = 5
    · subst c5
      have hpg := put_good h.weak ByteArray.empty (Nat.zero_le _)
      have ho : J.other = 0 := by
        unfold JD.other baseN
        rw [ha, hs.1]
        simp
      have ht3 : turn1 J.turn = 3 := by rw [ht]; rfl
      rw [ho, ht3] at hpg
      have e : cutF f (head5 3 []) 5 = putF f 0 3 ByteArray.empty.data.toList := by
        funext j
        unfold cutF putF
        by_cases c : j < 5
        · rw [if_pos c, if_pos ⟨by omega, by omega⟩]
          rfl
        · have hw : wordsOfText ByteArray.empty.data.toList = 0 := rfl
          rw [if_neg c, if_neg (by omega), hw, if_neg (by omega)]
      have hk : (J.put ByteArray.empty).start = 0 ∧ (J.put ByteArray.empty).words = 128 := hs
      have := find_good hpg.1 0
      rw [hk.1, hk.2] at this
      rw [e, this]
      exact ⟨_, rfl, .inl rfl⟩
    · obtain ⟨F, hF⟩ : ∃ F, cutF f (head5 3 []) p = F := ⟨_, rfl⟩
      have f0 : F 0 = magicN := by rw [← hF]; unfold cutF; rw [if_pos (by omega)]; exact g0
      have f1 : F 1 = 3 := by rw [← hF]; unfold cutF; rw [if_pos (by omega)]; exact g1
      have f2 : F 2 = 0 := by
        rw [← hF]
        unfold cutF
        split
        · exact g2
        · exact h2
      have f3 : F 3 = sumN [] := by
        rw [← hF]
        unfold cutF
        split
        · exact g3
        · exact h3
      have f4 : F 4 = sumN (digitsL [magicN, 1, 0, sumN []]) := by
        rw [← hF]
        unfold cutF
        rw [if_neg (by omega)]
        exact h4
      have hnone : lookP F 0 64 = none := by
        have hok : headOk F 0 64 = false := by
          unfold headOk
          rw [Nat.zero_add, Nat.zero_add, Nat.zero_add, Nat.zero_add, f0, f1, f2, f3, f4, beq_eq_false_iff_ne.2 own_apart]
          simp
        unfold lookP
        rw [hok, Bool.false_and]
        exact if_neg (by simp)
      have hsome : lookP F 64 64 = some (J.turn, J.text.data.toList) := by
        have hh := h.holds
        have hb : baseN J J.area = 64 ∧ halfN J.words = 64 := by
          unfold baseN
          rw [ha, hs.1, hs.2]
          exact ⟨rfl, rfl⟩
        rw [hb.1, hb.2] at hh
        rw [← hh]
        refine lookP_congr (by omega) fun i hi => ?_
        rw [← hF]
        exact hfar _ (by omega)
      rw [hF]
      have e : findS F (jd0 0 128 0) 2 = findN (lookP F 64 64) (findN (lookP F 0 64) (jd0 0 128 0, false) 0) 1 := rfl
      rw [e, hnone, hsome]
      refine ⟨(jd0 0 128 0).found 1 J.turn J.text.data.toList, rfl, .inr ?_⟩
      show (⟨J.text.data.toList.toArray⟩ : ByteArray) = J.text
      apply ByteArray.ext
      simp
end Go.Proofs.Ytbflennacniacaa
