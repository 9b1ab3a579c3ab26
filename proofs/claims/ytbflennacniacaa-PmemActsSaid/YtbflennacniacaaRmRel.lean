/- The document's memory and the program's: alike; plain. -/
import Derived.Test.YtbflennacniacaaRmFence
namespace Go.Proofs.Ytbflennacniacaa
open Go.RowKit
set_option linter.unusedVariables false
structure Alike (M : PM) (R : RM) : Prop where
  n : R.n = M.n
  seen : R.seen = M.seen
  last : R.last = M.lasts
  steps : R.steps = M.steps
  many : R.many = M.stores
  going : ∀ i, R.going i = (M.way i).isSome
  way : ∀ i g, M.way i = some g → ∀ r, r < 8 → R.way (i * 8 + r) = g r
  far : ∀ i, M.n ≤ i → M.way i = none
structure Rel (M : PM) (R : RM) : Prop where
  data : Alike M R
  fuse : R.fuse = decide (0 ≤ M.fuse)
  left : 0 ≤ M.fuse → R.left = M.fuse
  fin : R.fin = M.fin
  burnt : M.fin.isSome = true ↔ M.fuse = 0
  low : -1 ≤ M.fuse
theorem Rel.power {M : PM} {R : RM} (h : Rel M R) : R.power = M.fin.isNone := by
  unfold RM.power
  rw [h.fuse]
  have hb := h.burnt
  have hl := h.low
  have hle := h.left
  cases hf : M.fin with
  | none =>
    rw [hf] at hb
    have h0 : M.fuse ≠ 0 := fun e => by have := hb.2 e; cases this
    by_cases h1 : 0 ≤ M.fuse
    · have := hle h1
      simp; omega
    · simp; omega
  | some g =>
    rw [hf] at hb
    have h0 : M.fuse = 0 := hb.1 rfl
    have := hle (by omega)
    simp [h0, this]
theorem Rel.tick {M A : PM} {R B : RM} (h : Rel M R) (hd : Alike A B) (h1 : A.fuse = M.fuse) (h2 : A.fin = M.fin) (h3 : B.fuse = R.fuse) (h4 : B.left = R.worked.left) (h5 : B.fin = R.fin) : Rel A.ticked B.marked := by
  have hb := h.burnt
  have hl := h.low
  have hle := h.left
  have hfu := h.fuse
  have hfi := h.fin
  by_cases c0 : M.fuse < 0
  · have hn : M.fin = none := by
      cases hf : M.fin with
      | none => rfl
      | some g => rw [hf] at hb; have := hb.1 rfl; omega
    have e1 : A.ticked = A := by unfold PM.ticked; rw [if_neg (fun hh => by omega)]
    have e2 : B.marked = B := by unfold RM.marked; rw [if_neg (fun hh => by rw [h3, hfu] at hh; have := hh.1; simp at this; omega)]
    rw [e1, e2]
    exact ⟨hd, by rw [h3, hfu, h1], fun hh => by omega, by rw [h5, hfi, h2], by rw [h2, h1]; exact hb, by rw [h1]; exact hl⟩
  · have hft : R.fuse = true := by rw [hfu]; simp; omega
    have hlf := hle (by omega)
    by_cases c1 : M.fuse = 0
    · have hs := hb.2 c1
      have e1 : A.ticked = A := by unfold PM.ticked; rw [if_neg (fun hh => by omega)]
      have e2 : B.marked = B := by unfold RM.marked; rw [if_neg (fun hh => by have := hh.2.2; rw [h5, hfi] at this; rw [this] at hs; cases hs)]
      rw [e1, e2]
      refine ⟨hd, by rw [h3, hfu, h1], fun _ => ?_, by rw [h5, hfi, h2], by rw [h2, h1]; exact hb, by rw [h1]; exact hl⟩
      rw [h4, h1]
      unfold RM.worked
      rw [if_neg (fun hh => by omega)]
      exact hlf
    · have hn : M.fin = none := by
        cases hf : M.fin with
        | none => rfl
        | some g => rw [hf] at hb; exact absurd (hb.1 rfl) c1
      have hwl : B.left = M.fuse - 1 := by
        rw [h4]
        unfold RM.worked
        rw [if_pos ⟨hft, by omega⟩, ← hlf]
      have e1 : A.ticked = ({ A with fuse := M.fuse - 1 } : PM).marked := by unfold PM.ticked; rw [if_pos ⟨by rw [h2, hn]; rfl, by omega⟩, h1]
      rw [e1]
      by_cases c2 : M.fuse = 1
      · have e2 : ({ A with fuse := M.fuse - 1 } : PM).marked = { A with fuse := M.fuse - 1, fin := some A.seen } := by unfold PM.marked; rw [if_pos (by show M.fuse - 1 = 0; omega)]
        have e3 : B.marked = { B with fin := some B.seen } := by unfold RM.marked; rw [if_pos ⟨by rw [h3]; exact hft, by omega, by rw [h5, hfi]; exact hn⟩]
        rw [e2, e3]
        refine ⟨⟨hd.n, hd.seen, hd.last, hd.steps, hd.many, hd.going, hd.way, hd.far⟩, ?_, fun _ => hwl, ?_, ?_, ?_⟩
        · show B.fuse = decide (0 ≤ M.fuse - 1); rw [h3, hft]; simp; omega
        · show some B.seen = some A.seen; rw [hd.seen]
        · show (some A.seen).isSome = true ↔ M.fuse - 1 = 0; simp; omega
        · show -1 ≤ M.fuse - 1; omega
      · have e2 : ({ A with fuse := M.fuse - 1 } : PM).marked = { A with fuse := M.fuse - 1 } := by unfold PM.marked; rw [if_neg (by show ¬ (M.fuse - 1 = 0); omega)]
        have e3 : B.marked = B := by unfold RM.marked; rw [if_neg (fun hh => by have := hh.2.1; omega)]
        rw [e2, e3]
        refine ⟨⟨hd.n, hd.seen, hd.last, hd.steps, hd.many, hd.going, hd.way, hd.far⟩, ?_, fun _ => hwl, ?_, ?_, ?_⟩
        · show B.fuse = decide (0 ≤ M.fuse - 1); rw [h3, hft]; simp; omega
        · show B.fin = A.fin; rw [h5, hfi, h2]
        · show A.fin.isSome = true ↔ M.fuse - 1 = 0; rw [h2, hn]; simp; omega
        · show -1 ≤ M.fuse - 1; omega
theorem Rel.store {M : PM} {R : RM} (h : Rel M R) (p v : Int) : Rel (M.store p v) (R.store p v) := by
  unfold PM.store RM.store
  rw [h.data.n]
  by_cases hp : placeV M.n p = 0
  · rw [if_pos hp, if_pos hp]
    obtain ⟨e1, e2, e3, e4, e5, e6, e7, e8, e9⟩ := R.worked_same
    refine h.tick ⟨by show R.worked.n = M.n; rw [e1, h.data.n], ?_, by show R.worked.last = M.lasts; rw [e3, h.data.last], by show R.worked.steps = M.steps + 1; rw [e8, h.data.steps], by show R.worked.many + 1 = M.stores + 1; rw [e9, h.data.many], fun i => ?_, fun i g hg r hr => ?_, h.data.far⟩ rfl rfl e6 rfl e7
    · show updI R.worked.seen p.toNat v = updI M.seen p.toNat v; rw [e2, h.data.seen]
    · show R.worked.going i = _; rw [e5]; exact h.data.going i
    · show R.worked.way _ = _; rw [e4]; exact h.data.way i g hg r hr
  · rw [if_neg hp, if_neg hp]
    exact h
theorem RM.worked_way (M : RM) : M.worked.way = M.way ∧ M.worked.going = M.going := ⟨M.worked_same.2.2.2.1, M.worked_same.2.2.2.2.1⟩
theorem Alike.stepped {M : PM} {R : RM} (h : Alike M R) : Alike M.stepped R.worked := by
  obtain ⟨e1, e2, e3, e4, e5, e6, e7, e8, e9⟩ := R.worked_same
  exact ⟨e1.trans h.n, e2.trans h.seen, e3.trans h.last, by show R.worked.steps = M.steps + 1; rw [e8, h.steps], e9.trans h.many, fun i => by rw [e5]; exact h.going i, fun i g hg r hr => by rw [e4]; exact h.way i g hg r hr, h.far⟩
theorem Rel.flush {M : PM} {R : RM} (h : Rel M R) (p : Int) : Rel (M.flush p) (R.flush p) := by
  unfold PM.flush RM.flush
  rw [h.data.n]
  obtain ⟨e1, e2, e3, e4, e5, e6, e7, e8, e9⟩ := R.worked_same
  by_cases hp : lineE M.n p = 0
  · rw [if_pos hp, if_pos hp, h.power]
    by_cases hf : M.fin.isNone = true
    · rw [if_pos hf, if_pos hf]
      have hd := h.data.stepped
      refine h.tick ⟨hd.n, hd.seen, hd.last, hd.steps, hd.many, fun i => ?_, fun i g hg r hr => ?_, fun i hi => ?_⟩ rfl rfl e6 rfl e7
      · show (if i = p.toNat then true else R.worked.going i) = (if i = p.toNat then some (lineOf M.seen p.toNat) else M.way i).isSome
        split
        · rfl
        · exact hd.going i
      · change (if i = p.toNat then some (lineOf M.seen p.toNat) else M.way i) = some g at hg
        show (if p.toNat * 8 ≤ i * 8 + r ∧ i * 8 + r < p.toNat * 8 + 8 then R.worked.seen (i * 8 + r) else R.worked.way (i * 8 + r)) = g r
        by_cases hi : i = p.toNat
        · rw [if_pos hi] at hg
          injection hg with hg
          rw [if_pos (by omega), ← hg, e2, h.data.seen, hi]
          rfl
        · rw [if_neg hi] at hg
          rw [if_neg (by omega)]
          exact hd.way i g hg r hr
      · show (if i = p.toNat then some (lineOf M.seen p.toNat) else M.way i) = none
        have hpn : ¬ (p < 0 ∨ (M.n : Int) ≤ p) := fun hh => by unfold lineE at hp; rw [if_pos hh] at hp; cases hp
        change M.n ≤ i at hi
        rw [if_neg (by omega)]
        exact h.data.far i hi
    · rw [if_neg hf, if_neg hf]
      exact h.tick h.data.stepped rfl rfl e6 rfl e7
  · rw [if_neg hp, if_neg hp]
    exact h
theorem Rel.fused {M : PM} {R : RM} (h : Rel M R) (s : Int) : Rel (M.fused s) (R.fused s) := by
  by_cases h0 : s < 0
  · unfold PM.fused RM.fused
    rw [if_pos h0, if_pos h0]; exact h
  · cases hf : M.fin with
    | some g =>
      have hfi := h.fin
      rw [hf] at hfi
      have a1 : M.fused s = M := by unfold PM.fused; rw [if_neg h0, if_neg (by rw [hf]; simp)]
      have a2 : R.fused s = R := by
        unfold RM.fused
        rw [if_neg h0]
        split
        · rfl
        · rename_i hg; rw [hfi] at hg; cases hg
      rw [a1, a2]
      exact h
    | none =>
      have hd := h.data
      have hfi := h.fin
      rw [hf] at hfi
      have a1 : M.fused s = ({ M with fuse := s } : PM).marked := by unfold PM.fused; rw [if_neg h0, if_pos (by rw [hf]; rfl)]
      have a2 : R.fused s = RM.marked { R with fuse := true, left := s } := by
        unfold RM.fused
        rw [if_neg h0]
        split
        · rename_i g hg; rw [hfi] at hg; cases hg
        · rfl
      rw [a1, a2]
      by_cases h1 : s = 0
      · have e2 : ({ M with fuse := s } : PM).marked = { M with fuse := s, fin := some M.seen } := by unfold PM.marked; rw [if_pos (by exact h1)]
        have e3 : RM.marked { R with fuse := true, left := s } = { R with fuse := true, left := s, fin := some R.seen } := by unfold RM.marked; rw [if_pos ⟨rfl, h1, hfi⟩]
        rw [e2, e3]
        refine ⟨⟨hd.n, hd.seen, hd.last, hd.steps, hd.many, hd.going, hd.way, hd.far⟩, ?_, fun _ => rfl, ?_, ?_, ?_⟩
        · show true = decide (0 ≤ s); simp; omega
        · show some R.seen = some M.seen; rw [hd.seen]
        · show (some M.seen).isSome = true ↔ s = 0; simp; omega
        · show -1 ≤ s; omega
      · have e2 : ({ M with fuse := s } : PM).marked = { M with fuse := s } := by unfold PM.marked; rw [if_neg (by exact h1)]
        have e3 : RM.marked { R with fuse := true, left := s } = { R with fuse := true, left := s } := by unfold RM.marked; rw [if_neg (fun hh => h1 hh.2.1)]
        rw [e2, e3]
        refine ⟨⟨hd.n, hd.seen, hd.last, hd.steps, hd.many, hd.going, hd.way, hd.far⟩, ?_, fun _ => rfl, ?_, ?_, ?_⟩
        · show true = decide (0 ≤ s); simp; omega
        · show R.fin = M.fin; rw [hfi, hf]
        · show M.fin.isSome = true ↔ s = 0; rw [hf]; simp; omega
        · show -1 ≤ s; omega
def RM.was (M : RM) : Nat → Int := match M.fin with | some g => g | none => M.seen
def RM.crash (M : RM) (keep : Int) : RM :=
  { M with seen := (crashI M.was keep M.last M.n).2, last := (crashI M.was keep M.last M.n).2, going := fun _ => false, fuse := false, fin := none }
theorem Rel.crash {M : PM} {R : RM} (h : Rel M R) (keep : Int) : Rel (M.crash keep) (R.crash keep) := by
  have hd := h.data
  have hw : R.was = M.was := by unfold RM.was PM.was; rw [h.fin, hd.seen]; cases M.fin <;> rfl
  refine ⟨⟨hd.n, ?_, ?_, hd.steps, hd.many, fun i => rfl, (fun i g hg => by cases hg), fun i hi => rfl⟩, rfl, fun hh => ?_, rfl, ?_, ?_⟩
  · show (crashI R.was keep R.last R.n).2 = (crashI M.was keep M.lasts M.n).2; rw [hw, hd.last, hd.n]
  · show (crashI R.was keep R.last R.n).2 = (crashI M.was keep M.lasts M.n).2; rw [hw, hd.last, hd.n]
  · change (0 : Int) ≤ -1 at hh; omega
  · show (none : Option (Nat → Int)).isSome = true ↔ (-1 : Int) = 0; simp
  · show (-1 : Int) ≤ -1; omega
theorem Rel.fence {M : PM} {R : RM} (h : Rel M R) : Rel M.fence R.fence := by
  unfold PM.fence RM.fence
  rw [h.power]
  obtain ⟨e1, e2, e3, e4, e5, e6, e7, e8, e9⟩ := R.worked_same
  have hd := h.data.stepped
  by_cases hf : M.fin.isNone = true
  · rw [if_pos hf, if_pos hf]
    refine h.tick ⟨hd.n, hd.seen, ?_, hd.steps, hd.many, fun i => ?_, fun i g hg r hr => ?_, fun i hi => rfl⟩ rfl rfl e6 rfl e7
    · funext j
      show (if j / 8 < R.n ∧ R.worked.going (j / 8) = true then R.worked.way j else R.worked.last j) = lastsL M.stepped (fun _ => false) j
      have hl : lastsL M.stepped (fun _ => false) j = match M.way (j / 8) with | some g => g (j % 8) | none => M.lasts j := by
        unfold lastsL
        show (match M.way (j / 8) with | some g => if (false = true) then M.lasts j else g (j % 8) | none => M.lasts j) = _
        cases M.way (j / 8) <;> simp
      rw [hl, hd.going, e3, h.data.last]
      show (if j / 8 < R.n ∧ (M.way (j / 8)).isSome = true then R.worked.way j else M.lasts j) = _
      cases hw : M.way (j / 8) with
      | none => simp
      | some g =>
        have hn : j / 8 < R.n := by
          rw [h.data.n]
          rcases Nat.lt_or_ge (j / 8) M.n with h1 | h1
          · exact h1
          · rw [h.data.far _ h1] at hw; cases hw
        rw [if_pos ⟨hn, rfl⟩]
        have := hd.way (j / 8) g hw (j % 8) (by omega)
        rw [show j / 8 * 8 + j % 8 = j by omega] at this
        exact this
    · show (if i < R.n then false else R.worked.going i) = (wayL M.stepped (fun _ => false) i).isSome
      have hw : wayL M.stepped (fun _ => false) i = none := by unfold wayL; simp
      rw [hw]
      by_cases hi : i < R.n
      · rw [if_pos hi]; rfl
      · rw [if_neg hi, hd.going]
        show (M.way i).isSome = false
        rw [h.data.far i (by rw [← h.data.n]; omega)]; rfl
    · change wayL M.stepped (fun _ => false) i = some g at hg
      unfold wayL at hg
      simp at hg
  · rw [if_neg hf, if_neg hf]
    exact h.tick hd rfl rfl e6 rfl e7
end Go.Proofs.Ytbflennacniacaa
