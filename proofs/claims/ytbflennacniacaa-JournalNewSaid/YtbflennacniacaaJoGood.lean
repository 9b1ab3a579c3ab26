/- A journal that holds its text, in plain words. -/
import Derived.Test.YtbflennacniacaaJoCalm
import Derived.Test.YtbflennacniacaaJoApi
namespace Go.Proofs.Ytbflennacniacaa
open Go.RowKit
set_option linter.unusedVariables false
theorem newer_next (t : Nat) (h : t < 18446744073709551616) : newer (turn1 t) t = true ∧ newer t (turn1 t) = false := by
  unfold newer turn1 wrap64
  constructor
  · rw [decide_eq_true_eq, IntKind.wrap_u64]
    omega
  · rw [decide_eq_false_iff_not, IntKind.wrap_u64]
    omega
/-- What put asks of a journal. -/
structure Weak (J : JD) (M : PM) (f : Nat → Nat) : Prop where
  clean : Clean M M.n f
  fit : JFit J M
  area : J.area ≤ 1
  start8 : J.start % 8 = 0
  turn : J.turn < 18446744073709551616
  holds : ∀ t s, lookP f (baseN J J.area) (halfN J.words) = some (t, s) → t = J.turn
/-- What put makes of it. -/
structure Good (J : JD) (M : PM) (f : Nat → Nat) : Prop where
  clean : Clean M M.n f
  fit : JFit J M
  area : J.area ≤ 1
  start8 : J.start % 8 = 0
  turn : J.turn < 18446744073709551616
  holds : lookP f (baseN J J.area) (halfN J.words) = some (J.turn, J.text.data.toList)
  other : ∀ t s, lookP f (baseN J (1 - J.area)) (halfN J.words) = some (t, s) → newer J.turn t = true ∧ newer t J.turn = false
theorem Good.weak {J : JD} {M : PM} {f : Nat → Nat} (h : Good J M f) : Weak J M f :=
  ⟨h.clean, h.fit, h.area, h.start8, h.turn, fun t s e => by rw [h.holds] at e; injection e with e; injection e with e _; exact e.symm⟩
theorem Good.crash {J : JD} {M : PM} {f : Nat → Nat} (h : Good J M f) (k : Int) : Good J (M.crash k) f :=
  ⟨h.clean.crash k, ⟨h.fit.words, h.fit.start, h.fit.room⟩, h.area, h.start8, h.turn, h.holds, h.other⟩
def JD.other (J : JD) : Nat := baseN J (1 - J.area) / 8
theorem JD.other_base {J : JD} (h8 : J.start % 8 = 0) : baseN J (1 - J.area) = 8 * J.other := by
  unfold JD.other baseN
  have h1 : ((1 - J.area) * halfN J.words) % 8 = 0 := by
    unfold halfN
    rw [← Nat.mul_assoc]
    exact Nat.mul_mod_left ..
  omega
theorem put_good {J : JD} {M : PM} {f : Nat → Nat} (h : Weak J M f) (s : ByteArray) (hs : s.size ≤ 2 * J.words - 64) :
    Good (J.put s) (writeM J M s) (putF f J.other (turn1 J.turn) s.data.toList) ∧ (writeM J M s).n = M.n := by
  obtain ⟨T, hT⟩ : ∃ T, s.data.toList = T := ⟨_, rfl⟩
  have hsl : T.length = s.size := by rw [← hT]; simp
  have hw := h.fit.words
  have hb := JD.other_base (J := J) h.start8
  have hr := h.fit.room (1 - J.area) (by omega)
  have hr2 := h.fit.room J.area h.area
  obtain ⟨q, hq⟩ : ∃ q, J.other = q := ⟨_, rfl⟩
  rw [hq] at hb
  rw [hb] at hr
  obtain ⟨H, hH⟩ : ∃ H, halfN J.words = H := ⟨_, rfl⟩
  have hHb : 32 ≤ H ∧ 2 * H ≤ J.words ∧ J.words < 2 * H + 16 := by rw [← hH]; unfold halfN; omega
  rw [hH] at hr hr2
  have hLw := wordsT_pos T
  have ht1 : turn1 J.turn < 18446744073709551616 := by unfold turn1; omega
  have hcl := h.clean.put q (turn1 J.turn) T (by omega) (by omega) ht1 (by omega)
  have hM' : writeM J M s = putM M q (turn1 J.turn) T := by
    unfold writeM
    rw [hT]
    show putM M J.other (turn1 J.turn) T = _
    rw [hq]
  have hn : (putM M q (turn1 J.turn) T).n = M.n := hcl.clm.n
  rw [hM', hT, hq]
  have hbase : ∀ k, baseN (J.put s) k = baseN J k := fun k => rfl
  have ho : 1 - (1 - J.area) = J.area := by have := h.area; omega
  have hnew := newer_next J.turn h.turn
  have hother : lookP (putF f q (turn1 J.turn) T) (baseN J J.area) H = lookP f (baseN J J.area) H := by
    refine lookP_congr (by omega) fun i hi => putF_other f q _ T _ ?_
    have hba : ∀ k, baseN J k = J.start + k * H := fun k => by unfold baseN; rw [hH]
    rw [hba] at hb ⊢
    have : J.area = 0 ∨ J.area = 1 := by have := h.area; omega
    rcases this with e | e
    · rw [e] at hb ⊢
      simp at hb ⊢
      omega
    · rw [e] at hb ⊢
      simp at hb ⊢
      omega
  refine ⟨⟨by rw [hn]; exact hcl, ⟨h.fit.words, h.fit.start, fun k hk => by rw [hn]; exact h.fit.room k hk⟩, by show 1 - J.area ≤ 1; omega, h.start8, ht1, ?_, ?_⟩, hn⟩
  · show lookP (putF f q (turn1 J.turn) T) (baseN J (1 - J.area)) (halfN J.words) = some (turn1 J.turn, s.data.toList)
    rw [hb, hH, hT]
    exact look_put f q H (turn1 J.turn) T (by omega)
  · intro t u e
    have e2 : lookP (putF f q (turn1 J.turn) T) (baseN J (1 - (1 - J.area))) (halfN J.words) = some (t, u) := e
    rw [ho, hH, hother] at e2
    rw [← hH] at e2
    have := h.holds t u e2
    rw [this]
    exact hnew
theorem found_self {J : JD} : (jd0 J.start J.words 0).found J.area J.turn J.text.data.toList = J := by
  have : (⟨J.text.data.toList.toArray⟩ : ByteArray) = J.text := by apply ByteArray.ext; simp
  unfold JD.found
  rw [this]
  rfl
/-- Opened again it is found. -/
theorem open_good {J : JD} {M : PM} {f : Nat → Nat} (h : Good J M f) : openP M J.start J.words = (J, true) := by
  have hf := h.clean.words.2
  unfold openP
  rw [hf]
  show findN (lookP f (baseN J 1) (halfN J.words)) (findN (lookP f (baseN J 0) (halfN J.words)) (jd0 J.start J.words 0, false) 0) 1 = _
  have hs := found_self (J := J)
  have : J.area = 0 ∨ J.area = 1 := by have := h.area; omega
  rcases this with e | e
  · have h0 := h.holds
    have h1 := h.other
    rw [e] at h0 h1 hs
    rw [h0]
    have e0 : findN (some (J.turn, J.text.data.toList)) (jd0 J.start J.words 0, false) 0 = (J, true) := by
      show ((jd0 J.start J.words 0).found 0 J.turn J.text.data.toList, true) = _
      rw [hs]
    rw [e0]
    cases hx : lookP f (baseN J 1) (halfN J.words) with
    | none => rfl
    | some ts =>
      obtain ⟨t, s⟩ := ts
      have := (h1 t s hx).2
      unfold findN
      simp only [this]
      rfl
  · have h0 := h.holds
    have h1 := h.other
    rw [e] at h0 h1 hs
    rw [h0]
    cases hx : lookP f (baseN J 0) (halfN J.words) with
    | none =>
      show ((jd0 J.start J.words 0).found 1 J.turn J.text.data.toList, true) = _
      rw [hs]
    | some ts =>
      obtain ⟨t, s⟩ := ts
      have hn := (h1 t s hx).1
      have e1 : findN (some (t, s)) (jd0 J.start J.words 0, false) 0 = ((jd0 J.start J.words 0).found 0 t s, true) := rfl
      rw [e1]
      unfold findN
      have e2 : ((jd0 J.start J.words 0).found 0 t s).turn = t := rfl
      simp only [e2, hn]
      show (((jd0 J.start J.words 0).found 0 t s).found 1 J.turn J.text.data.toList, true) = _
      have e3 : ((jd0 J.start J.words 0).found 0 t s).found 1 J.turn J.text.data.toList = (jd0 J.start J.words 0).found 1 J.turn J.text.data.toList := rfl
      rw [e3, hs]
theorem findS_turn (f : Nat → Nat) (J : JD) (hf : ∀ j, f j < 18446744073709551616) (hJ : J.turn < 18446744073709551616) (k : Nat) : (findS f J k).1.turn < 18446744073709551616 := by
  induction k with
  | zero => exact hJ
  | succ k ih =>
    show (findN (lookP f (baseN J k) (halfN J.words)) (findS f J k) k).1.turn < _
    unfold findN
    split
    · exact ih
    · rename_i t s hx
      split
      · show t < _
        unfold lookP at hx
        split at hx
        · injection hx with hx
          injection hx with hx _
          rw [← hx]
          exact hf _
        · cases hx
      · exact ih
/-- What New finds, put may go on from. -/
theorem new_weak {M : PM} {f : Nat → Nat} {start words : Nat} (hc : Clean M M.n f) (hmay : mayB M.n start words = true) (hn : M.n ≤ 1024) : Weak (newJ M start words) M f := by
  obtain ⟨hfit, h8⟩ := may_fit hmay hn 1
  have hf := hc.words.2
  have hk := findS_keeps f (jd0 start words 1) 2
  unfold newJ
  rw [hf]
  refine ⟨hc, hfit.of_eq hk, findS_area f _ (by show 1 ≤ 1; omega) 2 (by omega), by rw [hk.1]; exact h8, findS_turn f _ hc.small (by show 0 < 18446744073709551616; omega) 2, fun t s => ?_⟩
  have hb : ∀ a, baseN (findS f (jd0 start words 1) 2).1 a = baseN (jd0 start words 1) a := fun a => by unfold baseN; rw [hk.1, hk.2]
  rw [hb, hk.2]
  show lookP f (baseN (jd0 start words 1) (findN (lookP f (baseN (jd0 start words 1) 1) (halfN words)) (findN (lookP f (baseN (jd0 start words 1) 0) (halfN words)) (jd0 start words 1, false) 0) 1).1.area) (halfN words) = some (t, s) →
    t = (findN (lookP f (baseN (jd0 start words 1) 1) (halfN words)) (findN (lookP f (baseN (jd0 start words 1) 0) (halfN words)) (jd0 start words 1, false) 0) 1).1.turn
  obtain ⟨g, hg⟩ : ∃ g : Nat → Option (Nat × List UInt8), (fun a => lookP f (baseN (jd0 start words 1) a) (halfN words)) = g := ⟨_, rfl⟩
  have hg' : ∀ a, lookP f (baseN (jd0 start words 1) a) (halfN words) = g a := fun a => by rw [← hg]
  rw [hg', hg', hg']
  cases h0 : g 0 with
  | none =>
    cases h1 : g 1 with
    | none =>
      show g 1 = some (t, s) → _
      rw [h1]
      intro e
      cases e
    | some ts =>
      obtain ⟨t1, s1⟩ := ts
      show g 1 = some (t, s) → t = t1
      rw [h1]
      intro e
      injection e with e
      injection e with e _
      exact e.symm
  | some ts =>
    obtain ⟨t0, s0⟩ := ts
    have e0 : findN (some (t0, s0)) (jd0 start words 1, false) 0 = ((jd0 start words 1).found 0 t0 s0, true) := rfl
    rw [e0]
    cases h1 : g 1 with
    | none =>
      show g 0 = some (t, s) → t = t0
      rw [h0]
      intro e
      injection e with e
      injection e with e _
      exact e.symm
    | some ts =>
      obtain ⟨t1, s1⟩ := ts
      unfold findN
      by_cases hnw : newer t1 t0 = true
      · have e2 : newer t1 ((jd0 start words 1).found 0 t0 s0).turn = true := hnw
        simp only [e2]
        show g 1 = some (t, s) → t = t1
        rw [h1]
        intro e
        injection e with e
        injection e with e _
        exact e.symm
      · have e2 : newer t1 ((jd0 start words 1).found 0 t0 s0).turn = false := by rw [Bool.eq_false_iff]; exact hnw
        simp only [e2]
        show g 0 = some (t, s) → t = t0
        rw [h0]
        intro e
        injection e with e
        injection e with e _
        exact e.symm
theorem new_good {M : PM} {f : Nat → Nat} {start words : Nat} (hc : Clean M M.n f) (hmay : mayB M.n start words = true) (hn : M.n ≤ 1024) :
    Good ((newJ M start words).put ByteArray.empty) (newM M start words) (putF f (newJ M start words).other (turn1 (newJ M start words).turn) []) ∧ (newM M start words).n = M.n :=
  put_good (new_weak hc hmay hn) ByteArray.empty (Nat.zero_le _)
end Go.Proofs.Ytbflennacniacaa
