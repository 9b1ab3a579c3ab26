/- A journal on a memory without a fuse: what put makes of it. -/
import Derived.Test.YtbflennacniacaaJoBytes
import Derived.Test.YtbflennacniacaaPmCalm
namespace Go.Proofs.Ytbflennacniacaa
set_option linter.unusedVariables false
structure Clm (M : PM) (n : Nat) (S L : Nat → Int) (W : Nat → Option (Nat → Int)) : Prop where
  calm : M.calm
  n : M.n = n
  seen : M.seen = S
  lasts : M.lasts = L
  way : M.way = W
theorem Clm.store {M : PM} {n : Nat} {S L : Nat → Int} {W : Nat → Option (Nat → Int)} (h : Clm M n S L W) (k : Nat) (v : Int) (hk : k < n * 8) : Clm (M.store k v) n (updI S k v) L W := by
  have hn := h.n
  have e := store_calm h.calm k v (by rw [hn]; exact hk)
  refine ⟨h.calm.store _ _, by rw [PM.store_n]; exact hn, ?_, ?_, ?_⟩
  · rw [e, ← h.seen]; rfl
  · rw [e]; exact h.lasts
  · rw [e]; exact h.way
theorem Clm.flush {M : PM} {n : Nat} {S L : Nat → Int} {W : Nat → Option (Nat → Int)} (h : Clm M n S L W) (q : Nat) (hq : q < n) : Clm (M.flush q) n S L (fun i => if i = q then some (lineOf S q) else W i) := by
  have hn := h.n
  have e := flush_calm h.calm q (by rw [hn]; exact hq)
  refine ⟨h.calm.flush _, by rw [PM.flush_n]; exact hn, ?_, ?_, ?_⟩
  · rw [e]; exact h.seen
  · rw [e]; exact h.lasts
  · rw [e, ← h.seen, ← h.way]; rfl
theorem Clm.flushes {M : PM} {n : Nat} {S L : Nat → Int} (h : Clm M n S L fun _ => none) (q m : Nat) (hq : q + m ≤ n) : Clm (flushL M q m) n S L (fun i => if q ≤ i ∧ i < q + m then some (lineOf S i) else none) := by
  induction m with
  | zero =>
    have e : (fun i => if q ≤ i ∧ i < q + 0 then some (lineOf S i) else none) = fun _ => (none : Option (Nat → Int)) := by funext i; rw [if_neg (by omega)]
    rw [e]
    exact h
  | succ m ih =>
    have h2 := (ih (by omega)).flush (q + m) (by omega)
    have e : (fun i => if i = q + m then some (lineOf S (q + m)) else if q ≤ i ∧ i < q + m then some (lineOf S i) else none) = fun i => if q ≤ i ∧ i < q + (m + 1) then some (lineOf S i) else none := by
      funext i
      by_cases c : i = q + m
      · subst c
        rw [if_pos rfl, if_pos ⟨by omega, by omega⟩]
      · rw [if_neg c]
        have : (q ≤ i ∧ i < q + m) ↔ (q ≤ i ∧ i < q + (m + 1)) := by omega
        simp only [this]
    rw [e] at h2
    exact h2
theorem Clm.flushP {M : PM} {n : Nat} {S L : Nat → Int} (h : Clm M n S L fun _ => none) (q cnt : Nat) (hq : q + (cnt + 7) / 8 ≤ n) :
    Clm (flushP M q cnt) n S (fun j => if q ≤ j / 8 ∧ j / 8 < q + (cnt + 7) / 8 then S j else L j) fun _ => none := by
  have h2 := h.flushes q ((cnt + 7) / 8) hq
  unfold Go.Proofs.Ytbflennacniacaa.flushP
  have e := fence_calm h2.calm
  refine ⟨h2.calm.fence, by rw [PM.fence_n]; exact h2.n, ?_, ?_, ?_⟩
  · rw [e]; exact h2.seen
  · rw [e]
    funext j
    show lastsL (flushL M q ((cnt + 7) / 8)).stepped (fun _ => false) j = _
    unfold lastsL
    rw [show (flushL M q ((cnt + 7) / 8)).stepped.way = (flushL M q ((cnt + 7) / 8)).way from rfl, h2.way, show (flushL M q ((cnt + 7) / 8)).stepped.lasts = (flushL M q ((cnt + 7) / 8)).lasts from rfl, h2.lasts]
    by_cases c : q ≤ j / 8 ∧ j / 8 < q + (cnt + 7) / 8
    · simp only [if_pos c]
      show S (j / 8 * 8 + j % 8) = S j
      rw [show j / 8 * 8 + j % 8 = j from by omega]
    · simp only [if_neg c]
  · rw [e]; rfl
def runS (S : Nat → Int) (b m : Nat) (v : Nat → Int) : Nat → Int := fun j => if b ≤ j ∧ j < b + m then v (j - b) else S j
theorem runS_succ (S : Nat → Int) (b m : Nat) (v : Nat → Int) : updI (runS S b m v) (b + m) (v m) = runS S b (m + 1) v := by
  funext j
  unfold updI runS
  by_cases c : j = b + m
  · subst c
    rw [if_pos rfl, if_pos ⟨by omega, by omega⟩, Nat.add_sub_cancel_left]
  · rw [if_neg c]
    have : (b ≤ j ∧ j < b + m) ↔ (b ≤ j ∧ j < b + (m + 1)) := by omega
    simp only [this]
theorem runS_zero (S : Nat → Int) (b : Nat) (v : Nat → Int) : runS S b 0 v = S := by
  funext j
  unfold runS
  rw [if_neg (by omega)]
theorem Clm.stT {M : PM} {n : Nat} {S L : Nat → Int} {W : Nat → Option (Nat → Int)} (h : Clm M n S L W) (b : Nat) (s : List UInt8) (m : Nat) (hm : b + m ≤ n * 8) : Clm (stT M b s m) n (runS S b m fun i => ((wordN s (8 * i) : Nat) : Int)) L W := by
  induction m with
  | zero => rw [runS_zero]; exact h
  | succ m ih =>
    have h2 := (ih (by omega)).store (b + m) ((wordN s (8 * m) : Nat) : Int) (by omega)
    rw [runS_succ S b m (fun i => ((wordN s (8 * i) : Nat) : Int))] at h2
    exact h2
theorem Clm.stH {M : PM} {n : Nat} {S L : Nat → Int} {W : Nat → Option (Nat → Int)} (h : Clm M n S L W) (b : Nat) (xs : List Nat) (m : Nat) (hm : b + m ≤ n * 8) : Clm (stH M b xs m) n (runS S b m fun i => ((xs.getD i 0 : Nat) : Int)) L W := by
  induction m with
  | zero => rw [runS_zero]; exact h
  | succ m ih =>
    have h2 := (ih (by omega)).store (b + m) ((xs.getD m 0 : Nat) : Int) (by omega)
    rw [runS_succ S b m (fun i => ((xs.getD i 0 : Nat) : Int))] at h2
    exact h2
/-- A memory without a fuse, all of whose words last; its words are f. -/
structure Clean (M : PM) (n : Nat) (f : Nat → Nat) : Prop where
  clm : Clm M n (fun j => (f j : Int)) (fun j => (f j : Int)) fun _ => none
  small : ∀ j, f j < 18446744073709551616
theorem Clean.words {M : PM} {n : Nat} {f : Nat → Nat} (h : Clean M n f) : Words M.seen ∧ seenN M = f := by
  have e := h.clm.seen
  refine ⟨fun i => ?_, ?_⟩
  · rw [e]
    have := h.small i
    constructor
    · exact Int.natCast_nonneg _
    · show ((f i : Nat) : Int) < 18446744073709551616
      omega
  · funext i
    unfold seenN
    rw [e]
    rfl
theorem Clean.fresh (n : Nat) : Clean (PM.fresh n) n fun _ => 0 := ⟨⟨calm_fresh n, rfl, rfl, rfl, rfl⟩, fun _ => by omega⟩
theorem sameW_self (f : Nat → Int) (a : Nat) : sameW (lineOf f a) (lineOf f a) = true := (sameW_iff _ _).2 fun _ _ => rfl
theorem crashI_same_all (f : Nat → Int) (keep : Int) (a : Nat) : crashI f keep f a = (0, f) := by
  induction a with
  | zero => rfl
  | succ a ih => exact crashI_same (by rw [ih]) (by rw [ih]) (sameW_self f a)
theorem Clean.crash {M : PM} {n : Nat} {f : Nat → Nat} (h : Clean M n f) (k : Int) : Clean (M.crash k) n f := by
  have hw : M.was = M.seen := by unfold PM.was; rw [h.clm.calm.2]
  have hl : M.lasts = M.seen := by rw [h.clm.lasts, h.clm.seen]
  have hc : (crashI M.was k M.lasts M.n).2 = fun j => (f j : Int) := by rw [hw, hl, crashI_same_all, h.clm.seen]
  refine ⟨⟨⟨by show (-1 : Int) < 0; omega, rfl⟩, h.clm.n, hc, hc, rfl⟩, h.small⟩
theorem wordsT_pos (s : List UInt8) : s.length ≤ 8 * wordsOfText s ∧ 8 * wordsOfText s < s.length + 8 := by unfold wordsOfText; omega
theorem Clean.put {M : PM} {n : Nat} {f : Nat → Nat} (h : Clean M n f) (q turn : Nat) (s : List UInt8) (hq : 8 * q + 8 + wordsOfText s ≤ n * 8) (hq2 : q < n) (ht : turn < 18446744073709551616) (hs : s.length ≤ 65536) : Clean (putM M q turn s) n (putF f q turn s) := by
  obtain ⟨L, hL⟩ : ∃ L, wordsOfText s = L := ⟨_, rfl⟩
  have h1 := h.clm.stT (8 * q + 8) s L (by omega)
  obtain ⟨S1, hS1⟩ : ∃ S1, runS (fun j => (f j : Int)) (8 * q + 8) L (fun i => ((wordN s (8 * i) : Nat) : Int)) = S1 := ⟨_, rfl⟩
  rw [hS1] at h1
  have h2 := h1.flushP (q + 1) L (by omega)
  have e2 : (fun j => if q + 1 ≤ j / 8 ∧ j / 8 < q + 1 + (L + 7) / 8 then S1 j else (f j : Int)) = S1 := by
    funext j
    by_cases c : q + 1 ≤ j / 8 ∧ j / 8 < q + 1 + (L + 7) / 8
    · rw [if_pos c]
    · rw [if_neg c, ← hS1]
      unfold runS
      rw [if_neg (by omega)]
  rw [e2] at h2
  have h3 := h2.stH (8 * q) (head5 turn s) 5 (by omega)
  obtain ⟨S2, hS2⟩ : ∃ S2, runS S1 (8 * q) 5 (fun i => (((head5 turn s).getD i 0 : Nat) : Int)) = S2 := ⟨_, rfl⟩
  rw [hS2] at h3
  have h4 := h3.flushP q 8 (by omega)
  have e4 : (fun j => if q ≤ j / 8 ∧ j / 8 < q + (8 + 7) / 8 then S2 j else S1 j) = S2 := by
    funext j
    by_cases c : q ≤ j / 8 ∧ j / 8 < q + (8 + 7) / 8
    · rw [if_pos c]
    · rw [if_neg c, ← hS2]
      unfold runS
      rw [if_neg (by omega)]
  rw [e4] at h4
  have e5 : S2 = fun j => ((putF f q turn s j : Nat) : Int) := by
    funext j
    rw [← hS2, ← hS1]
    unfold runS putF
    rw [hL]
    by_cases c : 8 * q ≤ j ∧ j < 8 * q + 5
    · rw [if_pos c, if_pos c]
    · rw [if_neg c, if_neg c]
      by_cases d : 8 * q + 8 ≤ j ∧ j < 8 * q + 8 + L
      · rw [if_pos d, if_pos d]
      · rw [if_neg d, if_neg d]
  rw [e5] at h4
  refine ⟨?_, fun j => ?_⟩
  · unfold putM
    rw [hL]
    exact h4
  · unfold putF
    split
    · rename_i c
      obtain ⟨g0, g1, g2, g3, g4⟩ := head5_at turn s
      obtain ⟨i, hi, hj⟩ : ∃ i, j - 8 * q = i ∧ i < 5 := ⟨_, rfl, by omega⟩
      rw [hi]
      have : i = 0 ∨ i = 1 ∨ i = 2 ∨ i = 3 ∨ i = 4 := by omega
      rcases this with e | e | e | e | e <;> subst e
      · rw [g0]; unfold magicN; omega
      · rw [g1]; exact ht
      · rw [g2]; omega
      · rw [g3]; exact sumN_lt64 _
      · rw [g4]; exact sumN_lt64 _
    · split
      · exact wordN_lt _ _
      · exact h.small j
/-- Words elsewhere stay. -/
theorem putF_other (f : Nat → Nat) (q turn : Nat) (s : List UInt8) (j : Nat) (h : j < 8 * q ∨ 8 * q + 8 + wordsOfText s ≤ j) : putF f q turn s j = f j := by
  unfold putF
  rw [if_neg (by omega), if_neg (by omega)]
end Go.Proofs.Ytbflennacniacaa
