/- States whose texts are one are one. No program in sight. -/
import Derived.Test.YthhceopnnappgaaGreatDoorShP
import Derived.Test.YthhceopnnappgaaGreatDoorM05
set_option linter.unusedVariables false
set_option linter.unusedSimpArgs false
namespace Go.Proofs.YthhceopnnappgaaGreatDoor
open Go.Lib (decodeN)
/-! What bytes a name has. -/
theorem decodeN_low (n b0 b1 b2 b3 : Nat) : (b0 < 128 → decodeN n b0 b1 b2 b3 = (b0, 1)) ∧ (2 ≤ (decodeN n b0 b1 b2 b3).2 → b1 / 64 = 2) ∧ (3 ≤ (decodeN n b0 b1 b2 b3).2 → b2 / 64 = 2) ∧ (4 ≤ (decodeN n b0 b1 b2 b3).2 → b3 / 64 = 2) := by
 unfold decodeN
 refine ⟨fun h => by rw [if_pos h], ?_⟩
 repeat' split
 all_goals (simp only; omega)
def Plainly (b : UInt8) : Prop := b ≠ 47 ∧ 32 ≤ b.toNat
theorem decodeL_plainly (l : List UInt8) (hl : l ≠ []) (h : runeBad (decodeL l) = false) : ∀ b ∈ l.take (decodeL l).2, Plainly b := by
 have hn := decodeN_low l.length (l.getD 0 0).toNat (l.getD 1 0).toNat (l.getD 2 0).toNat (l.getD 3 0).toNat
 have hw := decodeL_width l
 intro b hb
 obtain ⟨j, hj, rfl⟩ := List.getElem_of_mem hb
 have hj1 : j < (decodeL l).2 ∧ j < l.length := by rw [List.length_take] at hj; omega
 rw [List.getElem_take]
 have hg : l[j]'hj1.2 = l.getD j 0 := by rw [List.getD_eq_getElem?_getD, List.getElem?_eq_getElem hj1.2]; rfl
 rw [hg]
 have hd : (decodeL l).2 = (decodeN l.length (l.getD 0 0).toNat (l.getD 1 0).toNat (l.getD 2 0).toNat (l.getD 3 0).toNat).2 := rfl
 have he : decodeL l = decodeN l.length (l.getD 0 0).toNat (l.getD 1 0).toNat (l.getD 2 0).toNat (l.getD 3 0).toNat := rfl
 rw [← hd, ← he] at hn
 have big : ∀ c : UInt8, 128 ≤ c.toNat → Plainly c := fun c hc => ⟨fun e => by rw [e] at hc; exact absurd hc (by decide), by omega⟩
 match j, hj1 with
 | 0, _ =>
  by_cases h0 : (l.getD 0 0).toNat < 128
  ·have := hn.1 h0
   rw [this] at h
   unfold runeBad at h
   simp only [Bool.or_eq_false_iff, beq_eq_false_iff_ne, decide_eq_false_iff_not] at h
   exact ⟨fun e => h.1.1.1 (by rw [e]; rfl), by omega⟩
  ·exact big _ (by omega)
 | 1, hj1 => exact big _ (by have := hn.2.1 (by omega); omega)
 | 2, hj1 => exact big _ (by have := hn.2.2.1 (by omega); omega)
 | 3, hj1 => exact big _ (by have := hn.2.2.2 (by omega); omega)
 | j + 4, hj1 => omega
theorem anyBad_plainly : ∀ (n : Nat) (l : List UInt8), l.length ≤ n → anyBad l = false → ∀ b ∈ l, Plainly b
 | 0, l, hl, _, b, hb => by
  have : l = [] := List.eq_nil_of_length_eq_zero (by omega)
  subst this
  cases hb
 | n + 1, l, hl, h, b, hb => by
  by_cases e : l = []
  ·subst e; cases hb
  ·have hw := decodeL_width l
   have hd : (l.drop (decodeL l).2).length = l.length - (decodeL l).2 := List.length_drop
   rw [anyBad_cons l e, Bool.or_eq_false_iff] at h
   have hs := decodeL_plainly l e h.1
   have hm : b ∈ l.take (decodeL l).2 ++ l.drop (decodeL l).2 := by rw [List.take_append_drop]; exact hb
   rcases List.mem_append.1 hm with hm | hm
   ·exact hs b hm
   ·exact anyBad_plainly n _ (by omega) h.2 b hm
def NameOk (l : List UInt8) : Prop := l ≠ [] ∧ ∀ b ∈ l, Plainly b
theorem chk_ok {n : ByteArray} (h : chkB n = 0) : NameOk n.data.toList := by
 unfold chkB checkL at h
 split at h
 ·omega
 ·split at h
  ·omega
  ·rename_i h1
   split at h
   ·omega
   ·rename_i hb
    exact ⟨fun e => h1 (.inl e), anyBad_plainly _ _ (Nat.le_refl _) (by simpa using hb)⟩
/-! Texts that are cut at a byte. -/
theorem span_eq (P : UInt8 → Prop) : ∀ (a b R R' : List UInt8), (∀ c ∈ a, P c) → (∀ c ∈ b, P c) → (∀ c t, R = c :: t → ¬ P c) → (∀ c t, R' = c :: t → ¬ P c) → a ++ R = b ++ R' → a = b ∧ R = R'
 | [], [], R, R', _, _, _, _, h => ⟨rfl, h⟩
 | [], y :: b, R, R', _, hb, hR, _, h => absurd (hb y (by simp)) (hR y (b ++ R') h)
 | x :: a, [], R, R', ha, _, _, hR', h => absurd (ha x (by simp)) (hR' x (a ++ R) h.symm)
 | x :: a, y :: b, R, R', ha, hb, hR, hR', h => by
  have h1 : x = y ∧ a ++ R = b ++ R' := by simpa using h
  have := span_eq P a b R R' (fun c hc => ha c (by simp [hc])) (fun c hc => hb c (by simp [hc])) hR hR' h1.2
  exact ⟨by rw [h1.1, this.1], this.2⟩
theorem cut_eq (s : UInt8) (a b R R' : List UInt8) (ha : ∀ c ∈ a, c ≠ s) (hb : ∀ c ∈ b, c ≠ s) (h : a ++ s :: R = b ++ s :: R') : a = b ∧ R = R' := by
 have := span_eq (fun c => c ≠ s) a b (s :: R) (s :: R') ha hb (fun c t e => by cases e; simp) (fun c t e => by cases e; simp) h
 exact ⟨this.1, by simpa using this.2⟩
theorem cutr_eq (s : UInt8) (a b u v : List UInt8) (hu : ∀ c ∈ u, c ≠ s) (hv : ∀ c ∈ v, c ≠ s) (h : a ++ s :: u = b ++ s :: v) : a = b ∧ u = v := by
 have h1 := congrArg List.reverse h
 simp only [List.reverse_append, List.reverse_cons, List.append_assoc] at h1
 have h2 := cut_eq s u.reverse v.reverse a.reverse b.reverse (fun c hc => hu c (List.mem_reverse.1 hc)) (fun c hc => hv c (List.mem_reverse.1 hc)) (by simpa using h1)
 exact ⟨List.reverse_inj.1 h2.2, List.reverse_inj.1 h2.1⟩
theorem flat_inj {α : Type} (f : α → List UInt8) (ok : α → Prop) (hd : UInt8 → Prop) (hinj : ∀ a b R R', ok a → ok b → f a ++ R = f b ++ R' → a = b ∧ R = R') (hhead : ∀ a, ok a → ∃ c t, f a = c :: t ∧ hd c) :
  ∀ (xs ys : List α) (T T' : List UInt8), (∀ a ∈ xs, ok a) → (∀ b ∈ ys, ok b) → (∀ c t, T = c :: t → ¬ hd c) → (∀ c t, T' = c :: t → ¬ hd c) → xs.flatMap f ++ T = ys.flatMap f ++ T' → xs = ys ∧ T = T'
 | [], [], T, T', _, _, _, _, h => ⟨rfl, by simpa using h⟩
 | [], b :: ys, T, T', _, hb, hT, _, h => by
  obtain ⟨c, t, e, hc⟩ := hhead b (hb b (by simp))
  simp only [List.flatMap_nil, List.flatMap_cons, e, List.nil_append, List.cons_append] at h
  exact absurd hc (hT _ _ h)
 | a :: xs, [], T, T', ha, _, _, hT', h => by
  obtain ⟨c, t, e, hc⟩ := hhead a (ha a (by simp))
  simp only [List.flatMap_nil, List.flatMap_cons, e, List.nil_append, List.cons_append] at h
  exact absurd hc (hT' _ _ h.symm)
 | a :: xs, b :: ys, T, T', ha, hb, hT, hT', h => by
  simp only [List.flatMap_cons, List.append_assoc] at h
  have h1 := hinj a b _ _ (ha a (by simp)) (hb b (by simp)) h
  have h2 := flat_inj f ok hd hinj hhead xs ys T T' (fun z hz => ha z (by simp [hz])) (fun z hz => hb z (by simp [hz])) hT hT' h1.2
  exact ⟨by rw [h1.1, h2.1], h2.2⟩
/-! Numbers and bytes as digits. -/
theorem digit_of {d : Nat} (h : d < 10) : (UInt8.ofNat (48 + d)).toNat = 48 + d := by
 rw [UInt8.toNat_ofNat']
 omega
theorem decDigits_all : ∀ (k u : Nat), u ≤ k → ∀ c ∈ Lib.decDigits u, 48 ≤ c.toNat ∧ c.toNat ≤ 57
 | k, u, hk, c, hc => by
  rw [Lib.decDigits_eq] at hc
  obtain ⟨t, _, rfl⟩ := List.mem_map.1 hc
  unfold Lib.dg
  rw [digit_of (Nat.mod_lt _ (by omega))]
  omega
theorem decN_all (n : Int) : ∀ c ∈ decN n, 48 ≤ c.toNat ∧ c.toNat ≤ 57 := decDigits_all _ _ (Nat.le_refl _)
theorem decN_ne (n : Int) (s : UInt8) (hs : s.toNat < 48 ∨ 57 < s.toNat) : ∀ c ∈ decN n, c ≠ s := fun c hc e => by
 have := decN_all n c hc
 rw [e] at this
 omega
theorem decDigits_inj : ∀ (k u v : Nat), u ≤ k → Lib.decDigits u = Lib.decDigits v → u = v
 | k, u, v, hk, h => by
  have hl := congrArg List.length h
  rw [Lib.decDigits_length, Lib.decDigits_length] at hl
  by_cases h1 : u < 10
  ·by_cases h2 : v < 10
   ·rw [Lib.decDigits_one h1, Lib.decDigits_one h2] at h
    have := congrArg UInt8.toNat (List.cons.inj h).1
    rw [digit_of h1, digit_of h2] at this
    omega
   ·rw [Lib.nDigits_small h1, Lib.nDigits_big h2] at hl
    have := Lib.nDigits_pos (v / 10)
    omega
  ·by_cases h2 : v < 10
   ·rw [Lib.nDigits_small h2, Lib.nDigits_big h1] at hl
    have := Lib.nDigits_pos (u / 10)
    omega
   ·have eu : ∀ w : Nat, ¬ w < 10 → Lib.decDigits w = Lib.decDigits (w / 10) ++ [UInt8.ofNat (48 + w % 10)] := fun w hw => by rw [Lib.decDigits, dif_neg hw]
    rw [eu u h1, eu v h2] at h
    have h3 := List.append_inj' h rfl
    match k, hk with
    | 0, hk => omega
    | k + 1, hk =>
     have h4 := decDigits_inj k (u / 10) (v / 10) (by omega) h3.1
     have h5 := congrArg UInt8.toNat (List.cons.inj h3.2).1
     rw [digit_of (Nat.mod_lt _ (by omega)), digit_of (Nat.mod_lt _ (by omega))] at h5
     omega
theorem decN_inj {m n : Int} (hm : 0 ≤ m) (hn : 0 ≤ n) (h : decN m = decN n) : m = n := by
 have := decDigits_inj _ _ _ (Nat.le_refl _) h
 omega
theorem hexD_val (n : Nat) (h : n < 16) : (hexD n).toNat = if n < 10 then 48 + n else 87 + n := by
 unfold hexD
 split
 ·rw [UInt8.toNat_ofNat']; omega
 ·rw [UInt8.toNat_ofNat']; omega
theorem hexD_all (n : Nat) (h : n < 16) : 48 ≤ (hexD n).toNat ∧ (hexD n).toNat ≤ 102 := by
 rw [hexD_val n h]
 split <;> omega
theorem hexL_all : ∀ (l : List UInt8), ∀ c ∈ hexL l, 45 ≤ c.toNat ∧ c.toNat ≤ 102
 | [], c, hc => by cases hc
 | b :: bs, c, hc => by
  have hb : b.toNat < 256 := UInt8.toNat_lt b
  simp only [hexL, List.mem_cons] at hc
  rcases hc with rfl | rfl | hc
  ·have := hexD_all (b.toNat / 16) (by omega); omega
  ·have := hexD_all (b.toNat % 16) (by omega); omega
  ·exact hexL_all bs c hc
theorem hexT_all (l : List UInt8) : ∀ c ∈ hexT l, 45 ≤ c.toNat ∧ c.toNat ≤ 102 := by
 unfold hexT
 split
 ·intro c hc
  have : c = 45 := by simpa using hc
  subst this
  decide
 ·exact hexL_all l
theorem hexT_ne (l : List UInt8) (s : UInt8) (hs : s.toNat < 45) : ∀ c ∈ hexT l, c ≠ s := fun c hc e => by
 have := hexT_all l c hc
 rw [e] at this
 omega
theorem hexD_inj {m n : Nat} (hm : m < 16) (hn : n < 16) (h : hexD m = hexD n) : m = n := by
 have := congrArg UInt8.toNat h
 rw [hexD_val m hm, hexD_val n hn] at this
 split at this <;> split at this <;> omega
theorem hexL_inj : ∀ (l m : List UInt8), hexL l = hexL m → l = m
 | [], [], _ => rfl
 | [], b :: m, h => by cases h
 | a :: l, [], h => by cases h
 | a :: l, b :: m, h => by
  have ha : a.toNat < 256 := UInt8.toNat_lt a
  have hb : b.toNat < 256 := UInt8.toNat_lt b
  simp only [hexL, List.cons.injEq] at h
  have h1 := hexD_inj (by omega) (by omega) h.1
  have h2 := hexD_inj (by omega) (by omega) h.2.1
  have h3 : a = b := UInt8.toNat_inj.1 (by omega)
  rw [h3, hexL_inj l m h.2.2]
theorem hexT_inj {l m : List UInt8} (h : hexT l = hexT m) : l = m := by
 unfold hexT at h
 have hl : ∀ x : List UInt8, x ≠ [] → hexL x ≠ [45] := fun x hx e => by
  have := congrArg List.length e
  rw [hexL_len] at this
  simp at this
  omega
 by_cases h1 : l = []
 ·by_cases h2 : m = []
  ·rw [h1, h2]
  ·rw [if_pos h1, if_neg h2] at h
   exact absurd h.symm (hl m h2)
 ·by_cases h2 : m = []
  ·rw [if_neg h1, if_pos h2] at h
   exact absurd h (hl l h1)
  ·rw [if_neg h1, if_neg h2] at h
   exact hexL_inj l m h
/-! Paths. -/
def pathT (p : List (List UInt8)) : List UInt8 := p.flatMap (fun n => 47 :: n)
theorem pathT_inj : ∀ (p q : List (List UInt8)), (∀ n ∈ p, NameOk n) → (∀ n ∈ q, NameOk n) → pathT p = pathT q → p = q
 | [], [], _, _, _ => rfl
 | [], n :: q, _, _, h => by cases h
 | n :: p, [], _, _, h => by cases h
 | n :: p, m :: q, hp, hq, h => by
  unfold pathT at h
  simp only [List.flatMap_cons, List.cons_append, List.cons.injEq, true_and] at h
  have hd : ∀ (r : List (List UInt8)) (c : UInt8) (t : List UInt8), r.flatMap (fun n => (47 : UInt8) :: n) = c :: t → ¬ c ≠ 47 := fun r c t e => by
   cases r with
   | nil => cases e
   | cons x r =>
    simp only [List.flatMap_cons, List.cons_append, List.cons.injEq] at e
    simp [e.1]
  have h1 := span_eq (fun c => c ≠ 47) n m _ _ (fun c hc => ((hp n (by simp)).2 c hc).1) (fun c hc => ((hq m (by simp)).2 c hc).1) (hd p) (hd q) h
  rw [h1.1, pathT_inj p q (fun x hx => hp x (by simp [hx])) (fun x hx => hq x (by simp [hx])) h1.2]
theorem shown_inj {p q : List (List UInt8)} (hp : ∀ n ∈ p, NameOk n) (hq : ∀ n ∈ q, NameOk n) (h : shownL (pathT p) = shownL (pathT q)) : p = q := by
 have key : ∀ r : List (List UInt8), (∀ n ∈ r, NameOk n) → pathT r ≠ [47] := fun r hr e => by
  cases r with
  | nil => cases e
  | cons n r =>
   unfold pathT at e
   simp only [List.flatMap_cons, List.cons_append, List.cons.injEq, true_and, List.append_eq_nil_iff] at e
   exact (hr n (by simp)).1 e.1
 unfold shownL at h
 by_cases h1 : pathT p = []
 ·by_cases h2 : pathT q = []
  ·exact pathT_inj p q hp hq (by rw [h1, h2])
  ·rw [if_pos h1, if_neg h2] at h
   exact absurd h.symm (key q hq)
 ·by_cases h2 : pathT q = []
  ·rw [if_neg h1, if_pos h2] at h
   exact absurd h (key p hp)
  ·rw [if_neg h1, if_neg h2] at h
   exact pathT_inj p q hp hq h
theorem path_no10 {p : List (List UInt8)} (hp : ∀ n ∈ p, NameOk n) : ∀ c ∈ shownL (pathT p), c ≠ 10 := by
 have h1 : ∀ c ∈ pathT p, c ≠ 10 := fun c hc e => by
  unfold pathT at hc
  obtain ⟨n, hn, hc⟩ := List.mem_flatMap.1 hc
  rcases List.mem_cons.1 hc with h | h
  ·rw [e] at h; exact absurd h (by decide)
  ·have := ((hp n hn).2 c h).2
   rw [e] at this
   exact absurd this (by decide)
 unfold shownL
 split
 ·intro c hc
  have : c = 47 := by simpa using hc
  rw [this]
  decide
 ·exact h1
end Go.Proofs.YthhceopnnappgaaGreatDoor
