/- Parts of the proof, side by side: Good, Deep, Deep2, Small. -/
import Derived.Test.YthhceopnnappgaaGreatDoorM17
import Derived.Test.YthhceopnnappgaaGreatDoorM05
set_option linter.unusedVariables false
set_option linter.unusedSimpArgs false
namespace Go.Proofs.YthhceopnnappgaaGreatDoor
structure Good (s : St) : Prop where
 m1 : 1 ≤ s.made.length
 m8 : s.made.length ≤ 8
 mr : ∀ m ∈ s.made, 0 ≤ m ∧ m ≤ 32
 root : ∃ x, s.inos[0]? = some x ∧ x.num = 1 ∧ x.dir = true
 rise : s.inos.Pairwise (fun a b => a.num < b.num)
 given : ∀ (i : Nat) (x : Ino), 0 < i → s.inos[i]? = some x → givenV s.made x.num = true
 dirs : ∀ x ∈ s.inos, x.dir = true → x.data.size = 0 ∧ entsV s.inos x.ents = true
 files : ∀ x ∈ s.inos, x.dir = false → x.ents = [] ∧ x.data.size ≤ 256
 opn : opensV s = true
 one : ∀ (i : Nat) (x : Ino), 0 < i → s.inos[i]? = some x → x.dir = true → linkI s.inos x.num = 1 ∧ Reach s.inos i
 has : ∀ (i : Nat) (x : Ino), s.inos[i]? = some x → x.dir = false → Reach s.inos i ∨ openB s.opn x.num = true
theorem madeG_iff : ∀ (l : List Int), madeG l = true ↔ ∀ m ∈ l, 0 ≤ m ∧ m ≤ 32
 | [] => by simp [madeG]
 | x :: xs => by
  unfold madeG
  split
  ·rename_i h
   constructor
   ·intro h2; cases h2
   ·intro h2
    have := h2 x List.mem_cons_self
    omega
  ·rename_i h
   rw [madeG_iff xs]
   constructor
   ·intro h2 m hm
    rcases List.mem_cons.1 hm with rfl | hm
    ·omega
    ·exact h2 m hm
   ·intro h2 m hm
    exact h2 m (List.mem_cons_of_mem _ hm)
theorem shapesM_iff (is : List Ino) : ∀ (xs : List Ino), shapesM is xs = true ↔ ∀ x ∈ xs, (x.dir = true → x.data.size = 0 ∧ entsV is x.ents = true) ∧ (x.dir = false → x.ents = [] ∧ x.data.size ≤ 256)
 | [] => by simp [shapesM]
 | x :: xs => by
  have ih := shapesM_iff is xs
  unfold shapesM
  rw [List.forall_mem_cons, ← ih]
  cases hd : x.dir
  ·rw [if_neg (by decide)]
   split
   ·rename_i h
    constructor
    ·intro h2; cases h2
    ·intro h2
     have := h2.1.2 rfl
     rcases h with h | h
     ·exact absurd this.1 h
     ·omega
   ·rename_i h
    constructor
    ·intro h2
     refine ⟨⟨(fun h => by cases h), fun _ => ⟨?_, ?_⟩⟩, h2⟩
     ·exact Classical.byContradiction fun h3 => h (.inl h3)
     ·exact Nat.le_of_not_lt fun h3 => h (.inr h3)
    ·intro h2; exact h2.2
  ·rw [if_pos rfl]
   split
   ·rename_i h
    constructor
    ·intro h2; cases h2
    ·intro h2
     have := h2.1.1 rfl
     rcases h with h | h
     ·exact absurd this.1 h
     ·rw [this.2] at h; cases h
   ·rename_i h
    constructor
    ·intro h2
     refine ⟨⟨fun _ => ⟨?_, ?_⟩, (fun h => by cases h)⟩, h2⟩
     ·exact Classical.byContradiction fun h3 => h (.inl h3)
     ·cases h4 : entsV is x.ents
      ·exact absurd (.inr h4) h
      ·rfl
    ·intro h2; exact h2.2
theorem numsM_of (made : List Int) : ∀ (xs : List Ino) (p : Int), (∀ x ∈ xs, p < x.num) → xs.Pairwise (fun a b => a.num < b.num) → (∀ x ∈ xs, givenV made x.num = true) → numsM made xs p = true
 | [], _, _, _, _ => rfl
 | x :: xs, p, h1, h2, h3 => by
  rw [List.pairwise_cons] at h2
  have hx := h1 x List.mem_cons_self
  have hg := h3 x List.mem_cons_self
  unfold numsM
  have ih := numsM_of made xs x.num h2.1 h2.2 (fun y hy => h3 y (List.mem_cons_of_mem _ hy))
  simp [ih, hg]
  try omega
theorem good_iff (s : St) : mayV s = true ↔ Good s := by
 have hsplit := inosG_split s s.inos none (reachV s.inos)
 constructor
 ·intro h
  unfold mayV at h
  simp only [Bool.and_eq_true, decide_eq_true_eq] at h
  obtain ⟨⟨⟨⟨⟨⟨h1, h8⟩, hroot⟩, hopn⟩, hmade⟩, hlen⟩, hinos⟩ := h
  rw [hsplit, Bool.and_eq_true, Bool.and_eq_true] at hinos
  obtain ⟨hn, hsh, hfin⟩ := hinos
  obtain ⟨is, op, md⟩ := s
  cases is with
  | nil => simp [rootB] at hroot
  | cons x xs =>
   simp only [rootB, Bool.and_eq_true, decide_eq_true_eq] at hroot
   have hn0 := hn
   rw [numsP_cons, Bool.and_eq_true] at hn
   obtain ⟨p1, p2, p3⟩ := nums_pair _ _ _ hn.2
   have hshape := (shapesM_iff _ _).1 hsh
   have hf := (finalR_iff _ _ _ _).1 hfin
   refine ⟨h1, h8, (madeG_iff _).1 hmade, ⟨x, rfl, hroot.1, hroot.2⟩, ?_, ?_, fun y hy hd => (hshape y hy).1 hd, fun y hy hd => (hshape y hy).2 hd, hopn, ?_, ?_⟩
   ·exact numsP_pair hn0
   ·intro i y hi hy
    cases i with
    | zero => omega
    | succ i => exact p3 y (List.mem_of_getElem? hy)
   ·intro i y hi hy hd
    have := (hf i y hy).1 (.inr hi) hd
    exact ⟨this.1, (reachV_iff _ _).1 this.2⟩
   ·intro i y hy hd
    rcases (hf i y hy).2 hd with h | h
    ·exact .inl ((reachV_iff _ _).1 h)
    ·exact .inr h
 ·intro h
  obtain ⟨is, op, md⟩ := s
  obtain ⟨x0, hx0, hn0, hd0⟩ := h.root
  cases is with
  | nil => simp at hx0
  | cons x xs =>
   have ex : x = x0 := by simpa using hx0
   subst ex
   have hrise := h.rise
   rw [List.pairwise_cons] at hrise
   have hnm : numsM md xs x.num = true := numsM_of md xs x.num hrise.1 hrise.2 (fun y hy => by
    obtain ⟨i, hi⟩ := List.getElem?_of_mem hy
    exact h.given (i + 1) y (by omega) hi)
   have hnp : numsP md none (x :: xs) = true := by
    rw [numsP_cons, hnm]
    simp [badNum]
   have hlen := nums_len md xs x.num ((madeG_iff _).2 h.mr) hnm (by rw [hn0]; decide)
   have hsh : shapesM (x :: xs) (x :: xs) = true := (shapesM_iff _ _).2 fun y hy => ⟨fun hd => h.dirs y hy hd, fun hd => h.files y hy hd⟩
   have hfin : finalR ⟨x :: xs, op, md⟩ (x :: xs) true (reachV (x :: xs)) = true := by
    rw [finalR_iff]
    intro i y hy
    refine ⟨fun hi hd => ?_, fun hd => ?_⟩
    ·have := h.one i y (by rcases hi with hi | hi; cases hi; exact hi) hy hd
     exact ⟨this.1, (reachV_iff _ _).2 this.2⟩
    ·rcases h.has i y hy hd with h3 | h3
     ·exact .inl ((reachV_iff _ _).2 h3)
     ·exact .inr h3
   unfold mayV
   simp only [Bool.and_eq_true, decide_eq_true_eq]
   refine ⟨⟨⟨⟨⟨⟨h.m1, h.m8⟩, ?_⟩, h.opn⟩, (madeG_iff _).2 h.mr⟩, ?_⟩, ?_⟩
   ·simp [rootB, hn0, hd0]
   ·rw [List.length_cons]; omega
   ·rw [hsplit, Bool.and_eq_true, Bool.and_eq_true]
    exact ⟨hnp, hsh, hfin⟩
inductive Lev (is : List Ino) : Nat → Nat → Prop where
 | root : Lev is 0 0
 | step {k i j : Nat} {x : Ino} {e : En} : Lev is k i → is[i]? = some x → x.dir = true → e ∈ x.ents → atV is e.num = (j : Int) → Lev is (k + 1) j
theorem entsG_ne1 (is : List Ino) : ∀ (es : List En) (p : Option ByteArray) (many : Nat → Nat), entsG is es p many = true → ∀ e ∈ es, e.num ≠ 1 ∧ 0 ≤ atV is e.num
 | [], _, _, _, e, he => by simp at he
 | y :: es, p, many, h, e, he => by
  unfold entsG at h
  split at h
  ·cases h
  ·rename_i h1
   split at h
   ·cases h
   ·rcases List.mem_cons.1 he with rfl | he
    ·unfold entBad at h1
     simp only [Bool.or_eq_true, decide_eq_true_eq, not_or] at h1
     exact ⟨h1.1.2, by omega⟩
    ·exact entsG_ne1 is es _ _ h e he
theorem linkE_one {es : List En} {e : En} (h : e ∈ es) : 1 ≤ linkE es e.num := by
 induction es with
 | nil => simp at h
 | cons y ys ih =>
  unfold linkE
  rcases List.mem_cons.1 h with rfl | h
  ·rw [if_pos rfl]; omega
  ·have := ih h; omega
theorem linkI_at : ∀ (is : List Ino) (i : Nat) (x : Ino) (num : Int), is[i]? = some x → x.dir = true → linkE x.ents num ≤ linkI is num
 | [], i, x, num, h, _ => by simp at h
 | y :: ys, 0, x, num, h, hd => by
  have : y = x := by simpa using h
  subst this
  unfold linkI
  rw [hd, if_pos rfl]
  omega
 | y :: ys, i + 1, x, num, h, hd => by
  have := linkI_at ys i x num (by simpa using h) hd
  unfold linkI
  omega
theorem linkI_two : ∀ (is : List Ino) (i j : Nat) (x y : Ino) (num : Int), i < j → is[i]? = some x → is[j]? = some y → x.dir = true → y.dir = true → linkE x.ents num + linkE y.ents num ≤ linkI is num
 | [], i, j, x, y, num, _, h, _, _, _ => by simp at h
 | z :: zs, 0, j + 1, x, y, num, _, h, h2, hd, hd2 => by
  have : z = x := by simpa using h
  subst this
  have := linkI_at zs j y num (by simpa using h2) hd2
  unfold linkI
  rw [hd, if_pos rfl]
  omega
 | z :: zs, i + 1, j + 1, x, y, num, hij, h, h2, hd, hd2 => by
  have := linkI_two zs i j x y num (by omega) (by simpa using h) (by simpa using h2) hd hd2
  unfold linkI
  omega
theorem Good.idx {s : St} (h : Good s) {i : Nat} {x : Ino} (hx : s.inos[i]? = some x) : atV s.inos x.num = (i : Int) := atV_of h.rise hx
theorem Good.parent {s : St} (h : Good s) {i j k : Nat} {x y z : Ino} {e e' : En} (hk : 0 < k) (hz : s.inos[k]? = some z) (hzd : z.dir = true) (hx : s.inos[i]? = some x) (hxd : x.dir = true) (he : e ∈ x.ents) (hen : e.num = z.num)
  (hy : s.inos[j]? = some y) (hyd : y.dir = true) (he' : e' ∈ y.ents) (hen' : e'.num = z.num) : i = j := by
 have h1 := (h.one k z hk hz hzd).1
 have a1 := linkE_one he
 have a2 := linkE_one he'
 rw [hen] at a1
 rw [hen'] at a2
 rcases Nat.lt_trichotomy i j with hij | hij | hij
 ·have := linkI_two _ i j x y z.num hij hx hy hxd hyd; omega
 ·exact hij
 ·have := linkI_two _ j i y x z.num hij hy hx hyd hxd; omega
theorem Good.ent {s : St} (h : Good s) {i : Nat} {x : Ino} {e : En} (hx : s.inos[i]? = some x) (hd : x.dir = true) (he : e ∈ x.ents) : ∃ (j : Nat) (y : Ino), 0 < j ∧ s.inos[j]? = some y ∧ y.num = e.num ∧ atV s.inos e.num = (j : Int) := by
 have h1 := (h.dirs x (List.mem_of_getElem? hx) hd).2
 obtain ⟨h2, h3⟩ := entsG_ne1 _ _ _ _ h1 e he
 rcases atV_cases s.inos e.num with ⟨h4, _⟩ | ⟨j, y, h4, h5, h6, _⟩
 ·omega
 ·refine ⟨j, y, ?_, h5, h6, h4⟩
  obtain ⟨r, hr, hrn, _⟩ := h.root
  rcases Nat.eq_zero_or_pos j with rfl | hj
  ·rw [hr] at h5
   cases h5
   omega
  ·exact hj
theorem Good.lev_zero {s : St} (h : Good s) {k : Nat} (hl : Lev s.inos k 0) : k = 0 := by
 cases hl with
 | root => rfl
 | step hl hx hd he hj =>
  obtain ⟨j, y, hj0, hy, hyn, hat⟩ := h.ent hx hd he
  rw [hat] at hj
  omega
theorem Good.lev_one {s : St} (h : Good s) : ∀ (k k' i : Nat) (z : Ino), s.inos[i]? = some z → z.dir = true → Lev s.inos k i → Lev s.inos k' i → k = k'
 | 0, k', i, z, hz, hzd, h1, h2 => by
  cases h1 with
  | root => exact (h.lev_zero h2).symm
 | k + 1, 0, i, z, hz, hzd, h1, h2 => by
  cases h2 with
  | root => exact h.lev_zero h1
 | k + 1, k' + 1, i, z, hz, hzd, h1, h2 => by
  cases h1 with
  | step g1 hx hd he hj =>
   cases h2 with
   | step g2 hx2 hd2 he2 hj2 =>
    obtain ⟨j1, y1, hp1, hy1, hn1, ha1⟩ := h.ent hx hd he
    obtain ⟨j2, y2, hp2, hy2, hn2, ha2⟩ := h.ent hx2 hd2 he2
    rw [ha1] at hj
    rw [ha2] at hj2
    have e1 : j1 = i := by omega
    have e2 : j2 = i := by omega
    subst e1
    subst e2
    rw [hz] at hy1 hy2
    cases hy1
    cases hy2
    have e := h.parent hp1 hz hzd hx hd he hn1.symm hx2 hd2 he2 hn2.symm
    subst e
    have := h.lev_one k k' _ _ hx hd g1 g2
    omega
theorem nodup_bound : ∀ (n : Nat) (l : List Nat), l.Nodup → (∀ x ∈ l, x < n) → l.length ≤ n
 | 0, [], _, _ => Nat.le_refl _
 | 0, x :: l, _, h => absurd (h x List.mem_cons_self) (by omega)
 | n + 1, l, hn, h => by
  by_cases hm : n ∈ l
  ·have h1 := List.length_erase_of_mem hm
   have h2 := nodup_bound n (l.erase n) (hn.erase n) (fun x hx => by
    have h3 := List.mem_of_mem_erase hx
    have h4 := h x h3
    have h5 : x ≠ n := fun e => by
     subst e
     exact (List.Nodup.not_mem_erase hn) hx
    omega)
   have : 0 < l.length := List.length_pos_of_mem hm
   omega
  ·have := nodup_bound n l hn (fun x hx => by
    have h4 := h x hx
    have h5 : x ≠ n := fun e => hm (e ▸ hx)
    omega)
   omega
theorem Deep.more {is : List Ino} : ∀ (n : Nat) (num : Int), Deep is n num → Deep is (n + 1) num
 | 0, num, h => absurd h (by intro h; exact h)
 | n + 1, num, h => fun x hx e he hd => Deep.more n e.num (h x hx e he hd)
theorem Deep.le {is : List Ino} {n m : Nat} {num : Int} (h : Deep is n num) (hm : n ≤ m) : Deep is m num := by
 induction m with
 | zero =>
  have : n = 0 := by omega
  subst this
  exact h
 | succ m ih =>
  by_cases e : n = m + 1
  ·subst e; exact h
  ·exact Deep.more _ _ (ih (by omega))
structure Way (s : St) (l : List Nat) (i : Nat) : Prop where
 nodup : l.Nodup
 lt : ∀ j ∈ l, j < s.inos.length
 lev : ∀ j ∈ l, ∃ a z, a < l.length ∧ Lev s.inos a j ∧ s.inos[j]? = some z ∧ z.dir = true
 last : ∃ k, k + 1 = l.length ∧ Lev s.inos k i
theorem Good.deep_way {s : St} (h : Good s) : ∀ (m : Nat) (l : List Nat) (i : Nat) (x : Ino), Way s l i → s.inos[i]? = some x → x.dir = true → m + l.length = s.inos.length + 1 → Deep s.inos m x.num
 | 0, l, i, x, hw, hx, hd, hm => by
  have := nodup_bound _ _ hw.nodup hw.lt
  omega
 | m + 1, l, i, x, hw, hx, hd, hm => by
  intro x' hx' e he hde
  rw [h.idx hx, inoAt_nat, hx] at hx'
  cases hx'
  obtain ⟨j, y, hj0, hy, hyn, hat⟩ := h.ent hx hd he
  obtain ⟨k, hk, hlk⟩ := hw.last
  have hyd : y.dir = true := by
   unfold dirAt at hde
   rw [hat, inoAt_nat, hy] at hde
   exact hde
  have hlj : Lev s.inos (k + 1) j := Lev.step hlk hx hd he hat
  have hnot : j ∉ l := fun hm2 => by
   obtain ⟨a, z, ha, hla, hz, hzd⟩ := hw.lev j hm2
   have := h.lev_one _ _ _ _ hz hzd hla hlj
   omega
  rw [← hyn]
  refine h.deep_way m (j :: l) j y ⟨List.nodup_cons.2 ⟨hnot, hw.nodup⟩, ?_, ?_, ⟨k + 1, by rw [List.length_cons]; omega, hlj⟩⟩ hy hyd (by rw [List.length_cons]; omega)
  ·intro q hq
   rcases List.mem_cons.1 hq with rfl | hq
   ·exact (List.getElem?_eq_some_iff.1 hy).1
   ·exact hw.lt q hq
  ·intro q hq
   rcases List.mem_cons.1 hq with rfl | hq
   ·exact ⟨k + 1, y, by rw [List.length_cons]; omega, hlj, hy, hyd⟩
   ·obtain ⟨a, z, ha, h2⟩ := hw.lev q hq
    exact ⟨a, z, by rw [List.length_cons]; omega, h2⟩
theorem Good.way {s : St} (h : Good s) : ∀ (k i : Nat) (x : Ino), Lev s.inos k i → s.inos[i]? = some x → x.dir = true → ∃ l, Way s l i ∧ l.length = k + 1 := by
 intro k i x hl
 induction hl generalizing x with
 | root =>
  intro hx hd
  refine ⟨[0], ⟨List.nodup_cons.2 ⟨by simp, List.nodup_nil⟩, ?_, ?_, ⟨0, rfl, Lev.root⟩⟩, rfl⟩
  ·intro j hj
   have : j = 0 := by simpa using hj
   subst this
   exact (List.getElem?_eq_some_iff.1 hx).1
  ·intro j hj
   have : j = 0 := by simpa using hj
   subst this
   exact ⟨0, x, by simp, Lev.root, hx, hd⟩
 | @step k' i' j' x' e' hl' hx' hd' he' hj' ih =>
  intro hx hd
  obtain ⟨l, hw, hlen⟩ := ih x' hx' hd'
  have hlj : Lev s.inos (k' + 1) j' := Lev.step hl' hx' hd' he' hj'
  have hnot : j' ∉ l := fun hm2 => by
   obtain ⟨a, z, ha, hla, hz, hzd⟩ := hw.lev j' hm2
   have := h.lev_one _ _ _ _ hz hzd hla hlj
   omega
  refine ⟨j' :: l, ⟨List.nodup_cons.2 ⟨hnot, hw.nodup⟩, ?_, ?_, ⟨k' + 1, by rw [List.length_cons]; omega, hlj⟩⟩, by rw [List.length_cons, hlen]⟩
  ·intro q hq
   rcases List.mem_cons.1 hq with rfl | hq
   ·exact (List.getElem?_eq_some_iff.1 hx).1
   ·exact hw.lt q hq
  ·intro q hq
   rcases List.mem_cons.1 hq with rfl | hq
   ·exact ⟨k' + 1, x, by rw [List.length_cons]; omega, hlj, hx, hd⟩
   ·obtain ⟨a, z, ha, h2⟩ := hw.lev q hq
    exact ⟨a, z, by rw [List.length_cons]; omega, h2⟩
theorem Good.root_at {s : St} (h : Good s) : atV s.inos 1 = ((0 : Nat) : Int) := by
 obtain ⟨r, hr, hrn, _⟩ := h.root
 have := h.idx hr
 rw [hrn] at this
 exact this
theorem Good.lev_of {s : St} (h : Good s) {i : Nat} (hr : Reach s.inos i) : ∃ k, Lev s.inos k i := by
 induction hr with
 | root k hk =>
  rw [h.root_at] at hk
  have : k = 0 := by omega
  subst this
  exact ⟨0, Lev.root⟩
 | step k j x e _ hx hd he hj ih =>
  obtain ⟨k', hk'⟩ := ih
  exact ⟨k' + 1, Lev.step hk' hx hd he hj⟩
theorem Good.deep {s : St} (h : Good s) (num : Int) (hd : dirAt s.inos num = true) : Deep s.inos (1 + s.inos.length) num := by
 unfold dirAt at hd
 rcases atV_cases s.inos num with ⟨h1, _⟩ | ⟨i, x, h1, hx, hxn, _⟩
 ·rw [h1] at hd
  simp [inoAt] at hd
 ·rw [h1, inoAt_nat, hx] at hd
  have hd2 : x.dir = true := hd
  have hr : Reach s.inos i := by
   rcases Nat.eq_zero_or_pos i with rfl | hi
   ·exact Reach.root 0 h.root_at
   ·exact (h.one i x hi hx hd2).2
  obtain ⟨k, hl⟩ := h.lev_of hr
  obtain ⟨l, hw, hlen⟩ := h.way k i x hl hx hd2
  have hle := nodup_bound _ _ hw.nodup hw.lt
  have := h.deep_way (s.inos.length + 1 - l.length) l i x hw hx hd2 (by omega)
  rw [hxn] at this
  exact this.le (by omega)
def sum8 (f : Nat → Nat) : Nat := f 0 + f 1 + f 2 + f 3 + f 4 + f 5 + f 6 + f 7
theorem sum8_add (f : Nat → Nat) (b : Nat) (hb : b < 8) : sum8 (fun q => if q = b then f q + 1 else f q) = sum8 f + 1 := by
 have : b = 0 ∨ b = 1 ∨ b = 2 ∨ b = 3 ∨ b = 4 ∨ b = 5 ∨ b = 6 ∨ b = 7 := by omega
 unfold sum8
 rcases this with rfl | rfl | rfl | rfl | rfl | rfl | rfl | rfl <;> simp <;> omega
theorem entsG_len (is : List Ino) : ∀ (es : List En) (p : Option ByteArray) (many : Nat → Nat), (∀ b, b < 8 → many b ≤ 4) → entsG is es p many = true → es.length + sum8 many ≤ 32
 | [], _, many, hm, _ => by
  have := hm 0 (by omega); have := hm 1 (by omega); have := hm 2 (by omega); have := hm 3 (by omega); have := hm 4 (by omega); have := hm 5 (by omega); have := hm 6 (by omega); have := hm 7 (by omega)
  unfold sum8
  simp
  omega
 | e :: es, p, many, hm, h => by
  unfold entsG at h
  split at h
  ·cases h
  ·split at h
   ·cases h
   ·rename_i h2
    have hb : bktB e.name < 8 := Nat.mod_lt _ (by omega)
    have ih := entsG_len is es _ _ (fun b hb8 => by
     show (if b = bktB e.name then many b + 1 else many b) ≤ 4
     split
     ·rename_i e9; subst e9; omega
     ·exact hm b hb8) h
    have h3 := sum8_add many (bktB e.name) hb
    rw [List.length_cons]
    have e4 : sum8 (fun b => if b = bktB e.name then many b + 1 else many b) = sum8 many + 1 := h3
    omega
theorem entsV_len {is : List Ino} {es : List En} (h : entsV is es = true) : es.length ≤ 32 := by
 have := entsG_len is es none _ (fun _ _ => by show 0 ≤ 4; omega) h
 omega
theorem opensG_len (is : List Ino) (n : Nat) : ∀ (ds : List Ds) (o : Ds), 0 ≤ o.core → 0 ≤ o.fd → o.fd < 4 → o.core < (n : Int) → opensG is n ds (some o) = true → (ds.length : Int) + o.core * 4 + o.fd + 1 ≤ 4 * n
 | [], o, h1, h2, h3, h4, _ => by simp; omega
 | d :: ds, o, h1, h2, h3, h4, h => by
  unfold opensG at h
  split at h
  ·cases h
  ·rename_i hb
   split at h
   ·cases h
   ·rename_i hp
    unfold dsBad at hb
    simp only [Bool.or_eq_true, decide_eq_true_eq, not_or] at hb
    unfold dsPrev at hp
    simp only [Bool.or_eq_true, Bool.and_eq_true, decide_eq_true_eq, not_or, not_and] at hp
    have ih := opensG_len is n ds d (by omega) (by omega) (by omega) (by omega) h
    have h9 : o.core * 4 + o.fd < d.core * 4 + d.fd := by
     by_cases e : o.core = d.core
     ·have := hp.2 e
      omega
     ·omega
    rw [List.length_cons]
    push_cast
    omega
theorem opensV_len {s : St} (h : opensV s = true) (h8 : s.made.length ≤ 8) : s.opn.length ≤ 32 := by
 unfold opensV at h
 cases ho : s.opn with
 | nil => simp
 | cons d ds =>
  rw [ho] at h
  unfold opensG at h
  split at h
  ·cases h
  ·rename_i hb
   split at h
   ·cases h
   ·unfold dsBad at hb
    simp only [Bool.or_eq_true, decide_eq_true_eq, not_or] at hb
    have := opensG_len s.inos s.made.length ds d (by omega) (by omega) (by omega) (by omega) h
    rw [List.length_cons]
    omega
theorem Good.len {s : St} (h : Good s) : s.inos.length ≤ 257 := by
 have h1 := (good_iff s).2 h
 unfold mayV at h1
 simp only [Bool.and_eq_true, decide_eq_true_eq] at h1
 exact h1.1.2
theorem Good.ents_len {s : St} (h : Good s) {x : Ino} (hx : x ∈ s.inos) : x.ents.length ≤ 32 := by
 cases hd : x.dir
 ·rw [(h.files x hx hd).1]; simp
 ·exact entsV_len (h.dirs x hx hd).2
theorem Good.opn_len {s : St} (h : Good s) : s.opn.length ≤ 32 := opensV_len h.opn h.m8
end Go.Proofs.YthhceopnnappgaaGreatDoor
