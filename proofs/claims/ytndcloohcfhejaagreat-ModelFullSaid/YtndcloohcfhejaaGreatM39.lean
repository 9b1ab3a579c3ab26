/- Parts of the proof, side by side: GdN, GdOps. -/
import Derived.Test.YtndcloohcfhejaaGreatM31
import Derived.Test.YtndcloohcfhejaaGreatM22
set_option linter.unusedVariables false
set_option linter.unusedSimpArgs false
namespace Go.Proofs.YtndcloohcfhejaaGreat
inductive Rn (is : List Ino) : Int → Prop where
 | root : Rn is 1
 | step {x : Ino} {e : En} : Rn is x.num → x ∈ is → x.dir = true → e ∈ x.ents → Rn is e.num
structure EntsOk (is : List Ino) (es : List En) : Prop where
 each : ∀ e ∈ es, chkB e.name = 0 ∧ e.num ≠ 1 ∧ ∃ y ∈ is, y.num = e.num
 rise : RiseE es
 bkt : ∀ b, bktE es b ≤ 4
theorem atV_ge {is : List Ino} {n : Int} : 0 ≤ atV is n ↔ ∃ y ∈ is, y.num = n := by
 rcases atV_cases is n with ⟨h1, h2⟩ | ⟨k, x, h1, h2, h3, _⟩
 ·constructor
  ·intro h; omega
  ·rintro ⟨y, hy, hn⟩; exact absurd hn (h2 y hy)
 ·constructor
  ·intro _; exact ⟨x, List.mem_of_getElem? h2, h3⟩
  ·intro _; omega
theorem entsG_each (is : List Ino) : ∀ (es : List En) (p : Option ByteArray) (many : Nat → Nat), entsG is es p many = true → (∀ e ∈ es, chkB e.name = 0 ∧ e.num ≠ 1 ∧ ∃ y ∈ is, y.num = e.num) ∧ ∀ b, many b ≤ 4 → many b + bktE es b ≤ 4
 | [], p, many, h => ⟨by simp, fun b hb => by simpa [bktE] using hb⟩
 | e :: es, p, many, h => by
  unfold entsG at h
  by_cases h1 : entBad is p e = true
  ·rw [if_pos h1] at h; cases h
  ·rw [if_neg h1] at h
   by_cases h2 : 4 < many (bktB e.name) + 1
   ·rw [if_pos h2] at h; cases h
   ·rw [if_neg h2] at h
    obtain ⟨r1, r2⟩ := entsG_each is es _ _ h
    have hb : chkB e.name = 0 ∧ e.num ≠ 1 ∧ 0 ≤ atV is e.num := by
     unfold entBad at h1
     simp only [Bool.or_eq_true, decide_eq_true_eq, not_or] at h1
     obtain ⟨⟨⟨a1, _⟩, a2⟩, a3⟩ := h1
     exact ⟨by omega, a2, by omega⟩
    refine ⟨fun x hx => ?_, fun b hb4 => ?_⟩
    ·rcases List.mem_cons.1 hx with rfl | hx
     ·exact ⟨hb.1, hb.2.1, atV_ge.1 hb.2.2⟩
     ·exact r1 x hx
    ·have h3 := r2 b
     unfold bktE
     by_cases hbb : b = bktB e.name
     ·rw [if_pos hbb] at h3
      rw [if_pos hbb.symm]
      have := h3 (by rw [hbb]; omega)
      omega
     ·rw [if_neg hbb] at h3
      rw [if_neg (fun e2 => hbb e2.symm)]
      have := h3 hb4
      omega
theorem entsG_of (is : List Ino) : ∀ (es : List En) (p : Option ByteArray) (many : Nat → Nat), (∀ e ∈ es, chkB e.name = 0 ∧ e.num ≠ 1 ∧ ∃ y ∈ is, y.num = e.num) → RiseE es → (∀ q x, p = some q → es[0]? = some x → ltN q x.name = true) → (∀ b, bktE es b = 0 ∨ many b + bktE es b ≤ 4) → entsG is es p many = true
 | [], p, many, _, _, _, _ => rfl
 | e :: es, p, many, h1, h2, h3, h4 => by
  have he := h1 e (by simp)
  have hb := h4 (bktB e.name)
  have hbe : bktE (e :: es) (bktB e.name) = 1 + bktE es (bktB e.name) := by
   show (if bktB e.name = bktB e.name then 1 else 0) + bktE es (bktB e.name) = _
   rw [if_pos rfl]
  have hbad : entBad is p e = false := by
   have ha := atV_ge.2 he.2.2
   unfold entBad
   rw [Bool.or_eq_false_iff, Bool.or_eq_false_iff, Bool.or_eq_false_iff]
   refine ⟨⟨⟨?_, ?_⟩, ?_⟩, ?_⟩
   ·rw [decide_eq_false_iff_not]; intro h; exact h he.1
   ·cases p with
    | none => rfl
    | some q =>
     have := h3 q e rfl rfl
     simp [this]
   ·rw [decide_eq_false_iff_not]; exact he.2.1
   ·rw [decide_eq_false_iff_not]; omega
  unfold entsG
  rw [if_neg (by rw [hbad]; decide), if_neg (by omega)]
  refine entsG_of is es _ _ (fun x hx => h1 x (by simp [hx])) h2.tail (fun q x hq hx => ?_) (fun b => ?_)
  ·cases hq
   exact h2 0 1 e x (by omega) rfl (by simpa using hx)
  ·have hbb := h4 b
   have hbs : bktE (e :: es) b = (if bktB e.name = b then 1 else 0) + bktE es b := rfl
   by_cases hq : b = bktB e.name
   ·rw [if_pos hq]
    rw [hbs, if_pos hq.symm] at hbb
    omega
   ·rw [if_neg hq]
    rw [hbs, if_neg (fun e2 => hq e2.symm)] at hbb
    omega
theorem entsV_iff {is : List Ino} {es : List En} : entsV is es = true ↔ EntsOk is es := by
 constructor
 ·intro h
  obtain ⟨h1, h2⟩ := entsG_each is es _ _ h
  exact ⟨h1, (entsG_rise is es _ _ h).1, fun b => by have := h2 b (by omega); omega⟩
 ·intro h
  exact entsG_of is es _ _ h.each h.rise (fun q x hq => by cases hq) (fun b => .inr (by have := h.bkt b; omega))
theorem opensG_of (is : List Ino) (n : Nat) : ∀ (ds : List Ds) (p : Option Ds), (∀ d ∈ ds, dsBad is n d = false) → RiseD ds → (∀ q x, p = some q → ds[0]? = some x → ltD q x) → opensG is n ds p = true
 | [], p, _, _, _ => rfl
 | d :: ds, p, h1, h2, h3 => by
  have hp : dsPrev p d = false := by
   cases p with
   | none => rfl
   | some q =>
    have := h3 q d rfl rfl
    unfold ltD at this
    simp only [dsPrev, Bool.or_eq_false_iff, Bool.and_eq_false_iff, decide_eq_false_iff_not]
    omega
  unfold opensG
  rw [if_neg (by rw [h1 d (by simp)]; decide), if_neg (by rw [hp]; decide)]
  refine opensG_of is n ds _ (fun x hx => h1 x (by simp [hx])) (fun i j x y hij hx hy => h2 (i + 1) (j + 1) x y (by omega) (by simpa using hx) (by simpa using hy)) (fun q x hq hx => ?_)
  cases hq
  exact h2 0 1 d x (by omega) rfl (by simpa using hx)
structure Frm (s : St) : Prop where
 m1 : 1 ≤ s.made.length
 m8 : s.made.length ≤ 8
 mr : ∀ m ∈ s.made, 0 ≤ m ∧ m ≤ 32
 rise : RiseI s.inos
 root : ∃ x ∈ s.inos, x.num = 1 ∧ x.dir = true
 given : ∀ x ∈ s.inos, x.num ≠ 1 → givenV s.made x.num = true
 dirs : ∀ x ∈ s.inos, x.dir = true → x.data.size = 0 ∧ EntsOk s.inos x.ents
 files : ∀ x ∈ s.inos, x.dir = false → x.ents = [] ∧ x.data.size ≤ 256
 opn : ∀ d ∈ s.opn, 0 ≤ d.core ∧ d.core < (s.made.length : Int) ∧ 0 ≤ d.fd ∧ d.fd < 4 ∧ ∃ y ∈ s.inos, y.num = d.num ∧ y.dir = false
 riseD : RiseD s.opn
structure Had (s : St) : Prop where
 one : ∀ x ∈ s.inos, x.num ≠ 1 → x.dir = true → linkI s.inos x.num = 1 ∧ Rn s.inos x.num
 has : ∀ x ∈ s.inos, x.dir = false → Rn s.inos x.num ∨ openB s.opn x.num = true
theorem given_pos {made : List Int} {n : Int} (h : givenV made n = true) : 2 ≤ n := by
 unfold givenV at h
 by_cases h2 : n < 2
 ·rw [if_pos h2] at h; cases h
 ·omega
theorem RiseI.one {is : List Ino} (h : RiseI is) {x y : Ino} (hx : x ∈ is) (hy : y ∈ is) (hn : x.num = y.num) : x = y := by
 obtain ⟨i, hi⟩ := List.getElem?_of_mem hx
 obtain ⟨j, hj⟩ := List.getElem?_of_mem hy
 rcases Nat.lt_trichotomy i j with h1 | h1 | h1
 ·have := h i j x y h1 hi hj; omega
 ·subst h1
  rw [hi] at hj
  exact Option.some.inj hj
 ·have := h j i y x h1 hj hi; omega
theorem Reach.num {is : List Ino} (hr : RiseI is) {k : Nat} (h : Reach is k) : ∃ x, is[k]? = some x ∧ Rn is x.num := by
 induction h with
 | root k hk =>
  rcases atV_cases is 1 with ⟨h1, _⟩ | ⟨j, x, h1, h2, h3, _⟩
  ·omega
  ·have : j = k := by omega
   subst this
   exact ⟨x, h2, by rw [h3]; exact .root⟩
 | step k j x e hk hx hd he hat ih =>
  obtain ⟨x', hx', hrn⟩ := ih
  rw [hx] at hx'
  cases hx'
  rcases atV_cases is e.num with ⟨h1, _⟩ | ⟨i, y, h1, h2, h3, _⟩
  ·omega
  ·have : i = j := by omega
   subst this
   exact ⟨y, h2, by rw [h3]; exact .step hrn (List.mem_of_getElem? hx) hd he⟩
theorem Rn.place {is : List Ino} (hr : RiseI is) (h1 : ∃ x ∈ is, x.num = 1 ∧ x.dir = true) (hw : ∀ x ∈ is, x.dir = true → ∀ e ∈ x.ents, ∃ y ∈ is, y.num = e.num) {n : Int} (h : Rn is n) : ∃ (k : Nat) (x : Ino), is[k]? = some x ∧ x.num = n ∧ Reach is k := by
 induction h with
 | root =>
  obtain ⟨x, hx, hn, _⟩ := h1
  obtain ⟨k, hk⟩ := List.getElem?_of_mem hx
  exact ⟨k, x, hk, hn, .root k (atV_of_rise hr hk hn)⟩
 | step hrn hx hd he ih =>
  rename_i x e
  obtain ⟨k, z, hz, hzn, hzr⟩ := ih
  have : z = x := hr.one (List.mem_of_getElem? hz) hx hzn
  subst this
  obtain ⟨y, hy, hyn⟩ := hw z hx hd e he
  obtain ⟨j, hj⟩ := List.getElem?_of_mem hy
  exact ⟨j, y, hj, hyn, .step k j z e hzr hz hd he (atV_of_rise hr hj hyn)⟩
theorem Good.frm {s : St} (h : Good s) : Frm s ∧ Had s := by
 obtain ⟨r, hr, hrn, hrd⟩ := h.root
 have hri := h.riseI
 have hidx : ∀ x ∈ s.inos, x.num ≠ 1 → ∃ i, 0 < i ∧ s.inos[i]? = some x := fun x hx hn => by
  obtain ⟨i, hi⟩ := List.getElem?_of_mem hx
  rcases Nat.eq_zero_or_pos i with rfl | hp
  ·rw [hr] at hi
   cases hi
   exact absurd hrn hn
  ·exact ⟨i, hp, hi⟩
 refine ⟨⟨h.m1, h.m8, h.mr, hri, ⟨r, List.mem_of_getElem? hr, hrn, hrd⟩, ?_, fun x hx hd => ⟨(h.dirs x hx hd).1, entsV_iff.1 (h.dirs x hx hd).2⟩, h.files, ?_, h.riseD⟩, ?_, ?_⟩
 ·intro x hx hn
  obtain ⟨i, hi, hi2⟩ := hidx x hx hn
  exact h.given i x hi hi2
 ·intro d hd
  obtain ⟨a1, a2, a3, a4, i, x, _, a5, a6, a7⟩ := h.opens d hd
  exact ⟨a1, a2, a3, a4, x, List.mem_of_getElem? a5, a6, a7⟩
 ·intro x hx hn hd
  obtain ⟨i, hi, hi2⟩ := hidx x hx hn
  obtain ⟨h1, h2⟩ := h.one i x hi hi2 hd
  obtain ⟨y, hy, hyr⟩ := h2.num hri
  rw [hi2] at hy
  cases hy
  exact ⟨h1, hyr⟩
 ·intro x hx hd
  obtain ⟨i, hi⟩ := List.getElem?_of_mem hx
  rcases h.has i x hi hd with h2 | h2
  ·obtain ⟨y, hy, hyr⟩ := h2.num hri
   rw [hi] at hy
   cases hy
   exact .inl hyr
  ·exact .inr h2
theorem Frm.good {s : St} (h : Frm s) (g : Had s) : Good s := by
 have hi0 : ∃ x, s.inos[0]? = some x ∧ x.num = 1 ∧ x.dir = true := by
  obtain ⟨x, hx, hn, hd⟩ := h.root
  obtain ⟨i, hi⟩ := List.getElem?_of_mem hx
  rcases Nat.eq_zero_or_pos i with rfl | hp
  ·exact ⟨x, hi, hn, hd⟩
  ·exfalso
   have hl : 0 < s.inos.length := by have := (List.getElem?_eq_some_iff.1 hi).1; omega
   have h0 := List.getElem?_eq_getElem hl
   have h1 := h.rise 0 i _ x hp h0 hi
   have h2 := given_pos (h.given _ (List.mem_of_getElem? h0) (by omega))
   omega
 have hne : ∀ (i : Nat) (x : Ino), 0 < i → s.inos[i]? = some x → x.num ≠ 1 := fun i x hi hx hn => by
  obtain ⟨r, hr, hrn, _⟩ := hi0
  have := h.rise 0 i r x hi hr hx
  omega
 have hw : ∀ x ∈ s.inos, x.dir = true → ∀ e ∈ x.ents, ∃ y ∈ s.inos, y.num = e.num := fun x hx hd e he => ((h.dirs x hx hd).2.each e he).2.2
 have hpl : ∀ {i : Nat} {x : Ino}, s.inos[i]? = some x → Rn s.inos x.num → Reach s.inos i := fun {i x} hx hrn => by
  obtain ⟨k, y, hy, hyn, hyr⟩ := hrn.place h.rise h.root hw
  have : k = i := by
   rcases Nat.lt_trichotomy k i with h1 | h1 | h1
   ·have := h.rise k i y x h1 hy hx; omega
   ·exact h1
   ·have := h.rise i k x y h1 hx hy; omega
  subst this
  exact hyr
 refine ⟨h.m1, h.m8, h.mr, hi0, ?_, fun i x hi hx => h.given x (List.mem_of_getElem? hx) (hne i x hi hx), fun x hx hd => ⟨(h.dirs x hx hd).1, entsV_iff.2 (h.dirs x hx hd).2⟩, h.files, ?_, ?_, ?_⟩
 ·rw [List.pairwise_iff_getElem]
  intro i j hi hj hij
  exact h.rise i j _ _ hij (List.getElem?_eq_getElem hi) (List.getElem?_eq_getElem hj)
 ·refine opensG_of _ _ _ _ (fun d hd => ?_) h.riseD (fun q x hq => by cases hq)
  obtain ⟨a1, a2, a3, a4, y, hy, hyn, hyd⟩ := h.opn d hd
  obtain ⟨j, hj⟩ := List.getElem?_of_mem hy
  have hat := atV_of_rise h.rise hj hyn
  unfold dsBad
  simp only [Bool.or_eq_false_iff, decide_eq_false_iff_not]
  refine ⟨⟨⟨⟨by omega, by omega⟩, by omega⟩, by omega⟩, ?_⟩
  rw [hat, inoAt_nat, hj]
  exact hyd
 ·intro i x hi hx hd
  obtain ⟨h1, h2⟩ := g.one x (List.mem_of_getElem? hx) (hne i x hi hx) hd
  exact ⟨h1, hpl hx h2⟩
 ·intro i x hx hd
  rcases g.has x (List.mem_of_getElem? hx) hd with h2 | h2
  ·exact .inl (hpl hx h2)
  ·exact .inr h2
def modN (is : List Ino) (n : Int) (f : List En → List En) : List Ino := is.map fun x => if x.num = n then { x with ents := f x.ents } else x
theorem mem_modN {is : List Ino} {n : Int} {f : List En → List En} {z : Ino} : z ∈ modN is n f ↔ ∃ x ∈ is, (x.num = n ∧ z = { x with ents := f x.ents }) ∨ (x.num ≠ n ∧ z = x) := by
 unfold modN
 rw [List.mem_map]
 constructor
 ·rintro ⟨x, hx, rfl⟩
  by_cases h : x.num = n
  ·exact ⟨x, hx, .inl ⟨h, by rw [if_pos h]⟩⟩
  ·exact ⟨x, hx, .inr ⟨h, by rw [if_neg h]⟩⟩
 ·rintro ⟨x, hx, ⟨h, rfl⟩ | ⟨h, rfl⟩⟩
  ·exact ⟨x, hx, by rw [if_pos h]⟩
  ·exact ⟨z, hx, by rw [if_neg h]⟩
theorem setEnts_modN {is : List Ino} (hr : RiseI is) {x : Ino} {n : Int} (hx : x ∈ is) (hn : x.num = n) (f : List En → List En) : setEnts is n f = modN is n f := by
 obtain ⟨i, hi⟩ := List.getElem?_of_mem hx
 have hat := atV_of_rise hr hi hn
 unfold setEnts modN
 rw [hat, Int.toNat_natCast, modify_set _ _ _ _ hi]
 apply List.ext_getElem?
 intro j
 rw [List.getElem?_set, List.getElem?_map]
 have hl := (List.getElem?_eq_some_iff.1 hi).1
 by_cases e : i = j
 ·subst e
  rw [if_pos rfl, if_pos hl, hi]
  simp [hn]
 ·rw [if_neg e]
  cases hj : is[j]? with
  | none => rfl
  | some y =>
   have hne : y.num ≠ n := fun h => by
    have := atV_of_rise hr hj h
    omega
   simp [hne]
theorem rise_modN {is : List Ino} (hr : RiseI is) (n : Int) (f : List En → List En) : RiseI (modN is n f) := by
 have key : ∀ (j : Nat) (z : Ino), (modN is n f)[j]? = some z → ∃ x, is[j]? = some x ∧ z.num = x.num := by
  intro j z hz
  unfold modN at hz
  rw [List.getElem?_map] at hz
  obtain ⟨x, hx, rfl⟩ := Option.map_eq_some_iff.1 hz
  exact ⟨x, hx, by split <;> rfl⟩
 intro i j a b hij ha hb
 obtain ⟨x, hx, h1⟩ := key i a ha
 obtain ⟨y, hy, h2⟩ := key j b hb
 rw [h1, h2]
 exact hr i j x y hij hx hy
theorem linkI_modN {is : List Ino} (hr : RiseI is) {x : Ino} {n : Int} (hx : x ∈ is) (hn : x.num = n) (hd : x.dir = true) (f : List En → List En) (m : Int) : linkI (modN is n f) m + linkE x.ents m = linkI is m + linkE (f x.ents) m := by
 obtain ⟨i, hi⟩ := List.getElem?_of_mem hx
 have h1 := linkI_set is i x { x with ents := f x.ents } m hi
 rw [← setEnts_modN hr hx hn]
 unfold setEnts
 rw [atV_of_rise hr hi hn, Int.toNat_natCast, modify_set _ _ _ _ hi]
 rw [if_pos hd, if_pos (show ({ x with ents := f x.ents } : Ino).dir = true from hd)] at h1
 exact h1
theorem linkE_put : ∀ (es : List En) (nm : ByteArray) (num m : Int), linkE (putE es nm num) m = linkE es m + (if num = m then 1 else 0)
 | [], nm, num, m => by simp [putE, linkE]
 | e :: es, nm, num, m => by
  unfold putE
  split
  ·show (if num = m then 1 else 0) + linkE (e :: es) m = _
   omega
  ·show (if e.num = m then 1 else 0) + linkE (putE es nm num) m = (if e.num = m then 1 else 0) + linkE es m + _
   rw [linkE_put es nm num m]
   omega
theorem bktE_put : ∀ (es : List En) (nm : ByteArray) (num : Int) (b : Nat), bktE (putE es nm num) b = bktE es b + (if bktB nm = b then 1 else 0)
 | [], nm, num, b => by simp [putE, bktE]
 | e :: es, nm, num, b => by
  unfold putE
  split
  ·show (if bktB nm = b then 1 else 0) + bktE (e :: es) b = _
   omega
  ·show (if bktB e.name = b then 1 else 0) + bktE (putE es nm num) b = (if bktB e.name = b then 1 else 0) + bktE es b + _
   rw [bktE_put es nm num b]
   omega
theorem riseE_iff {es : List En} : RiseE es ↔ es.Pairwise fun x y => ltN x.name y.name = true := by
 constructor
 ·intro h
  rw [List.pairwise_iff_getElem]
  intro i j hi hj hij
  exact h i j _ _ hij (List.getElem?_eq_getElem hi) (List.getElem?_eq_getElem hj)
 ·intro h i j x y hij hx hy
  obtain ⟨hi, rfl⟩ := List.getElem?_eq_some_iff.1 hx
  obtain ⟨hj, rfl⟩ := List.getElem?_eq_some_iff.1 hy
  exact List.pairwise_iff_getElem.1 h i j hi hj hij
theorem riseI_iff {is : List Ino} : RiseI is ↔ is.Pairwise fun x y => x.num < y.num := by
 constructor
 ·intro h
  rw [List.pairwise_iff_getElem]
  intro i j hi hj hij
  exact h i j _ _ hij (List.getElem?_eq_getElem hi) (List.getElem?_eq_getElem hj)
 ·intro h i j x y hij hx hy
  obtain ⟨hi, rfl⟩ := List.getElem?_eq_some_iff.1 hx
  obtain ⟨hj, rfl⟩ := List.getElem?_eq_some_iff.1 hy
  exact List.pairwise_iff_getElem.1 h i j hi hj hij
theorem riseE_put : ∀ (es : List En) (nm : ByteArray) (num : Int), es.Pairwise (fun x y => ltN x.name y.name = true) → (∀ e ∈ es, e.name ≠ nm) → (putE es nm num).Pairwise fun x y => ltN x.name y.name = true
 | [], nm, num, _, _ => by simp [putE]
 | e :: es, nm, num, h, hn => by
  rw [List.pairwise_cons] at h
  unfold putE
  split
  ·rename_i h1
   rw [List.pairwise_cons, List.pairwise_cons]
   refine ⟨fun y hy => ?_, h.1, h.2⟩
   rcases List.mem_cons.1 hy with rfl | hy
   ·exact h1
   ·exact ltN_trans h1 (h.1 y hy)
  ·rename_i h1
   rw [List.pairwise_cons]
   refine ⟨fun y hy => ?_, riseE_put es nm num h.2 (fun x hx => hn x (by simp [hx]))⟩
   rcases putE_mem es nm num y hy with hy | rfl
   ·exact h.1 y hy
   ·show ltN e.name nm = true
    cases h2 : ltN e.name nm
    ·exact absurd (ltN_tri h2 (by simpa using h1)) (hn e (by simp))
    ·rfl
theorem mem_putI : ∀ (is : List Ino) (y z : Ino), z ∈ putI is y ↔ z = y ∨ z ∈ is
 | [], y, z => by simp [putI]
 | x :: xs, y, z => by
  unfold putI
  split
  ·simp
  ·rw [List.mem_cons, mem_putI xs y z, List.mem_cons]
   constructor
   ·rintro (h | h | h)
    ·exact .inr (.inl h)
    ·exact .inl h
    ·exact .inr (.inr h)
   ·rintro (h | h | h)
    ·exact .inr (.inl h)
    ·exact .inl h
    ·exact .inr (.inr h)
theorem mem_putE : ∀ (es : List En) (nm : ByteArray) (num : Int) (z : En), z ∈ putE es nm num ↔ z = ⟨nm, num⟩ ∨ z ∈ es
 | [], nm, num, z => by simp [putE]
 | x :: xs, nm, num, z => by
  unfold putE
  split
  ·simp
  ·rw [List.mem_cons, mem_putE xs nm num z, List.mem_cons]
   constructor
   ·rintro (h | h | h)
    ·exact .inr (.inl h)
    ·exact .inl h
    ·exact .inr (.inr h)
   ·rintro (h | h | h)
    ·exact .inr (.inl h)
    ·exact .inl h
    ·exact .inr (.inr h)
theorem dropI_subl : ∀ (is : List Ino) (n : Int), (dropI is n).Sublist is
 | [], _ => List.Sublist.refl _
 | e :: es, n => by
  unfold dropI
  split
  ·exact (dropI_subl es n).cons _
  ·exact (dropI_subl es n).cons_cons _
theorem riseI_put : ∀ (is : List Ino) (y : Ino), is.Pairwise (fun x y => x.num < y.num) → (∀ x ∈ is, x.num ≠ y.num) → (putI is y).Pairwise fun x y => x.num < y.num
 | [], y, _, _ => by simp [putI]
 | e :: es, y, h, hn => by
  rw [List.pairwise_cons] at h
  unfold putI
  split
  ·rename_i h1
   rw [List.pairwise_cons, List.pairwise_cons]
   refine ⟨fun z hz => ?_, h.1, h.2⟩
   rcases List.mem_cons.1 hz with rfl | hz
   ·exact h1
   ·have := h.1 z hz; omega
  ·rename_i h1
   rw [List.pairwise_cons]
   refine ⟨fun z hz => ?_, riseI_put es y h.2 (fun x hx => hn x (by simp [hx]))⟩
   rcases (mem_putI es y z).1 hz with rfl | hz
   ·have := hn e (by simp); omega
   ·exact h.1 z hz
theorem linkI_put : ∀ (is : List Ino) (y : Ino) (m : Int), y.ents = [] → linkI (putI is y) m = linkI is m
 | [], y, m, h => by simp [putI, linkI, h, linkE]
 | x :: xs, y, m, h => by
  unfold putI
  split
  ·show (if y.dir then linkE y.ents m else 0) + linkI (x :: xs) m = _
   rw [h]
   split <;> simp [linkE]
  ·show (if x.dir then linkE x.ents m else 0) + linkI (putI xs y) m = (if x.dir then linkE x.ents m else 0) + linkI xs m
   rw [linkI_put xs y m h]
theorem linkE_zero : ∀ (es : List En) (n : Int), linkE es n = 0 ↔ ∀ e ∈ es, e.num ≠ n
 | [], n => by simp [linkE]
 | e :: es, n => by
  unfold linkE
  rw [List.forall_mem_cons, ← linkE_zero es n]
  by_cases h : e.num = n
  ·rw [if_pos h]
   constructor
   ·intro h2; omega
   ·intro h2; exact absurd h h2.1
  ·rw [if_neg h]
   constructor
   ·intro h2; exact ⟨h, by omega⟩
   ·intro h2; omega
theorem linkI_zero : ∀ (is : List Ino) (n : Int), linkI is n = 0 ↔ ∀ x ∈ is, x.dir = true → ∀ e ∈ x.ents, e.num ≠ n
 | [], n => by simp [linkI]
 | x :: xs, n => by
  unfold linkI
  rw [List.forall_mem_cons, ← linkI_zero xs n, ← linkE_zero]
  cases hd : x.dir
  ·simp
  ·simp
theorem bktE_none : ∀ (es : List En) (nm but : ByteArray), (∀ e ∈ es, e.name ≠ but) → fullE es nm but = bktE es (bktB nm)
 | [], _, _, _ => rfl
 | e :: es, nm, but, h => by
  have h1 := h e (by simp)
  show (if e.name ≠ but ∧ bktB e.name = bktB nm then 1 else 0) + fullE es nm but = (if bktB e.name = bktB nm then 1 else 0) + bktE es (bktB nm)
  rw [bktE_none es nm but (fun x hx => h x (by simp [hx]))]
  by_cases h2 : bktB e.name = bktB nm
  ·rw [if_pos ⟨h1, h2⟩, if_pos h2]
  ·rw [if_neg (fun h3 => h2 h3.2), if_neg h2]
theorem Rn.mono {is js : List Ino} (h : ∀ x ∈ is, x.dir = true → ∃ x' ∈ js, x'.num = x.num ∧ x'.dir = true ∧ ∀ e ∈ x.ents, e ∈ x'.ents) {n : Int} (hr : Rn is n) : Rn js n := by
 induction hr with
 | root => exact .root
 | step _ hx hd he ih =>
  obtain ⟨x', h1, h2, h3, h4⟩ := h _ hx hd
  exact .step (by rw [h2]; exact ih) h1 h3 (h4 _ he)
theorem EntsOk.to {is js : List Ino} {es : List En} (h : EntsOk is es) (hn : ∀ e ∈ es, (∃ y ∈ is, y.num = e.num) → ∃ y ∈ js, y.num = e.num) : EntsOk js es := ⟨fun e he => ⟨(h.each e he).1, (h.each e he).2.1, hn e he (h.each e he).2.2⟩, h.rise, h.bkt⟩
theorem EntsOk.put {is : List Ino} {es : List En} (h : EntsOk is es) {nm : ByteArray} {num : Int} (hno : ∀ e ∈ es, e.name ≠ nm) (hc : chkB nm = 0) (hb : bktE es (bktB nm) < 4) (h1 : num ≠ 1) (hy : ∃ y ∈ is, y.num = num) : EntsOk is (putE es nm num) := by
 refine ⟨fun e he => ?_, riseE_iff.2 (riseE_put es nm num (riseE_iff.1 h.rise) hno), fun b => ?_⟩
 ·rcases (mem_putE es nm num e).1 he with rfl | he
  ·exact ⟨hc, h1, hy⟩
  ·exact h.each e he
 ·rw [bktE_put]
  have := h.bkt b
  split
  ·rename_i h2
   subst h2
   omega
  ·omega
theorem Had.dir {s : St} (h : Had s) {x : Ino} (hx : x ∈ s.inos) (hd : x.dir = true) : Rn s.inos x.num := by
 by_cases h1 : x.num = 1
 ·rw [h1]; exact .root
 ·exact (h.one x hx h1 hd).2
theorem Frm.modN {s : St} (h : Frm s) {x : Ino} {n : Int} (hx : x ∈ s.inos) (hn : x.num = n) (hd : x.dir = true) {f : List En → List En} (hf : EntsOk s.inos (f x.ents)) : Frm { s with inos := modN s.inos n f } := by
 have fwd : ∀ y ∈ s.inos, ∃ z ∈ Go.Proofs.YtndcloohcfhejaaGreat.modN s.inos n f, z.num = y.num ∧ z.dir = y.dir := fun y hy => by
  by_cases e : y.num = n
  ·exact ⟨_, mem_modN.2 ⟨y, hy, .inl ⟨e, rfl⟩⟩, rfl, rfl⟩
  ·exact ⟨y, mem_modN.2 ⟨y, hy, .inr ⟨e, rfl⟩⟩, rfl, rfl⟩
 have num : ∀ k : Int, (∃ y ∈ s.inos, y.num = k) → ∃ y ∈ Go.Proofs.YtndcloohcfhejaaGreat.modN s.inos n f, y.num = k := fun k ⟨y, hy, hk⟩ => by
  obtain ⟨z, hz, h1, _⟩ := fwd y hy
  exact ⟨z, hz, by omega⟩
 refine ⟨h.m1, h.m8, h.mr, rise_modN h.rise n f, ?_, ?_, ?_, ?_, ?_, h.riseD⟩
 ·obtain ⟨r, hr, h1, h2⟩ := h.root
  obtain ⟨z, hz, h3, h4⟩ := fwd r hr
  exact ⟨z, hz, by omega, by rw [h4]; exact h2⟩
 ·intro z hz hne
  obtain ⟨y, hy, ⟨_, rfl⟩ | ⟨_, rfl⟩⟩ := mem_modN.1 hz
  ·exact h.given y hy hne
  ·exact h.given z hy hne
 ·intro z hz hzd
  obtain ⟨y, hy, ⟨e, rfl⟩ | ⟨_, rfl⟩⟩ := mem_modN.1 hz
  ·have : y = x := h.rise.one hy hx (by omega)
   subst this
   exact ⟨(h.dirs y hy hd).1, hf.to fun e _ => num _⟩
  ·exact ⟨(h.dirs z hy hzd).1, (h.dirs z hy hzd).2.to fun e _ => num _⟩
 ·intro z hz hzd
  obtain ⟨y, hy, ⟨e, rfl⟩ | ⟨_, rfl⟩⟩ := mem_modN.1 hz
  ·have : y = x := h.rise.one hy hx (by omega)
   subst this
   have : y.dir = false := hzd
   rw [hd] at this
   cases this
  ·exact h.files z hy hzd
 ·intro d hdd
  obtain ⟨a1, a2, a3, a4, y, hy, h1, h2⟩ := h.opn d hdd
  obtain ⟨z, hz, h3, h4⟩ := fwd y hy
  exact ⟨a1, a2, a3, a4, z, hz, by omega, by rw [h4]; exact h2⟩
theorem Frm.putI {s : St} (h : Frm s) {y : Ino} (hf : ∀ x ∈ s.inos, x.num ≠ y.num) (he : y.ents = []) (hd : y.data.size = 0) (hg : givenV s.made y.num = true) : Frm { s with inos := putI s.inos y } := by
 have num : ∀ k : Int, (∃ z ∈ s.inos, z.num = k) → ∃ z ∈ Go.Proofs.YtndcloohcfhejaaGreat.putI s.inos y, z.num = k := fun k ⟨z, hz, hk⟩ => ⟨z, (mem_putI _ _ _).2 (.inr hz), hk⟩
 refine ⟨h.m1, h.m8, h.mr, riseI_iff.2 (riseI_put _ _ (riseI_iff.1 h.rise) hf), ?_, ?_, ?_, ?_, ?_, h.riseD⟩
 ·obtain ⟨r, hr, h1⟩ := h.root
  exact ⟨r, (mem_putI _ _ _).2 (.inr hr), h1⟩
 ·intro z hz hn
  rcases (mem_putI _ _ _).1 hz with rfl | hz
  ·exact hg
  ·exact h.given z hz hn
 ·intro z hz hzd
  rcases (mem_putI _ _ _).1 hz with rfl | hz
  ·rw [he]
   exact ⟨hd, fun e h9 => by simp at h9, fun i j a b _ h9 => by simp at h9, fun b => by simp [bktE]⟩
  ·exact ⟨(h.dirs z hz hzd).1, (h.dirs z hz hzd).2.to fun e _ => num _⟩
 ·intro z hz hzd
  rcases (mem_putI _ _ _).1 hz with rfl | hz
  ·exact ⟨he, by omega⟩
  ·exact h.files z hz hzd
 ·intro d hdd
  obtain ⟨a1, a2, a3, a4, x, hx, h1, h2⟩ := h.opn d hdd
  exact ⟨a1, a2, a3, a4, x, (mem_putI _ _ _).2 (.inr hx), h1, h2⟩
theorem givenV_more {made : List Int} {k : Nat} {n : Int} (hk : k < made.length) (h : givenV made n = true) : givenV (made.set k (made.getD k 0 + 1)) n = true := by
 have h2 := given_pos h
 unfold givenV at h ⊢
 rw [if_neg (by omega), Bool.and_eq_true, decide_eq_true_eq, decide_eq_true_eq] at h ⊢
 refine ⟨by rw [List.length_set]; exact h.1, ?_⟩
 obtain ⟨j, hj⟩ : ∃ j, ((n - 2) % 8).toNat = j := ⟨_, rfl⟩
 rw [hj] at h ⊢
 by_cases e : k = j
 ·subst e
  rw [List.getD_eq_getElem?_getD, List.getElem?_set, if_pos rfl, if_pos hk]
  have := h.2
  show _ < made.getD k 0 + 1
  omega
 ·rw [List.getD_eq_getElem?_getD, List.getElem?_set, if_neg e, ← List.getD_eq_getElem?_getD]
  exact h.2
theorem Frm.made {s : St} (h : Frm s) {k : Nat} (hk : k < s.made.length) (hm : s.made.getD k 0 < 32) : Frm { s with made := s.made.set k (s.made.getD k 0 + 1) } := by
 refine ⟨by rw [List.length_set]; exact h.m1, by rw [List.length_set]; exact h.m8, ?_, h.rise, h.root, fun x hx hn => givenV_more hk (h.given x hx hn), h.dirs, h.files, fun d hd => by rw [List.length_set]; exact h.opn d hd, h.riseD⟩
 intro m hm2
 rcases List.mem_or_eq_of_mem_set hm2 with h1 | h1
 ·exact h.mr m h1
 ·have : s.made.getD k 0 ∈ s.made := by
   rw [List.getD_eq_getElem?_getD, List.getElem?_eq_getElem hk]
   exact List.getElem_mem hk
  have := h.mr _ this
  omega
theorem putI_modN : ∀ (is : List Ino) (n : Int) (f : List En → List En) (y : Ino), y.num ≠ n → putI (modN is n f) y = modN (putI is y) n f
 | [], n, f, y, h => by simp [modN, putI, h]
 | x :: xs, n, f, y, h => by
  have ih := putI_modN xs n f y h
  unfold modN at ih ⊢
  rw [List.map_cons]
  have hnum : (if x.num = n then { x with ents := f x.ents } else x).num = x.num := by split <;> rfl
  unfold putI
  rw [hnum]
  split
  ·rw [List.map_cons, List.map_cons, if_neg h]
  ·rw [List.map_cons, ih]
end Go.Proofs.YtndcloohcfhejaaGreat
