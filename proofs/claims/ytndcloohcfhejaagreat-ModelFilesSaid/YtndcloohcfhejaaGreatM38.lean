/- Parts of the proof, side by side: GdN, GdDo, AllowsP, AllowsC, Allows1. -/
import Derived.Test.YtndcloohcfhejaaGreatM32
import Derived.Test.YtndcloohcfhejaaGreatM26
import Derived.Test.YtndcloohcfhejaaGreatM37
import Derived.Test.YtndcloohcfhejaaGreatM24
import Derived.Test.YtndcloohcfhejaaGreatM16
set_option linter.unusedVariables false
set_option linter.unusedSimpArgs false
namespace Go.Proofs.YtndcloohcfhejaaGreat
inductive Rn (is : List Ino) : Int → Prop where
 | root : Rn is 1
 | step {x : Ino} {e : En} : Rn is x.num → x ∈ is → x.dir = true → e ∈ x.ents → Rn is e.num
structure EntsOk (is : List Ino) (es : List En) : Prop where
 each : ∀ e ∈ es, chkB e.name = 0 ∧ e.num ≠ 1 ∧ ∃ y ∈ is, y.num = e.num
 rise : RiseE es
 bkt : ∀ b, bktE es b ≤ 4
theorem atV_ge {is : List Ino} {n : Int} : 0 ≤ atV is n ↔ ∃ y ∈ is, y.num = n := by
 rcases atV_cases is n with ⟨h1, h2⟩ | ⟨k, x, h1, h2, h3, _⟩
 ·constructor
  ·intro h; omega
  ·rintro ⟨y, hy, hn⟩; exact absurd hn (h2 y hy)
 ·constructor
  ·intro _; exact ⟨x, List.mem_of_getElem? h2, h3⟩
  ·intro _; omega
theorem entsG_each (is : List Ino) : ∀ (es : List En) (p : Option ByteArray) (many : Nat → Nat), entsG is es p many = true → (∀ e ∈ es, chkB e.name = 0 ∧ e.num ≠ 1 ∧ ∃ y ∈ is, y.num = e.num) ∧ ∀ b, many b ≤ 4 → many b + bktE es b ≤ 4
 | [], p, many, h => ⟨by simp, fun b hb => by simpa [bktE] using hb⟩
 | e :: es, p, many, h => by
  unfold entsG at h
  by_cases h1 : entBad is p e = true
  ·rw [if_pos h1] at h; cases h
  ·rw [if_neg h1] at h
   by_cases h2 : 4 < many (bktB e.name) + 1
   ·rw [if_pos h2] at h; cases h
   ·rw [if_neg h2] at h
    obtain ⟨r1, r2⟩ := entsG_each is es _ _ h
    have hb : chkB e.name = 0 ∧ e.num ≠ 1 ∧ 0 ≤ atV is e.num := by
     unfold entBad at h1
     simp only [Bool.or_eq_true, decide_eq_true_eq, not_or] at h1
     obtain ⟨⟨⟨a1, _⟩, a2⟩, a3⟩ := h1
     exact ⟨by omega, a2, by omega⟩
    refine ⟨fun x hx => ?_, fun b hb4 => ?_⟩
    ·rcases List.mem_cons.1 hx with rfl | hx
     ·exact ⟨hb.1, hb.2.1, atV_ge.1 hb.2.2⟩
     ·exact r1 x hx
    ·have h3 := r2 b
     unfold bktE
     by_cases hbb : b = bktB e.name
     ·rw [if_pos hbb] at h3
      rw [if_pos hbb.symm]
      have := h3 (by rw [hbb]; omega)
      omega
     ·rw [if_neg hbb] at h3
      rw [if_neg (fun e2 => hbb e2.symm)]
      have := h3 hb4
      omega
theorem entsG_of (is : List Ino) : ∀ (es : List En) (p : Option ByteArray) (many : Nat → Nat), (∀ e ∈ es, chkB e.name = 0 ∧ e.num ≠ 1 ∧ ∃ y ∈ is, y.num = e.num) → RiseE es → (∀ q x, p = some q → es[0]? = some x → ltN q x.name = true) → (∀ b, bktE es b = 0 ∨ many b + bktE es b ≤ 4) → entsG is es p many = true
 | [], p, many, _, _, _, _ => rfl
 | e :: es, p, many, h1, h2, h3, h4 => by
  have he := h1 e (by simp)
  have hb := h4 (bktB e.name)
  have hbe : bktE (e :: es) (bktB e.name) = 1 + bktE es (bktB e.name) := by
   show (if bktB e.name = bktB e.name then 1 else 0) + bktE es (bktB e.name) = _
   rw [if_pos rfl]
  have hbad : entBad is p e = false := by
   have ha := atV_ge.2 he.2.2
   unfold entBad
   rw [Bool.or_eq_false_iff, Bool.or_eq_false_iff, Bool.or_eq_false_iff]
   refine ⟨⟨⟨?_, ?_⟩, ?_⟩, ?_⟩
   ·rw [decide_eq_false_iff_not]; intro h; exact h he.1
   ·cases p with
    | none => rfl
    | some q =>
     have := h3 q e rfl rfl
     simp [this]
   ·rw [decide_eq_false_iff_not]; exact he.2.1
   ·rw [decide_eq_false_iff_not]; omega
  unfold entsG
  rw [if_neg (by rw [hbad]; decide), if_neg (by omega)]
  refine entsG_of is es _ _ (fun x hx => h1 x (by simp [hx])) h2.tail (fun q x hq hx => ?_) (fun b => ?_)
  ·cases hq
   exact h2 0 1 e x (by omega) rfl (by simpa using hx)
  ·have hbb := h4 b
   have hbs : bktE (e :: es) b = (if bktB e.name = b then 1 else 0) + bktE es b := rfl
   by_cases hq : b = bktB e.name
   ·rw [if_pos hq]
    rw [hbs, if_pos hq.symm] at hbb
    omega
   ·rw [if_neg hq]
    rw [hbs, if_neg (fun e2 => hq e2.symm)] at hbb
    omega
theorem entsV_iff {is : List Ino} {es : List En} : entsV is es = true ↔ EntsOk is es := by
 constructor
 ·intro h
  obtain ⟨h1, h2⟩ := entsG_each is es _ _ h
  exact ⟨h1, (entsG_rise is es _ _ h).1, fun b => by have := h2 b (by omega); omega⟩
 ·intro h
  exact entsG_of is es _ _ h.each h.rise (fun q x hq => by cases hq) (fun b => .inr (by have := h.bkt b; omega))
structure Frm (s : St) : Prop where
 m1 : 1 ≤ s.made.length
 m8 : s.made.length ≤ 8
 mr : ∀ m ∈ s.made, 0 ≤ m ∧ m ≤ 32
 rise : RiseI s.inos
 root : ∃ x ∈ s.inos, x.num = 1 ∧ x.dir = true
 given : ∀ x ∈ s.inos, x.num ≠ 1 → givenV s.made x.num = true
 dirs : ∀ x ∈ s.inos, x.dir = true → x.data.size = 0 ∧ EntsOk s.inos x.ents
 files : ∀ x ∈ s.inos, x.dir = false → x.ents = [] ∧ x.data.size ≤ 256
 opn : ∀ d ∈ s.opn, 0 ≤ d.core ∧ d.core < (s.made.length : Int) ∧ 0 ≤ d.fd ∧ d.fd < 4 ∧ ∃ y ∈ s.inos, y.num = d.num ∧ y.dir = false
 riseD : RiseD s.opn
structure Had (s : St) : Prop where
 one : ∀ x ∈ s.inos, x.num ≠ 1 → x.dir = true → linkI s.inos x.num = 1 ∧ Rn s.inos x.num
 has : ∀ x ∈ s.inos, x.dir = false → Rn s.inos x.num ∨ openB s.opn x.num = true
theorem given_pos {made : List Int} {n : Int} (h : givenV made n = true) : 2 ≤ n := by
 unfold givenV at h
 by_cases h2 : n < 2
 ·rw [if_pos h2] at h; cases h
 ·omega
theorem Reach.num {is : List Ino} (hr : RiseI is) {k : Nat} (h : Reach is k) : ∃ x, is[k]? = some x ∧ Rn is x.num := by
 induction h with
 | root k hk =>
  rcases atV_cases is 1 with ⟨h1, _⟩ | ⟨j, x, h1, h2, h3, _⟩
  ·omega
  ·have : j = k := by omega
   subst this
   exact ⟨x, h2, by rw [h3]; exact .root⟩
 | step k j x e hk hx hd he hat ih =>
  obtain ⟨x', hx', hrn⟩ := ih
  rw [hx] at hx'
  cases hx'
  rcases atV_cases is e.num with ⟨h1, _⟩ | ⟨i, y, h1, h2, h3, _⟩
  ·omega
  ·have : i = j := by omega
   subst this
   exact ⟨y, h2, by rw [h3]; exact .step hrn (List.mem_of_getElem? hx) hd he⟩
theorem Good.frm {s : St} (h : Good s) : Frm s ∧ Had s := by
 obtain ⟨r, hr, hrn, hrd⟩ := h.root
 have hri := h.riseI
 have hidx : ∀ x ∈ s.inos, x.num ≠ 1 → ∃ i, 0 < i ∧ s.inos[i]? = some x := fun x hx hn => by
  obtain ⟨i, hi⟩ := List.getElem?_of_mem hx
  rcases Nat.eq_zero_or_pos i with rfl | hp
  ·rw [hr] at hi
   cases hi
   exact absurd hrn hn
  ·exact ⟨i, hp, hi⟩
 refine ⟨⟨h.m1, h.m8, h.mr, hri, ⟨r, List.mem_of_getElem? hr, hrn, hrd⟩, ?_, fun x hx hd => ⟨(h.dirs x hx hd).1, entsV_iff.1 (h.dirs x hx hd).2⟩, h.files, ?_, h.riseD⟩, ?_, ?_⟩
 ·intro x hx hn
  obtain ⟨i, hi, hi2⟩ := hidx x hx hn
  exact h.given i x hi hi2
 ·intro d hd
  obtain ⟨a1, a2, a3, a4, i, x, _, a5, a6, a7⟩ := h.opens d hd
  exact ⟨a1, a2, a3, a4, x, List.mem_of_getElem? a5, a6, a7⟩
 ·intro x hx hn hd
  obtain ⟨i, hi, hi2⟩ := hidx x hx hn
  obtain ⟨h1, h2⟩ := h.one i x hi hi2 hd
  obtain ⟨y, hy, hyr⟩ := h2.num hri
  rw [hi2] at hy
  cases hy
  exact ⟨h1, hyr⟩
 ·intro x hx hd
  obtain ⟨i, hi⟩ := List.getElem?_of_mem hx
  rcases h.has i x hi hd with h2 | h2
  ·obtain ⟨y, hy, hyr⟩ := h2.num hri
   rw [hi] at hy
   cases hy
   exact .inl hyr
  ·exact .inr h2
theorem freeFd_free (ds : List Ds) (core : Int) (h : freeFd ds core ≠ 4) : fdV ds core (freeFd ds core : Int) = 0 ∧ freeFd ds core < 4 := by
 unfold freeFd at h ⊢
 by_cases h0 : fdV ds core 0 = 0
 ·rw [if_pos h0]; exact ⟨h0, by omega⟩
 ·rw [if_neg h0] at h ⊢
  by_cases h1 : fdV ds core 1 = 0
  ·rw [if_pos h1]; exact ⟨h1, by omega⟩
  ·rw [if_neg h1] at h ⊢
   by_cases h2 : fdV ds core 2 = 0
   ·rw [if_pos h2]; exact ⟨h2, by omega⟩
   ·rw [if_neg h2] at h ⊢
    by_cases h3 : fdV ds core 3 = 0
    ·rw [if_pos h3]; exact ⟨h3, by omega⟩
    ·rw [if_neg h3] at h
     exact absurd rfl h
def wantV (c : Ca) (r : Re) : Int := if c.kind = 2 ∧ r.code = 0 then r.fd else -1
def allowsV (s : St) (c : Ca) (r : Re) : St × Bool :=
 if c.kind = 2 ∧ r.code = 0 ∧ r.fd < 0 then (s, false)
 else if (doF s c (wantV c r)).2.2 = false ∨ sameR (doF s c (wantV c r)).2.1 r = false then (s, false)
 else ((doF s c (wantV c r)).1, true)
def refuse (s : St) (c : Ca) (r : Re) : Bool := (fdP s.opn c.core r.fd).isSome || decide (r.fd < 0) || decide (4 ≤ r.fd) || decide (r.code ≠ 0) || decide (r.num ≠ 0) || r.dir || decide (r.data ≠ ⟨#[]⟩) || decide (0 < r.names.length)
theorem fdP_free {s : St} (h : Good s) (core fd : Int) : fdP s.opn core fd = none ↔ fdV s.opn core fd = 0 := by
 constructor
 ·intro h1
  exact (fdP_none _ _ _ h1).1
 ·intro h1
  cases hp : fdP s.opn core fd with
  | none => rfl
  | some k =>
   exfalso
   obtain ⟨d, hd, hc, hf, _⟩ := fdP_some _ _ _ _ hp
   refine fdV_has s.opn core fd (fun x hx => ?_) ⟨d, List.mem_of_getElem? hd, hc, hf⟩ h1
   obtain ⟨_, _, _, _, w, hw, hwn, _⟩ := h.frm.1.opn x hx
   by_cases h2 : w.num = 1
   ·omega
   ·have := given_pos (h.frm.1.given w hw h2); omega
theorem allows_plain {s : St} {c : Ca} {r : Re} (h : c.kind ≠ 2 ∨ (doV s c).2.code ≠ 0 ∨ r.fd = (doV s c).2.fd) : allowsV s c r = if sameR (doV s c).2 r then ((doV s c).1, true) else (s, false) := by
 unfold allowsV
 by_cases hk : c.kind = 2
 rotate_left
 ·have hw : wantV c r = -1 := by unfold wantV; rw [if_neg (fun h => hk h.1)]
  have hok : ∀ want, (doF s c want).2.2 = true := fun want => by
   unfold doF
   repeat' (first | rfl | (exact absurd (by assumption) hk) | split)
  rw [if_neg (fun h => hk h.1), hw, hok]
  show (if true = false ∨ sameR (doV s c).2 r = false then _ else _) = _
  cases sameR (doV s c).2 r <;> simp [doV]
 by_cases hm : mayV s = false ∨ c.core < 0 ∨ (s.made.length : Int) ≤ c.core ∨ c.kind < 0 ∨ 16 < c.kind
 ·have hd : ∀ want, doF s c want = (s, { code := 9 }, true) := fun want => by unfold doF; rw [if_pos hm]
  have hv : doV s c = (s, { code := 9 }) := by unfold doV; rw [hd]
  rw [hv, hd]
  by_cases h3 : c.kind = 2 ∧ r.code = 0 ∧ r.fd < 0
  ·rw [if_pos h3]
   have : sameR { code := 9 } r = false := by
    cases hs : sameR { code := 9 } r
    ·rfl
    ·have := sameR_eq hs
     rw [← this] at h3
     exact absurd h3.2.1 (by decide)
   rw [this]
   rfl
  ·rw [if_neg h3]
   cases sameR { code := 9 } r <;> simp
 have hd : ∀ want, doF s c want = openedV s c want := fun want => by
  unfold doF
  rw [if_neg hm, if_neg (by omega), if_pos hk]
 have hv : doV s c = ((openedV s c (-1)).1, (openedV s c (-1)).2.1) := by unfold doV; rw [hd]
 rw [hv] at h ⊢
 rw [hd]
 by_cases hf1 : (findV s.inos c.path).2 ≠ 0
 ·have ho : ∀ want, openedV s c want = (s, { code := (findV s.inos c.path).2 }, true) := fun want => by unfold openedV; rw [if_pos hf1]
  rw [ho, ho]
  by_cases h3 : c.kind = 2 ∧ r.code = 0 ∧ r.fd < 0
  ·rw [if_pos h3]
   have : sameR { code := (findV s.inos c.path).2 } r = false := by
    cases hs : sameR { code := (findV s.inos c.path).2 } r
    ·rfl
    ·have := sameR_eq hs
     rw [← this] at h3
     exact absurd h3.2.1 hf1
   rw [this]
   rfl
  ·rw [if_neg h3]
   cases sameR { code := (findV s.inos c.path).2 } r <;> simp
 by_cases hf2 : dirAt s.inos (findV s.inos c.path).1 = true
 ·have ho : ∀ want, openedV s c want = (s, { code := 8 }, true) := fun want => by unfold openedV; rw [if_neg hf1, if_pos hf2]
  rw [ho, ho]
  by_cases h3 : c.kind = 2 ∧ r.code = 0 ∧ r.fd < 0
  ·rw [if_pos h3]
   have : sameR { code := 8 } r = false := by
    cases hs : sameR { code := 8 } r
    ·rfl
    ·have := sameR_eq hs
     rw [← this] at h3
     exact absurd h3.2.1 (by decide)
   rw [this]
   rfl
  ·rw [if_neg h3]
   cases sameR { code := 8 } r <;> simp
 by_cases hf3 : freeFd s.opn c.core = 4
 ·have ho : ∀ want, openedV s c want = (s, { code := 10 }, true) := fun want => by unfold openedV; rw [if_neg hf1, if_neg hf2, if_pos hf3]
  rw [ho, ho]
  by_cases h3 : c.kind = 2 ∧ r.code = 0 ∧ r.fd < 0
  ·rw [if_pos h3]
   have : sameR { code := 10 } r = false := by
    cases hs : sameR { code := 10 } r
    ·rfl
    ·have := sameR_eq hs
     rw [← this] at h3
     exact absurd h3.2.1 (by decide)
   rw [this]
   rfl
  ·rw [if_neg h3]
   cases sameR { code := 10 } r <;> simp
 obtain ⟨hfree, hlt⟩ := freeFd_free _ _ hf3
 have ho1 : openedV s c (-1) = ({ s with opn := putD s.opn ⟨c.core, freeFd s.opn c.core, (findV s.inos c.path).1⟩ }, { fd := freeFd s.opn c.core }, true) := by
  unfold openedV
  rw [if_neg hf1, if_neg hf2, if_neg hf3, if_neg (by omega)]
 rw [ho1] at h ⊢
 have hfd : r.fd = (freeFd s.opn c.core : Int) := by
  rcases h with h | h | h
  ·exact absurd hk h
  ·exact absurd rfl h
  ·exact h
 rw [if_neg (by omega)]
 by_cases hrc : r.code = 0
 ·rw [show wantV c r = (freeFd s.opn c.core : Int) by unfold wantV; rw [if_pos ⟨hk, hrc⟩, hfd]]
  have ho2 : openedV s c (freeFd s.opn c.core : Int) = ({ s with opn := putD s.opn ⟨c.core, freeFd s.opn c.core, (findV s.inos c.path).1⟩ }, { fd := freeFd s.opn c.core }, true) := by
   unfold openedV
   rw [if_neg hf1, if_neg hf2, if_neg hf3, if_pos (by omega), if_neg (by rw [hfree]; omega)]
  rw [ho2]
  simp only
  cases hsr : sameR { fd := (freeFd s.opn c.core : Int) } r <;> simp
 ·rw [show wantV c r = -1 by unfold wantV; rw [if_neg (fun h => hrc h.2)], ho1]
  simp only
  cases hsr : sameR { fd := (freeFd s.opn c.core : Int) } r <;> simp
theorem allows_other {s : St} {c : Ca} {r : Re} (hk : c.kind = 2) (h0 : (doV s c).2.code = 0) (hne : r.fd ≠ (doV s c).2.fd) :
  Good s ∧ 0 ≤ c.core ∧ c.core < (s.made.length : Int) ∧ ∃ num, (doV s c) = ({ s with opn := putD s.opn ⟨c.core, (doV s c).2.fd, num⟩ }, { fd := (doV s c).2.fd }) ∧ fdV s.opn c.core (doV s c).2.fd = 0 ∧ 0 ≤ (doV s c).2.fd ∧ (doV s c).2.fd < 4 ∧
   allowsV s c r = if refuse s c r = true then (s, false) else ({ s with opn := putD s.opn ⟨c.core, r.fd, num⟩ }, true) := by
 by_cases hm : mayV s = false ∨ c.core < 0 ∨ (s.made.length : Int) ≤ c.core ∨ c.kind < 0 ∨ 16 < c.kind
 ·have hv : doV s c = (s, { code := 9 }) := by unfold doV doF; rw [if_pos hm]
  rw [hv] at h0
  exact absurd (show (9 : Int) = 0 from h0) (by decide)
 have hd : ∀ want, doF s c want = openedV s c want := fun want => by
  unfold doF
  rw [if_neg hm, if_neg (by omega), if_pos hk]
 have hv : doV s c = ((openedV s c (-1)).1, (openedV s c (-1)).2.1) := by unfold doV; rw [hd]
 have hgood : Good s := by
  rw [← good_iff]
  cases hmv : mayV s
  ·exact absurd (.inl hmv) hm
  ·rfl
 rw [hv] at h0 hne ⊢
 by_cases hf1 : (findV s.inos c.path).2 ≠ 0
 ·unfold openedV at h0
  rw [if_pos hf1] at h0
  exact absurd h0 hf1
 by_cases hf2 : dirAt s.inos (findV s.inos c.path).1 = true
 ·unfold openedV at h0
  rw [if_neg hf1, if_pos hf2] at h0
  exact absurd (show (8 : Int) = 0 from h0) (by decide)
 by_cases hf3 : freeFd s.opn c.core = 4
 ·unfold openedV at h0
  rw [if_neg hf1, if_neg hf2, if_pos hf3] at h0
  exact absurd (show (10 : Int) = 0 from h0) (by decide)
 obtain ⟨hfree, hlt⟩ := freeFd_free _ _ hf3
 have ho1 : openedV s c (-1) = ({ s with opn := putD s.opn ⟨c.core, freeFd s.opn c.core, (findV s.inos c.path).1⟩ }, { fd := freeFd s.opn c.core }, true) := by
  unfold openedV
  rw [if_neg hf1, if_neg hf2, if_neg hf3, if_neg (by omega)]
 rw [ho1] at hne ⊢
 simp only at hne ⊢
 refine ⟨hgood, by omega, by omega, (findV s.inos c.path).1, rfl, hfree, by omega, by omega, ?_⟩
 have hnone : (fdP s.opn c.core r.fd).isSome = true ↔ fdV s.opn c.core r.fd ≠ 0 := by
  have hfr := fdP_free hgood c.core r.fd
  cases hq : fdP s.opn c.core r.fd with
  | none => exact ⟨(fun h1 => absurd h1 (by decide)), (fun h1 => absurd (hfr.1 hq) h1)⟩
  | some k => exact ⟨(fun _ h1 => by have h9 := hfr.2 h1; rw [hq] at h9; cases h9), (fun _ => rfl)⟩
 unfold allowsV
 rw [hd]
 by_cases hrc : r.code = 0
 ·rw [show wantV c r = r.fd by unfold wantV; rw [if_pos ⟨hk, hrc⟩]]
  by_cases hneg : r.fd < 0
  ·have hr : refuse s c r = true := by unfold refuse; simp [hneg]
   rw [if_pos ⟨hk, hrc, hneg⟩, hr]
   rfl
  ·rw [if_neg (by omega)]
   by_cases hbad : 4 ≤ r.fd ∨ fdV s.opn c.core r.fd ≠ 0
   ·have ho2 : openedV s c r.fd = (s, {}, false) := by
     unfold openedV
     rw [if_neg hf1, if_neg hf2, if_neg hf3, if_pos (by omega), if_pos hbad]
    have hr : refuse s c r = true := by
     unfold refuse
     rcases hbad with h1 | h1
     ·simp [h1]
     ·rw [hnone.2 h1]; simp
    rw [ho2, hr]
    simp
   ·have ho2 : openedV s c r.fd = ({ s with opn := putD s.opn ⟨c.core, r.fd, (findV s.inos c.path).1⟩ }, { fd := r.fd }, true) := by
     unfold openedV
     rw [if_neg hf1, if_neg hf2, if_neg hf3, if_pos (by omega), if_neg hbad]
    rw [ho2]
    have hsome : (fdP s.opn c.core r.fd).isSome = false := by
     cases hq : (fdP s.opn c.core r.fd).isSome
     ·rfl
     ·exact absurd (.inr (hnone.1 hq)) hbad
    have hs : sameR { fd := r.fd } r = !refuse s c r := by
     have h1 : decide (r.fd < 0) = false := decide_eq_false hneg
     have h2 : decide (4 ≤ r.fd) = false := decide_eq_false (fun h => hbad (.inl h))
     have h3 : decide (r.code ≠ 0) = false := decide_eq_false (fun h => h hrc)
     unfold refuse
     rw [hsome, h1, h2, h3]
     unfold sameR sameF
     simp only [hrc, Bool.false_or]
     have e1 : decide ((([] : List ByteArray)) = r.names) = !decide (0 < r.names.length) := by
      cases r.names <;> simp
     have e2 : decide ((0 : Int) = r.num) = !decide (r.num ≠ 0) := by
      by_cases h : r.num = 0
      ·simp [h]
      ·simp [h]; exact fun e => h e.symm
     have e3 : decide (false = r.dir) = !r.dir := by cases r.dir <;> rfl
     have e4 : decide ((⟨#[]⟩ : ByteArray) = r.data) = !decide (r.data ≠ ⟨#[]⟩) := by
      by_cases h : r.data = ⟨#[]⟩
      ·simp [h]
      ·simp [h]; exact fun e => h e.symm
     rw [e1, e2, e3, e4]
     cases decide (0 < r.names.length) <;> cases decide (r.num ≠ 0) <;> cases r.dir <;> cases decide (r.data ≠ ⟨#[]⟩) <;> simp
    simp only [hs]
    cases refuse s c r <;> simp
 ·have hr : refuse s c r = true := by unfold refuse; simp [hrc]
  rw [if_neg (fun h => hrc h.2.1), show wantV c r = -1 by unfold wantV; rw [if_neg (fun h => hrc h.2)], ho1, hr]
  have : sameR { fd := (freeFd s.opn c.core : Int) } r = false := by
   cases hs : sameR { fd := (freeFd s.opn c.core : Int) } r
   ·rfl
   ·have := sameR_eq hs
    exact absurd (by rw [← this]) hrc
  simp [this]
structure Back (ds : List Ds) (core fd : Int) (i : Nat) (at_ : Nat) : Prop where
 le : at_ ≤ ds.length
 gt : i ≤ at_
 hi : ∀ d, ds[at_]? = some d → core < d.core ∨ (d.core = core ∧ fd < d.fd)
 lo : ∀ (k : Nat) (d : Ds), i ≤ k → k < at_ → ds[k]? = some d → ¬ (core < d.core ∨ (d.core = core ∧ fd < d.fd))
theorem Back.start (ds : List Ds) (core fd : Int) : Back ds core fd ds.length ds.length := ⟨Nat.le_refl _, Nat.le_refl _, fun d hd => by simp at hd, fun k d h1 h2 => by omega⟩
theorem Back.step {ds : List Ds} {core fd : Int} {i at_ : Nat} (h : Back ds core fd (i + 1) at_) {d : Ds} (hd : ds[i]? = some d) :
  ((core < d.core ∨ (d.core = core ∧ fd < d.fd)) → Back ds core fd i i) ∧ (¬ (core < d.core ∨ (d.core = core ∧ fd < d.fd)) → Back ds core fd i at_) := by
 have hl := (List.getElem?_eq_some_iff.1 hd).1
 refine ⟨fun hc => ⟨by omega, Nat.le_refl _, fun e he => by rw [hd] at he; cases he; exact hc, fun k e h1 h2 => by omega⟩, fun hc => ⟨h.le, by have := h.gt; omega, h.hi, fun k e h1 h2 he => ?_⟩⟩
 by_cases hk : k = i
 ·subst hk
  rw [hd] at he
  cases he
  exact hc
 ·exact h.lo k e (by omega) h2 he
theorem Back.put {ds : List Ds} {core fd num : Int} {at_ : Nat} (h : Back ds core fd 0 at_) (hr : RiseD ds) (hno : ∀ x ∈ ds, ¬ (x.core = core ∧ x.fd = fd)) : putD ds ⟨core, fd, num⟩ = ds.take at_ ++ [⟨core, fd, num⟩] ++ ds.drop at_ := by
 refine putD_pos _ _ _ h.le (fun k d hk hd => ?_) (fun k d hk hd => ?_)
 ·have h1 := h.lo k d (by omega) hk hd
  have h2 := hno d (List.mem_of_getElem? hd)
  unfold ltD
  simp only
  omega
 ·have hl := (List.getElem?_eq_some_iff.1 hd).1
  have hat := List.getElem?_eq_getElem (show at_ < ds.length by omega)
  have h1 := h.hi _ hat
  by_cases e : at_ = k
  ·subst e
   rw [hd] at hat
   cases hat
   unfold ltD
   simp only
   omega
  ·have h2 := hr at_ k _ d (by omega) hat hd
   unfold ltD at h2 ⊢
   simp only
   omega
end Go.Proofs.YtndcloohcfhejaaGreat
namespace Go.Proofs.YtndcloohcfhejaaGreat
open Go.RowKit
theorem allow1_any (g1 g2 : Nat) (CO FD a b k : Int) (w : World) (h1 : w.cell? ⟨g1, 1, .none⟩ = some (.int .i64 CO)) (h2 : w.cell? ⟨g2, 1, .none⟩ = some (.int .i64 FD)) (l1 : g1 < w.heap.size) (l2 : g2 < w.heap.size) :
  Calls Tryz.prog 47 #[.agg #[.int .i64 a, .int .i64 b, .int .i64 k], .pointer (some ⟨g1, 0, .none⟩), .pointer (some ⟨g2, 0, .none⟩)] w fun e w' => e = .returned (.bool (a == CO && b == FD)) ∧ Below w.heap.size w w' := by
 obtain ⟨V2, hV2, v0, v1, v2, hal4, hlt4⟩ := box_ds w a b k
 have z1 := (hal4.cell (p := ⟨g1, 1, .none⟩) l1).trans h1
 have z2 := (hal4.cell (p := ⟨g2, 1, .none⟩) l2).trans h2
 have HAL := Lib.hid hal4
 clear hal4
 obtain ⟨X, hX⟩ : ∃ X, (a == CO) = X := ⟨_, rfl⟩
 obtain ⟨Y, hY⟩ : ∃ Y, (b == FD) = Y := ⟨_, rfl⟩
 rw [hX, hY]
 go_enter Tryz.func47, Tryz.ntmps47
 cases X
 ·go_wp2_with fail
  go_ret
  exact ⟨by first | rfl | simp, HAL.out⟩
 ·go_wp2_with fail
  go_ret
  exact ⟨by first | rfl | simp, HAL.out⟩
set_option maxRecDepth 100000 in
set_option maxHeartbeats 4000000 in
theorem indexallow1_any (g1 g2 : Nat) (CO FD : Int) (xs : List Ds) (A : Option Addr) (n cp : Nat) (w : World) (hI : DescsAt none w A n xs) (hn : n ≤ 1099511627776) (h1 : w.cell? ⟨g1, 1, .none⟩ = some (.int .i64 CO)) (h2 : w.cell? ⟨g2, 1, .none⟩ = some (.int .i64 FD)) (l1 : g1 < w.heap.size) (l2 : g2 < w.heap.size) :
  Calls Tryz.prog 48 #[.slice A n cp, .func (.func 47) #[] #[.pointer (some ⟨g1, 0, .none⟩), .pointer (some ⟨g2, 0, .none⟩)]] w fun e w' => e = .returned (.int .i64 (fdI xs CO FD)) ∧ Below w.heap.size w w' := by
 obtain ⟨R, hR⟩ : ∃ R, fdP xs CO FD = R := ⟨_, rfl⟩
 unfold fdI
 rw [hR]
 have HI := Lib.hid hI
 have HR := Lib.hid hR
 clear hI hR
 go_enter Tryz.func48, Tryz.ntmps48
 go_wp2_with fail
 go_loopw [8] (fun j wr => ∃ r : Nat, j = .int .i64 r ∧ r ≤ n ∧ Below w.heap.size w wr ∧ (fdP (xs.drop r) CO FD).map (· + r) = R) (fun j _ => n - (intOf j).toNat)
 case atStart => exact ⟨0, rfl, by omega, Below.refl _ _, by rw [List.drop_zero, HR.out]; cases R <;> rfl⟩
 case round =>
  obtain ⟨r, rfl, hq, hbel, hc⟩ := hrel
  have HB := Lib.hid hbel
  have HIr := Lib.hid (HI.out.below hbel)
  have z1 := (hbel.cell (p := ⟨g1, 1, .none⟩) l1).trans h1
  have z2 := (hbel.cell (p := ⟨g2, 1, .none⟩) l2).trans h2
  have m1 : g1 < wr.heap.size := Nat.lt_of_lt_of_le l1 hbel.size
  have m2 : g2 < wr.heap.size := Nat.lt_of_lt_of_le l2 hbel.size
  clear hbel
  by_cases hlt : r < n
  ·obtain ⟨g, off, y, rfl, hg, hy, hd, hmem, e0, e1, e2⟩ := HIr.out.get r hlt
   rw [fdP_drop xs _ _ r y hd] at hc
   have HC := Lib.hid hc
   have k0 : (0 : Int) ≤ (r : Int) := by omega
   clear hc hd hmem hy
   go_wp2_with fail
   refine (allow1_any g1 g2 CO FD y.core y.fd y.num _ z1 z2 m1 m2).mono ?_
   rintro e5 w5 ⟨rfl, hb5⟩
   have HB5 := Lib.hid (HB.out.trans (hb5.mono HB.out.size))
   clear hb5 e0 e1 e2
   obtain ⟨bb, hbb⟩ : ∃ bb, (y.core == CO && y.fd == FD) = bb := ⟨_, rfl⟩
   rw [hbb]
   have hc := HC.out
   cases bb
   ·have hnx : ¬ (y.core = CO ∧ y.fd = FD) := fun h => by rw [h.1, h.2] at hbb; simp at hbb
    rw [if_neg hnx] at hc
    have HC2 := Lib.hid hc
    clear hc hbb hnx
    go_wp2_with fail
    go_roundw
    case rel => exact ⟨r + 1, by go_num, by omega, HB5.out, by
     rw [← HC2.out]
     cases fdP (xs.drop (r + 1)) CO FD
     ·rfl
     ·simp; omega⟩
    case measure => simp [intOf]; omega
   ·have hnx : y.core = CO ∧ y.fd = FD := by simpa using hbb
    rw [if_pos hnx] at hc
    have HC2 := Lib.hid hc
    clear hc hbb hnx
    go_wp2_with fail
    go_ret
    have h := HC2.out
    simp at h
    subst h
    exact ⟨rfl, HB5.out⟩
  ·have hnil : xs.drop r = [] := List.drop_eq_nil_of_le (by have := HI.out.1; omega)
   rw [hnil, fdP] at hc
   have HC := Lib.hid hc
   clear hc hnil
   go_wp2_with fail
   go_ret
   exact ⟨by rw [← HC.out]; rfl, HB.out⟩
theorem allow2_any (g1 g2 : Nat) (CO FD a b k : Int) (w : World) (h1 : w.cell? ⟨g1, 1, .none⟩ = some (.int .i64 CO)) (h2 : w.cell? ⟨g2, 1, .none⟩ = some (.int .i64 FD)) (l1 : g1 < w.heap.size) (l2 : g2 < w.heap.size) :
  Calls Tryz.prog 49 #[.agg #[.int .i64 a, .int .i64 b, .int .i64 k], .pointer (some ⟨g1, 0, .none⟩), .pointer (some ⟨g2, 0, .none⟩)] w fun e w' => e = .returned (.bool (a == CO && b == FD)) ∧ Below w.heap.size w w' := by
 obtain ⟨V2, hV2, v0, v1, v2, hal4, hlt4⟩ := box_ds w a b k
 have z1 := (hal4.cell (p := ⟨g1, 1, .none⟩) l1).trans h1
 have z2 := (hal4.cell (p := ⟨g2, 1, .none⟩) l2).trans h2
 have HAL := Lib.hid hal4
 clear hal4
 obtain ⟨X, hX⟩ : ∃ X, (a == CO) = X := ⟨_, rfl⟩
 obtain ⟨Y, hY⟩ : ∃ Y, (b == FD) = Y := ⟨_, rfl⟩
 rw [hX, hY]
 go_enter Tryz.func49, Tryz.ntmps49
 cases X
 ·go_wp2_with fail
  go_ret
  exact ⟨by first | rfl | simp, HAL.out⟩
 ·go_wp2_with fail
  go_ret
  exact ⟨by first | rfl | simp, HAL.out⟩
set_option maxRecDepth 100000 in
set_option maxHeartbeats 4000000 in
theorem indexallow2_any (g1 g2 : Nat) (CO FD : Int) (xs : List Ds) (A : Option Addr) (n cp : Nat) (w : World) (hI : DescsAt none w A n xs) (hn : n ≤ 1099511627776) (h1 : w.cell? ⟨g1, 1, .none⟩ = some (.int .i64 CO)) (h2 : w.cell? ⟨g2, 1, .none⟩ = some (.int .i64 FD)) (l1 : g1 < w.heap.size) (l2 : g2 < w.heap.size) :
  Calls Tryz.prog 48 #[.slice A n cp, .func (.func 49) #[] #[.pointer (some ⟨g1, 0, .none⟩), .pointer (some ⟨g2, 0, .none⟩)]] w fun e w' => e = .returned (.int .i64 (fdI xs CO FD)) ∧ Below w.heap.size w w' := by
 obtain ⟨R, hR⟩ : ∃ R, fdP xs CO FD = R := ⟨_, rfl⟩
 unfold fdI
 rw [hR]
 have HI := Lib.hid hI
 have HR := Lib.hid hR
 clear hI hR
 go_enter Tryz.func48, Tryz.ntmps48
 go_wp2_with fail
 go_loopw [8] (fun j wr => ∃ r : Nat, j = .int .i64 r ∧ r ≤ n ∧ Below w.heap.size w wr ∧ (fdP (xs.drop r) CO FD).map (· + r) = R) (fun j _ => n - (intOf j).toNat)
 case atStart => exact ⟨0, rfl, by omega, Below.refl _ _, by rw [List.drop_zero, HR.out]; cases R <;> rfl⟩
 case round =>
  obtain ⟨r, rfl, hq, hbel, hc⟩ := hrel
  have HB := Lib.hid hbel
  have HIr := Lib.hid (HI.out.below hbel)
  have z1 := (hbel.cell (p := ⟨g1, 1, .none⟩) l1).trans h1
  have z2 := (hbel.cell (p := ⟨g2, 1, .none⟩) l2).trans h2
  have m1 : g1 < wr.heap.size := Nat.lt_of_lt_of_le l1 hbel.size
  have m2 : g2 < wr.heap.size := Nat.lt_of_lt_of_le l2 hbel.size
  clear hbel
  by_cases hlt : r < n
  ·obtain ⟨g, off, y, rfl, hg, hy, hd, hmem, e0, e1, e2⟩ := HIr.out.get r hlt
   rw [fdP_drop xs _ _ r y hd] at hc
   have HC := Lib.hid hc
   have k0 : (0 : Int) ≤ (r : Int) := by omega
   clear hc hd hmem hy
   go_wp2_with fail
   refine (allow2_any g1 g2 CO FD y.core y.fd y.num _ z1 z2 m1 m2).mono ?_
   rintro e5 w5 ⟨rfl, hb5⟩
   have HB5 := Lib.hid (HB.out.trans (hb5.mono HB.out.size))
   clear hb5 e0 e1 e2
   obtain ⟨bb, hbb⟩ : ∃ bb, (y.core == CO && y.fd == FD) = bb := ⟨_, rfl⟩
   rw [hbb]
   have hc := HC.out
   cases bb
   ·have hnx : ¬ (y.core = CO ∧ y.fd = FD) := fun h => by rw [h.1, h.2] at hbb; simp at hbb
    rw [if_neg hnx] at hc
    have HC2 := Lib.hid hc
    clear hc hbb hnx
    go_wp2_with fail
    go_roundw
    case rel => exact ⟨r + 1, by go_num, by omega, HB5.out, by
     rw [← HC2.out]
     cases fdP (xs.drop (r + 1)) CO FD
     ·rfl
     ·simp; omega⟩
    case measure => simp [intOf]; omega
   ·have hnx : y.core = CO ∧ y.fd = FD := by simpa using hbb
    rw [if_pos hnx] at hc
    have HC2 := Lib.hid hc
    clear hc hbb hnx
    go_wp2_with fail
    go_ret
    have h := HC2.out
    simp at h
    subst h
    exact ⟨rfl, HB5.out⟩
  ·have hnil : xs.drop r = [] := List.drop_eq_nil_of_le (by have := HI.out.1; omega)
   rw [hnil, fdP] at hc
   have HC := Lib.hid hc
   clear hc hnil
   go_wp2_with fail
   go_ret
   exact ⟨by rw [← HC.out]; rfl, HB.out⟩
theorem containsallow_any (g1 g2 : Nat) (CO FD : Int) (xs : List Ds) (A : Option Addr) (n cp : Nat) (w : World) (hI : DescsAt none w A n xs) (hn : n ≤ 1099511627776) (h1 : w.cell? ⟨g1, 1, .none⟩ = some (.int .i64 CO)) (h2 : w.cell? ⟨g2, 1, .none⟩ = some (.int .i64 FD)) (l1 : g1 < w.heap.size) (l2 : g2 < w.heap.size) :
  Calls Tryz.prog 46 #[.slice A n cp, .func (.func 47) #[] #[.pointer (some ⟨g1, 0, .none⟩), .pointer (some ⟨g2, 0, .none⟩)]] w fun e w' => e = .returned (.bool (fdP xs CO FD).isSome) ∧ Below w.heap.size w w' := by
 obtain ⟨R, hR⟩ : ∃ R, (fdP xs CO FD).isSome = R := ⟨_, rfl⟩
 have hd : decide (0 ≤ fdI xs CO FD) = R := by
  rw [← hR]
  unfold fdI
  cases fdP xs CO FD with
  | none => rfl
  | some k => simp
 have hcall := indexallow1_any g1 g2 CO FD xs A n cp w hI hn h1 h2 l1 l2
 obtain ⟨F, hF⟩ : ∃ F, fdI xs CO FD = F := ⟨_, rfl⟩
 rw [hF] at hd hcall
 rw [hR]
 have HC := Lib.hid hcall
 clear hcall hF hR hI
 go_enter Tryz.func46, Tryz.ntmps46
 go_wp2_with fail
 refine HC.out.mono ?_
 rintro e5 w5 ⟨rfl, hb5⟩
 have HB5 := Lib.hid hb5
 clear hb5
 go_wp2_with fail
 go_ret
 exact ⟨Cv.ret_bool (by first | exact hd | rfl | simp), HB5.out⟩
theorem allows_start (A : Option Addr) (n c' : Nat) (E : Option Addr) (m d : Nat) (D : Option Addr) (k e : Nat) (s : St) (c : Ca) (r : Re) (F : Option Addr) (f f' : Nat) (w : World) (h : StAt none w (.agg #[.slice A n c', .slice E m d, .slice D k e]) s) :
  ∃ W W2 W3 W4, w.alloc (.cells #[.slice A n c', .slice E m d, .slice D k e] 27) = W ∧ W.alloc (.cells #[.int .i64 c.kind, .int .i64 c.core, .int .i64 c.fd, .int .i64 c.off, .int .i64 c.num, .string c.path, .string c.path2, .string c.data] 35) = W2 ∧
   W2.alloc (.cells #[.int .i64 r.code, .int .i64 r.fd, .int .i64 r.num, .bool r.dir, .string r.data, .slice F f f'] 31) = W3 ∧ W3.alloc (.cells #[.slice none 0 0, .slice none 0 0, .slice none 0 0] 27) = W4 ∧
   W.heap.size = w.heap.size + 1 ∧ W2.heap.size = w.heap.size + 2 ∧ W3.heap.size = w.heap.size + 3 ∧ W4.heap.size = w.heap.size + 4 ∧
   StAt none W4 (.agg #[.slice A n c', .slice E m d, .slice D k e]) s ∧ OutAt W4 w.heap.size (.slice A n c') (.slice E m d) (.slice D k e) ∧ W4.heap[w.heap.size + 1]? = some (caRow c) ∧
   ResAt W4 (w.heap.size + 2) (.int .i64 r.code) (.int .i64 r.fd) (.int .i64 r.num) (.bool r.dir) (.string r.data) (.slice F f f') ∧ OutAt W4 (w.heap.size + 3) (.slice none 0 0) (.slice none 0 0) (.slice none 0 0) ∧ Below w.heap.size w W4 := by
 obtain ⟨W, hW⟩ : ∃ W, w.alloc (.cells #[.slice A n c', .slice E m d, .slice D k e] 27) = W := ⟨_, rfl⟩
 have l1 : Below w.heap.size w W := by rw [← hW]; exact (Below.refl _ _).alloc (Nat.le_refl _) _
 have o1 : OutAt W w.heap.size (.slice A n c') (.slice E m d) (.slice D k e) := by rw [← hW]; exact heap_alloc_new w _
 have z1 : W.heap.size = w.heap.size + 1 := by rw [← hW]; simp
 obtain ⟨W2, hW2, hbc, l2, z2⟩ := box_ca W c
 obtain ⟨W3, hW3⟩ : ∃ W3, W2.alloc (.cells #[.int .i64 r.code, .int .i64 r.fd, .int .i64 r.num, .bool r.dir, .string r.data, .slice F f f'] 31) = W3 := ⟨_, rfl⟩
 have l3 : Below W2.heap.size W2 W3 := by rw [← hW3]; exact (Below.refl _ _).alloc (Nat.le_refl _) _
 have z3 : W3.heap.size = W2.heap.size + 1 := by rw [← hW3]; simp
 have r3 : ResAt W3 W2.heap.size (.int .i64 r.code) (.int .i64 r.fd) (.int .i64 r.num) (.bool r.dir) (.string r.data) (.slice F f f') := by rw [← hW3]; exact heap_alloc_new W2 _
 obtain ⟨W4, hW4⟩ : ∃ W4, W3.alloc (.cells #[.slice none 0 0, .slice none 0 0, .slice none 0 0] 27) = W4 := ⟨_, rfl⟩
 have l4 : Below W3.heap.size W3 W4 := by rw [← hW4]; exact (Below.refl _ _).alloc (Nat.le_refl _) _
 have z4 : W4.heap.size = W3.heap.size + 1 := by rw [← hW4]; simp
 have o4 : OutAt W4 W3.heap.size (.slice none 0 0) (.slice none 0 0) (.slice none 0 0) := by rw [← hW4]; exact heap_alloc_new W3 _
 have l24 := Cv.next l3 l4
 have l14 := Cv.next l2 l24
 have l04 := Cv.next l1 l14
 refine ⟨W, W2, W3, W4, hW, hW2, hW3, hW4, z1, by omega, by omega, by omega, h.below l04, (l14.block w.heap.size (by omega)).trans o1, ?_, ?_, ?_, l04⟩
 ·rw [← z1]
  exact (l24.block W.heap.size (by omega)).trans hbc
 ·rw [show w.heap.size + 2 = W2.heap.size by omega]
  exact (l4.block W2.heap.size (by omega)).trans r3
 ·rw [show w.heap.size + 3 = W3.heap.size by omega]
  exact o4
theorem allows_results (tmps : Array Value) (g : Nat) (a b d : Value) (B : Bool) (w : World) (h6 : tmps.getD 6 undef = .pointer (some ⟨g, 0, none⟩)) (h7 : tmps.getD 7 undef = .bool B) (hO : OutAt w g a b d) :
  (results Tryz.f27 tmps).run Tryz.prog w = .ok (.tuple #[.agg #[a, b, d], .bool B]) w := by
 rw [results_cell_tmp rfl, h6, h7]
 have hl1 := run_loadVar_row (P := Tryz.prog) w g _ 27 _ (0, 0) _ hO Tryz.underlying27 rfl (by kernel_rfl)
 simp [asAddr, hl1, Result.andThen]
def AlOut (w : World) (R : St × Bool) (e : Ending) (w' : World) : Prop := ∃ v', e = .returned (.tuple #[v', .bool R.2]) ∧ StAt (some w.heap.size) w' v' R.1 ∧ Below w.heap.size w w'
structure AlAt (w w' : World) (A : Option Addr) (n c' : Nat) (E : Option Addr) (m d : Nat) (D : Option Addr) (k e : Nat) (s : St) (c : Ca) (r : Re) (F : Option Addr) (f f' : Nat) : Prop where
 st : StAt none w' (.agg #[.slice A n c', .slice E m d, .slice D k e]) s
 o0 : OutAt w' w.heap.size (.slice A n c') (.slice E m d) (.slice D k e)
 ca : w'.heap[w.heap.size + 1]? = some (caRow c)
 re : ResAt w' (w.heap.size + 2) (.int .i64 r.code) (.int .i64 r.fd) (.int .i64 r.num) (.bool r.dir) (.string r.data) (.slice F f f')
 out : OutAt w' (w.heap.size + 3) (.slice none 0 0) (.slice none 0 0) (.slice none 0 0)
 bel : Below w.heap.size w w'
 sz : w.heap.size + 4 ≤ w'.heap.size
theorem AlAt.below {w w' w'' : World} {A : Option Addr} {n c' : Nat} {E : Option Addr} {m d : Nat} {D : Option Addr} {k e : Nat} {s : St} {c : Ca} {r : Re} {F : Option Addr} {f f' : Nat} (h : AlAt w w' A n c' E m d D k e s c r F f f') (hb : Below w'.heap.size w' w'') : AlAt w w'' A n c' E m d D k e s c r F f f' := by
 have := h.sz
 exact ⟨h.st.below hb, (hb.block _ (by omega)).trans h.o0, (hb.block _ (by omega)).trans h.ca, (hb.block _ (by omega)).trans h.re, (hb.block _ (by omega)).trans h.out, Cv.next h.bel hb, Nat.le_trans h.sz hb.size⟩
end Go.Proofs.YtndcloohcfhejaaGreat
