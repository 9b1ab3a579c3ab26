/- A state that may be, by numbers. No program in sight. -/
import Derived.Test.YthhceopnnappgaaGreatDoorM34
import Derived.Test.YthhceopnnappgaaGreatDoorM08
import Derived.Test.YthhceopnnappgaaGreatDoorM20
set_option linter.unusedVariables false
set_option linter.unusedSimpArgs false
namespace Go.Proofs.YthhceopnnappgaaGreatDoor
inductive Rn (is : List Ino) : Int → Prop where
 | root : Rn is 1
 | step {x : Ino} {e : En} : Rn is x.num → x ∈ is → x.dir = true → e ∈ x.ents → Rn is e.num
structure EntsOk (is : List Ino) (es : List En) : Prop where
 each : ∀ e ∈ es, chkB e.name = 0 ∧ e.num ≠ 1 ∧ ∃ y ∈ is, y.num = e.num
 rise : RiseE es
 bkt : ∀ b, bktE es b ≤ 4
theorem atV_ge {is : List Ino} {n : Int} : 0 ≤ atV is n ↔ ∃ y ∈ is, y.num = n := by
 rcases atV_cases is n with ⟨h1, h2⟩ | ⟨k, x, h1, h2, h3, _⟩
 ·constructor
  ·intro h; omega
  ·rintro ⟨y, hy, hn⟩; exact absurd hn (h2 y hy)
 ·constructor
  ·intro _; exact ⟨x, List.mem_of_getElem? h2, h3⟩
  ·intro _; omega
theorem entsG_each (is : List Ino) : ∀ (es : List En) (p : Option ByteArray) (many : Nat → Nat), entsG is es p many = true → (∀ e ∈ es, chkB e.name = 0 ∧ e.num ≠ 1 ∧ ∃ y ∈ is, y.num = e.num) ∧ ∀ b, many b ≤ 4 → many b + bktE es b ≤ 4
 | [], p, many, h => ⟨by simp, fun b hb => by simpa [bktE] using hb⟩
 | e :: es, p, many, h => by
  unfold entsG at h
  by_cases h1 : entBad is p e = true
  ·rw [if_pos h1] at h; cases h
  ·rw [if_neg h1] at h
   by_cases h2 : 4 < many (bktB e.name) + 1
   ·rw [if_pos h2] at h; cases h
   ·rw [if_neg h2] at h
    obtain ⟨r1, r2⟩ := entsG_each is es _ _ h
    have hb : chkB e.name = 0 ∧ e.num ≠ 1 ∧ 0 ≤ atV is e.num := by
     unfold entBad at h1
     simp only [Bool.or_eq_true, decide_eq_true_eq, not_or] at h1
     obtain ⟨⟨⟨a1, _⟩, a2⟩, a3⟩ := h1
     exact ⟨by omega, a2, by omega⟩
    refine ⟨fun x hx => ?_, fun b hb4 => ?_⟩
    ·rcases List.mem_cons.1 hx with rfl | hx
     ·exact ⟨hb.1, hb.2.1, atV_ge.1 hb.2.2⟩
     ·exact r1 x hx
    ·have h3 := r2 b
     unfold bktE
     by_cases hbb : b = bktB e.name
     ·rw [if_pos hbb] at h3
      rw [if_pos hbb.symm]
      have := h3 (by rw [hbb]; omega)
      omega
     ·rw [if_neg hbb] at h3
      rw [if_neg (fun e2 => hbb e2.symm)]
      have := h3 hb4
      omega
theorem entsG_of (is : List Ino) : ∀ (es : List En) (p : Option ByteArray) (many : Nat → Nat), (∀ e ∈ es, chkB e.name = 0 ∧ e.num ≠ 1 ∧ ∃ y ∈ is, y.num = e.num) → RiseE es → (∀ q x, p = some q → es[0]? = some x → ltN q x.name = true) → (∀ b, bktE es b = 0 ∨ many b + bktE es b ≤ 4) → entsG is es p many = true
 | [], p, many, _, _, _, _ => rfl
 | e :: es, p, many, h1, h2, h3, h4 => by
  have he := h1 e (by simp)
  have hb := h4 (bktB e.name)
  have hbe : bktE (e :: es) (bktB e.name) = 1 + bktE es (bktB e.name) := by
   show (if bktB e.name = bktB e.name then 1 else 0) + bktE es (bktB e.name) = _
   rw [if_pos rfl]
  have hbad : entBad is p e = false := by
   have ha := atV_ge.2 he.2.2
   unfold entBad
   rw [Bool.or_eq_false_iff, Bool.or_eq_false_iff, Bool.or_eq_false_iff]
   refine ⟨⟨⟨?_, ?_⟩, ?_⟩, ?_⟩
   ·rw [decide_eq_false_iff_not]; intro h; exact h he.1
   ·cases p with
    | none => rfl
    | some q =>
     have := h3 q e rfl rfl
     simp [this]
   ·rw [decide_eq_false_iff_not]; exact he.2.1
   ·rw [decide_eq_false_iff_not]; omega
  unfold entsG
  rw [if_neg (by rw [hbad]; decide), if_neg (by omega)]
  refine entsG_of is es _ _ (fun x hx => h1 x (by simp [hx])) h2.tail (fun q x hq hx => ?_) (fun b => ?_)
  ·cases hq
   exact h2 0 1 e x (by omega) rfl (by simpa using hx)
  ·have hbb := h4 b
   have hbs : bktE (e :: es) b = (if bktB e.name = b then 1 else 0) + bktE es b := rfl
   by_cases hq : b = bktB e.name
   ·rw [if_pos hq]
    rw [hbs, if_pos hq.symm] at hbb
    omega
   ·rw [if_neg hq]
    rw [hbs, if_neg (fun e2 => hq e2.symm)] at hbb
    omega
theorem entsV_iff {is : List Ino} {es : List En} : entsV is es = true ↔ EntsOk is es := by
 constructor
 ·intro h
  obtain ⟨h1, h2⟩ := entsG_each is es _ _ h
  exact ⟨h1, (entsG_rise is es _ _ h).1, fun b => by have := h2 b (by omega); omega⟩
 ·intro h
  exact entsG_of is es _ _ h.each h.rise (fun q x hq => by cases hq) (fun b => .inr (by have := h.bkt b; omega))
structure Frm (s : St) : Prop where
 m1 : 1 ≤ s.made.length
 m8 : s.made.length ≤ 8
 mr : ∀ m ∈ s.made, 0 ≤ m ∧ m ≤ 32
 rise : RiseI s.inos
 root : ∃ x ∈ s.inos, x.num = 1 ∧ x.dir = true
 given : ∀ x ∈ s.inos, x.num ≠ 1 → givenV s.made x.num = true
 dirs : ∀ x ∈ s.inos, x.dir = true → x.data.size = 0 ∧ EntsOk s.inos x.ents
 files : ∀ x ∈ s.inos, x.dir = false → x.ents = [] ∧ x.data.size ≤ 256
 opn : ∀ d ∈ s.opn, 0 ≤ d.core ∧ d.core < (s.made.length : Int) ∧ 0 ≤ d.fd ∧ d.fd < 4 ∧ ∃ y ∈ s.inos, y.num = d.num ∧ y.dir = false
 riseD : RiseD s.opn
structure Had (s : St) : Prop where
 one : ∀ x ∈ s.inos, x.num ≠ 1 → x.dir = true → linkI s.inos x.num = 1 ∧ Rn s.inos x.num
 has : ∀ x ∈ s.inos, x.dir = false → Rn s.inos x.num ∨ openB s.opn x.num = true
theorem RiseI.one {is : List Ino} (h : RiseI is) {x y : Ino} (hx : x ∈ is) (hy : y ∈ is) (hn : x.num = y.num) : x = y := by
 obtain ⟨i, hi⟩ := List.getElem?_of_mem hx
 obtain ⟨j, hj⟩ := List.getElem?_of_mem hy
 rcases Nat.lt_trichotomy i j with h1 | h1 | h1
 ·have := h i j x y h1 hi hj; omega
 ·subst h1
  rw [hi] at hj
  exact Option.some.inj hj
 ·have := h j i y x h1 hj hi; omega
theorem Reach.num {is : List Ino} (hr : RiseI is) {k : Nat} (h : Reach is k) : ∃ x, is[k]? = some x ∧ Rn is x.num := by
 induction h with
 | root k hk =>
  rcases atV_cases is 1 with ⟨h1, _⟩ | ⟨j, x, h1, h2, h3, _⟩
  ·omega
  ·have : j = k := by omega
   subst this
   exact ⟨x, h2, by rw [h3]; exact .root⟩
 | step k j x e hk hx hd he hat ih =>
  obtain ⟨x', hx', hrn⟩ := ih
  rw [hx] at hx'
  cases hx'
  rcases atV_cases is e.num with ⟨h1, _⟩ | ⟨i, y, h1, h2, h3, _⟩
  ·omega
  ·have : i = j := by omega
   subst this
   exact ⟨y, h2, by rw [h3]; exact .step hrn (List.mem_of_getElem? hx) hd he⟩
theorem Rn.place {is : List Ino} (hr : RiseI is) (h1 : ∃ x ∈ is, x.num = 1 ∧ x.dir = true) (hw : ∀ x ∈ is, x.dir = true → ∀ e ∈ x.ents, ∃ y ∈ is, y.num = e.num) {n : Int} (h : Rn is n) : ∃ (k : Nat) (x : Ino), is[k]? = some x ∧ x.num = n ∧ Reach is k := by
 induction h with
 | root =>
  obtain ⟨x, hx, hn, _⟩ := h1
  obtain ⟨k, hk⟩ := List.getElem?_of_mem hx
  exact ⟨k, x, hk, hn, .root k (atV_of_rise hr hk hn)⟩
 | step hrn hx hd he ih =>
  rename_i x e
  obtain ⟨k, z, hz, hzn, hzr⟩ := ih
  have : z = x := hr.one (List.mem_of_getElem? hz) hx hzn
  subst this
  obtain ⟨y, hy, hyn⟩ := hw z hx hd e he
  obtain ⟨j, hj⟩ := List.getElem?_of_mem hy
  exact ⟨j, y, hj, hyn, .step k j z e hzr hz hd he (atV_of_rise hr hj hyn)⟩
theorem Good.frm {s : St} (h : Good s) : Frm s ∧ Had s := by
 obtain ⟨r, hr, hrn, hrd⟩ := h.root
 have hri := h.riseI
 have hidx : ∀ x ∈ s.inos, x.num ≠ 1 → ∃ i, 0 < i ∧ s.inos[i]? = some x := fun x hx hn => by
  obtain ⟨i, hi⟩ := List.getElem?_of_mem hx
  rcases Nat.eq_zero_or_pos i with rfl | hp
  ·rw [hr] at hi
   cases hi
   exact absurd hrn hn
  ·exact ⟨i, hp, hi⟩
 refine ⟨⟨h.m1, h.m8, h.mr, hri, ⟨r, List.mem_of_getElem? hr, hrn, hrd⟩, ?_, fun x hx hd => ⟨(h.dirs x hx hd).1, entsV_iff.1 (h.dirs x hx hd).2⟩, h.files, ?_, h.riseD⟩, ?_, ?_⟩
 ·intro x hx hn
  obtain ⟨i, hi, hi2⟩ := hidx x hx hn
  exact h.given i x hi hi2
 ·intro d hd
  obtain ⟨a1, a2, a3, a4, i, x, _, a5, a6, a7⟩ := h.opens d hd
  exact ⟨a1, a2, a3, a4, x, List.mem_of_getElem? a5, a6, a7⟩
 ·intro x hx hn hd
  obtain ⟨i, hi, hi2⟩ := hidx x hx hn
  obtain ⟨h1, h2⟩ := h.one i x hi hi2 hd
  obtain ⟨y, hy, hyr⟩ := h2.num hri
  rw [hi2] at hy
  cases hy
  exact ⟨h1, hyr⟩
 ·intro x hx hd
  obtain ⟨i, hi⟩ := List.getElem?_of_mem hx
  rcases h.has i x hi hd with h2 | h2
  ·obtain ⟨y, hy, hyr⟩ := h2.num hri
   rw [hi] at hy
   cases hy
   exact .inl hyr
  ·exact .inr h2
end Go.Proofs.YthhceopnnappgaaGreatDoor
