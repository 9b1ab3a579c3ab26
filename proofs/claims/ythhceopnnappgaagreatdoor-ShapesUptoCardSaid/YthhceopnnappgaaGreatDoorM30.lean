/- Parts of the proof, side by side: MoPlain3, GdN. -/
import Derived.Test.YthhceopnnappgaaGreatDoorM29
import Derived.Test.YthhceopnnappgaaGreatDoorM08
import Derived.Test.YthhceopnnappgaaGreatDoorM18
set_option linter.unusedVariables false
set_option linter.unusedSimpArgs false
namespace Go.Proofs.YthhceopnnappgaaGreatDoor
def ltD (a b : Ds) : Prop := a.core < b.core ∨ (a.core = b.core ∧ a.fd < b.fd)
def RiseD (ds : List Ds) : Prop := ∀ (i j : Nat) (x y : Ds), i < j → ds[i]? = some x → ds[j]? = some y → ltD x y
structure Scan (ds : List Ds) (core : Int) (i : Nat) (fd : Nat) (at_ : Nat) : Prop where
 le : at_ ≤ i
 lo : ∀ (k : Nat) (d : Ds), k < at_ → ds[k]? = some d → d.core < core ∨ (d.core = core ∧ d.fd < (fd : Int))
 hi : ∀ (k : Nat) (d : Ds), at_ ≤ k → k < i → ds[k]? = some d → core < d.core ∨ (d.core = core ∧ (fd : Int) < d.fd)
 all : ∀ f, f < fd → ∃ (k : Nat) (d : Ds), k < i ∧ ds[k]? = some d ∧ d.core = core ∧ d.fd = (f : Int)
theorem Scan.start (ds : List Ds) (core : Int) : Scan ds core 0 0 0 := ⟨Nat.le_refl _, fun k d hk => by omega, fun k d _ hk => by omega, fun f hf => by omega⟩
theorem Scan.step {ds : List Ds} {core : Int} {i fd at_ : Nat} (h : Scan ds core i fd at_) (hr : RiseD ds) (h0 : ∀ d ∈ ds, 0 ≤ d.fd) {o : Ds} (ho : ds[i]? = some o) :
  (o.core < core → Scan ds core (i + 1) fd (i + 1)) ∧ (¬ o.core < core → o.core = core → o.fd = (fd : Int) → Scan ds core (i + 1) (fd + 1) (i + 1)) ∧ (¬ o.core < core → ¬ (o.core = core ∧ o.fd = (fd : Int)) → Scan ds core (i + 1) fd at_) := by
 refine ⟨fun hc => ?_, fun hn hc hf => ?_, fun hn hne => ?_⟩
 ·refine ⟨Nat.le_refl _, fun k d hk hd => ?_, fun k d h1 h2 => by omega, fun f hf => ?_⟩
  ·by_cases e : k = i
   ·subst e
    rw [ho] at hd
    cases hd
    exact .inl hc
   ·have := hr k i d o (by omega) hd ho
    unfold ltD at this
    left; omega
  ·obtain ⟨k, d, h1, h2⟩ := h.all f hf
   exact ⟨k, d, by omega, h2⟩
 ·refine ⟨Nat.le_refl _, fun k d hk hd => ?_, fun k d h1 h2 => by omega, fun f hf2 => ?_⟩
  ·by_cases e : k = i
   ·subst e
    rw [ho] at hd
    cases hd
    right; exact ⟨hc, by omega⟩
   ·have := hr k i d o (by omega) hd ho
    unfold ltD at this
    omega
  ·by_cases e : f = fd
   ·subst e
    exact ⟨i, o, by omega, ho, hc, hf⟩
   ·obtain ⟨k, d, h1, h2⟩ := h.all f (by omega)
    exact ⟨k, d, by omega, h2⟩
 ·refine ⟨by have := h.le; omega, h.lo, fun k d h1 h2 hd => ?_, fun f hf => ?_⟩
  ·by_cases e : k = i
   ·subst e
    rw [ho] at hd
    cases hd
    by_cases hc : o.core = core
    ·right
     refine ⟨hc, ?_⟩
     by_cases hlt : o.fd < (fd : Int)
     ·have hz := h0 o (List.mem_of_getElem? ho)
      obtain ⟨k', d', h3, h4, h5, h6⟩ := h.all o.fd.toNat (by omega)
      have := hr k' k d' o h3 h4 ho
      unfold ltD at this
      omega
     ·have : o.fd ≠ (fd : Int) := fun e => hne ⟨hc, e⟩
      omega
    ·left; omega
   ·exact h.hi k d h1 (by omega) hd
  ·obtain ⟨k, d, h1, h2⟩ := h.all f hf
   exact ⟨k, d, by omega, h2⟩
inductive Rn (is : List Ino) : Int → Prop where
 | root : Rn is 1
 | step {x : Ino} {e : En} : Rn is x.num → x ∈ is → x.dir = true → e ∈ x.ents → Rn is e.num
theorem atV_ge {is : List Ino} {n : Int} : 0 ≤ atV is n ↔ ∃ y ∈ is, y.num = n := by
 rcases atV_cases is n with ⟨h1, h2⟩ | ⟨k, x, h1, h2, h3, _⟩
 ·constructor
  ·intro h; omega
  ·rintro ⟨y, hy, hn⟩; exact absurd hn (h2 y hy)
 ·constructor
  ·intro _; exact ⟨x, List.mem_of_getElem? h2, h3⟩
  ·intro _; omega
theorem entsG_each (is : List Ino) : ∀ (es : List En) (p : Option ByteArray) (many : Nat → Nat), entsG is es p many = true → (∀ e ∈ es, chkB e.name = 0 ∧ e.num ≠ 1 ∧ ∃ y ∈ is, y.num = e.num) ∧ ∀ b, many b ≤ 4 → many b + bktE es b ≤ 4
 | [], p, many, h => ⟨by simp, fun b hb => by simpa [bktE] using hb⟩
 | e :: es, p, many, h => by
  unfold entsG at h
  by_cases h1 : entBad is p e = true
  ·rw [if_pos h1] at h; cases h
  ·rw [if_neg h1] at h
   by_cases h2 : 4 < many (bktB e.name) + 1
   ·rw [if_pos h2] at h; cases h
   ·rw [if_neg h2] at h
    obtain ⟨r1, r2⟩ := entsG_each is es _ _ h
    have hb : chkB e.name = 0 ∧ e.num ≠ 1 ∧ 0 ≤ atV is e.num := by
     unfold entBad at h1
     simp only [Bool.or_eq_true, decide_eq_true_eq, not_or] at h1
     obtain ⟨⟨⟨a1, _⟩, a2⟩, a3⟩ := h1
     exact ⟨by omega, a2, by omega⟩
    refine ⟨fun x hx => ?_, fun b hb4 => ?_⟩
    ·rcases List.mem_cons.1 hx with rfl | hx
     ·exact ⟨hb.1, hb.2.1, atV_ge.1 hb.2.2⟩
     ·exact r1 x hx
    ·have h3 := r2 b
     unfold bktE
     by_cases hbb : b = bktB e.name
     ·rw [if_pos hbb] at h3
      rw [if_pos hbb.symm]
      have := h3 (by rw [hbb]; omega)
      omega
     ·rw [if_neg hbb] at h3
      rw [if_neg (fun e2 => hbb e2.symm)]
      have := h3 hb4
      omega
theorem RiseI.one {is : List Ino} (h : RiseI is) {x y : Ino} (hx : x ∈ is) (hy : y ∈ is) (hn : x.num = y.num) : x = y := by
 obtain ⟨i, hi⟩ := List.getElem?_of_mem hx
 obtain ⟨j, hj⟩ := List.getElem?_of_mem hy
 rcases Nat.lt_trichotomy i j with h1 | h1 | h1
 ·have := h i j x y h1 hi hj; omega
 ·subst h1
  rw [hi] at hj
  exact Option.some.inj hj
 ·have := h j i y x h1 hj hi; omega
theorem Reach.num {is : List Ino} (hr : RiseI is) {k : Nat} (h : Reach is k) : ∃ x, is[k]? = some x ∧ Rn is x.num := by
 induction h with
 | root k hk =>
  rcases atV_cases is 1 with ⟨h1, _⟩ | ⟨j, x, h1, h2, h3, _⟩
  ·omega
  ·have : j = k := by omega
   subst this
   exact ⟨x, h2, by rw [h3]; exact .root⟩
 | step k j x e hk hx hd he hat ih =>
  obtain ⟨x', hx', hrn⟩ := ih
  rw [hx] at hx'
  cases hx'
  rcases atV_cases is e.num with ⟨h1, _⟩ | ⟨i, y, h1, h2, h3, _⟩
  ·omega
  ·have : i = j := by omega
   subst this
   exact ⟨y, h2, by rw [h3]; exact .step hrn (List.mem_of_getElem? hx) hd he⟩
theorem Rn.place {is : List Ino} (hr : RiseI is) (h1 : ∃ x ∈ is, x.num = 1 ∧ x.dir = true) (hw : ∀ x ∈ is, x.dir = true → ∀ e ∈ x.ents, ∃ y ∈ is, y.num = e.num) {n : Int} (h : Rn is n) : ∃ (k : Nat) (x : Ino), is[k]? = some x ∧ x.num = n ∧ Reach is k := by
 induction h with
 | root =>
  obtain ⟨x, hx, hn, _⟩ := h1
  obtain ⟨k, hk⟩ := List.getElem?_of_mem hx
  exact ⟨k, x, hk, hn, .root k (atV_of_rise hr hk hn)⟩
 | step hrn hx hd he ih =>
  rename_i x e
  obtain ⟨k, z, hz, hzn, hzr⟩ := ih
  have : z = x := hr.one (List.mem_of_getElem? hz) hx hzn
  subst this
  obtain ⟨y, hy, hyn⟩ := hw z hx hd e he
  obtain ⟨j, hj⟩ := List.getElem?_of_mem hy
  exact ⟨j, y, hj, hyn, .step k j z e hzr hz hd he (atV_of_rise hr hj hyn)⟩
end Go.Proofs.YthhceopnnappgaaGreatDoor
