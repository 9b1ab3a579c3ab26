/- Parts of the proof, side by side: MoPlain4, MoPlain3, GdN. -/
import Derived.Test.YtilkhmhgjbhfnaaGreatDoorM13
import Derived.Test.YtilkhmhgjbhfnaaGreatDoorM02
import Derived.Test.YtilkhmhgjbhfnaaGreatDoorM05
set_option linter.unusedVariables false
set_option linter.unusedSimpArgs false
namespace Go.Proofs.YtilkhmhgjbhfnaaGreatDoor
theorem walkG_snoc {is : List Ino} : ∀ (ns : List (List UInt8)) (n : List UInt8) (t : Int), (walkG is (ns ++ [n]) t).2 = 0 → 0 ≤ atV is t → Whole is → (walkG is ns t).2 = 0 ∧ ∃ (i : Nat) (x : Ino) (e : En), atV is (walkG is ns t).1 = (i : Int) ∧ is[i]? = some x ∧ x.num = (walkG is ns t).1 ∧ x.dir = true ∧ e ∈ x.ents ∧ e.num = (walkG is (ns ++ [n]) t).1
 | [], n, t, h, ht, hw => by
  obtain ⟨i, x, h1, h2, h3⟩ := atV_some ht
  rw [List.nil_append] at h ⊢
  unfold walkG at h ⊢
  rw [h1, inoAt_nat, h2] at h ⊢
  simp only at h ⊢
  by_cases hd : x.dir = false
  ·rw [if_pos hd] at h; cases h
  ·rw [if_neg hd] at h ⊢
   by_cases he : entV is t (txt n) = 0
   ·rw [if_pos he] at h; cases h
   ·rw [if_neg he]
    refine ⟨by first | rfl | trivial, i, x, ?_⟩
    have he2 := entV_at h1 h2 (txt n)
    rw [he2] at he
    obtain ⟨j, e, hj, _, hn⟩ := entG_some x.ents (txt n) he
    refine ⟨e, by first | exact h1 | rfl, h2, h3, by cases hdd : x.dir <;> simp_all, List.mem_of_getElem? hj, ?_⟩
    show e.num = entV is t (txt n)
    rw [he2, hn]
 | m :: ns, n, t, h, ht, hw => by
  obtain ⟨i, x, h1, h2, h3⟩ := atV_some ht
  rw [List.cons_append] at h ⊢
  unfold walkG at h ⊢
  rw [h1, inoAt_nat, h2] at h ⊢
  simp only at h ⊢
  by_cases hd : x.dir = false
  ·rw [if_pos hd] at h; cases h
  ·rw [if_neg hd] at h ⊢
   by_cases he : entV is t (txt m) = 0
   ·rw [if_pos he] at h; cases h
   ·rw [if_neg he] at h ⊢
    rw [if_neg hd, if_neg he]
    exact walkG_snoc ns n _ h (entV_whole hw he) hw
def stepP (is : List Ino) (NS : List (List UInt8)) (r : Nat) : Int := (walkG is (NS.take r) 1).1
def throughV (is : List Ino) (NS : List (List UInt8)) (num : Int) : Bool := (List.range NS.length).any fun r => stepP is NS r == num
theorem walk_prefix {s : St} (h : Good s) {NS : List (List UInt8)} : ∀ (k r : Nat), r + k = NS.length - 1 → (walkG s.inos NS.dropLast 1).2 = 0 → (walkG s.inos (NS.take r) 1).2 = 0
 | 0, r, hr, hc => by
  rw [show r = NS.length - 1 by omega, ← List.dropLast_eq_take]
  exact hc
 | k + 1, r, hr, hc => by
  have ih := walk_prefix h k (r + 1) (by omega) hc
  rw [List.take_add_one, List.getElem?_eq_getElem (show r < NS.length by omega)] at ih
  exact (walkG_snoc _ _ _ ih (by rw [h.root_at]; omega) h.whole).1
theorem step_next {s : St} (h : Good s) {NS : List (List UInt8)} (hc : (walkG s.inos NS.dropLast 1).2 = 0) {r : Nat} (hr : r + 1 ≤ NS.length - 1) : ∃ (i : Nat) (x : Ino) (e : En), s.inos[i]? = some x ∧ x.num = stepP s.inos NS r ∧ x.dir = true ∧ e ∈ x.ents ∧ e.num = stepP s.inos NS (r + 1) := by
 have h1 := walk_prefix h (NS.length - 1 - (r + 1)) (r + 1) (by omega) hc
 have h0 := h1
 rw [List.take_add_one, List.getElem?_eq_getElem (show r < NS.length by omega)] at h1
 obtain ⟨_, i, x, e, a1, a2, a3, a4, a5, a6⟩ := walkG_snoc _ _ _ h1 (by rw [h.root_at]; omega) h.whole
 refine ⟨i, x, e, a2, a3, a4, a5, ?_⟩
 rw [a6]
 unfold stepP
 rw [List.take_add_one, List.getElem?_eq_getElem (show r < NS.length by omega)]
 rfl
theorem withinF_mono {is : List Ino} {dir : Int} : ∀ (n : Nat) (top : Int), withinF is dir n top = true → withinF is dir (n + 1) top = true
 | 0, top, h => by cases h
 | n + 1, top, h => by
  unfold withinF at h ⊢
  by_cases hd : dir = top
  ·rw [if_pos hd]
  ·rw [if_neg hd] at h ⊢
   cases hx : inoAt is (atV is top) with
   | none => rw [hx] at h; cases h
   | some x =>
    rw [hx] at h
    simp only [List.any_eq_true, Bool.and_eq_true] at h ⊢
    obtain ⟨e, h1, h2, h3⟩ := h
    exact ⟨e, h1, h2, withinF_mono n _ h3⟩
theorem withinF_le {is : List Ino} {dir top : Int} {n m : Nat} (h : withinF is dir n top = true) (hm : n ≤ m) : withinF is dir m top = true := by
 obtain ⟨k, rfl⟩ : ∃ k, m = n + k := ⟨m - n, by omega⟩
 clear hm
 induction k with
 | zero => exact h
 | succ k ih => exact withinF_mono _ _ ih
theorem within_step {s : St} (h : Good s) {NS : List (List UInt8)} (hc : (walkG s.inos NS.dropLast 1).2 = 0) {dir : Int} (hdir : stepP s.inos NS (NS.length - 1) = dir) : ∀ (n : Nat) (top : Int), withinF s.inos dir n top = true → ∃ r, r ≤ NS.length - 1 ∧ stepP s.inos NS r = top
 | 0, top, hw => by cases hw
 | n + 1, top, hw => by
  unfold withinF at hw
  by_cases hd : dir = top
  ·exact ⟨NS.length - 1, Nat.le_refl _, by rw [hdir, hd]⟩
  ·rw [if_neg hd] at hw
   cases hx : inoAt s.inos (atV s.inos top) with
   | none => rw [hx] at hw; cases hw
   | some x =>
    rw [hx] at hw
    simp only [List.any_eq_true, Bool.and_eq_true] at hw
    obtain ⟨e, he, hed, hwe⟩ := hw
    obtain ⟨i, hi, hix⟩ := inoAt_some hx
    have hxn : x.num = top := by
     rcases atV_cases s.inos top with ⟨h1, _⟩ | ⟨k, y, h1, h2, h3, _⟩
     ·rw [h1] at hi; omega
     ·rw [h1] at hi
      have : k = i := by omega
      subst this
      rw [h2] at hix
      cases hix
      exact h3
    have hxd : x.dir = true := by
     cases hd2 : x.dir
     ·rw [(h.files x (List.mem_of_getElem? hix) hd2).1] at he
      simp at he
     ·rfl
    obtain ⟨j, z, hj, hz, hzn, hat⟩ := h.ent hix hxd he
    have hzd : z.dir = true := by
     unfold dirAt at hed
     rw [hat, inoAt_nat, hz] at hed
     exact hed
    obtain ⟨r, hr, hrs⟩ := within_step h hc hdir n e.num hwe
    cases r with
    | zero =>
     have h1 : stepP s.inos NS 0 = 1 := by unfold stepP; rw [List.take_zero]; rfl
     rw [h1] at hrs
     have h2 := h.root_at
     rw [hrs, hat] at h2
     omega
    | succ r =>
     obtain ⟨i2, y, e2, hy, hyn, hyd, he2, hen⟩ := step_next h hc hr
     have := h.parent hj hz hzd hix hxd he hzn.symm hy hyd he2 (by rw [hen, hrs, hzn])
     subst this
     rw [hix] at hy
     cases hy
     exact ⟨r, by omega, by rw [← hyn, hxn]⟩
theorem step_within {s : St} (h : Good s) {NS : List (List UInt8)} (hc : (walkG s.inos NS.dropLast 1).2 = 0) {dir : Int} (hdir : stepP s.inos NS (NS.length - 1) = dir) (hdd : dirAt s.inos dir = true) : ∀ (k r : Nat), r + k = NS.length - 1 → withinF s.inos dir (k + 1) (stepP s.inos NS r) = true
 | 0, r, hr => by
  unfold withinF
  rw [if_pos (by rw [← hdir, show r = NS.length - 1 by omega])]
 | k + 1, r, hr => by
  have ih := step_within h hc hdir hdd k (r + 1) (by omega)
  obtain ⟨i, x, e, hx, hxn, hxd, he, hen⟩ := step_next h hc (r := r) (by omega)
  unfold withinF
  by_cases hd : dir = stepP s.inos NS r
  ·rw [if_pos hd]
  ·rw [if_neg hd, ← hxn, h.idx hx, inoAt_nat, hx]
   simp only [List.any_eq_true, Bool.and_eq_true]
   refine ⟨e, he, ?_, by rw [hen]; exact ih⟩
   rw [hen]
   by_cases hl : r + 1 = NS.length - 1
   ·rw [hl, hdir]; exact hdd
   ·obtain ⟨i2, y, _, hy, hyn, hyd, _⟩ := step_next h hc (r := r + 1) (by omega)
    rw [← hyn]
    unfold dirAt
    rw [h.idx hy, inoAt_nat, hy]
    exact hyd
theorem step_lev {s : St} (h : Good s) {NS : List (List UInt8)} (hc : (walkG s.inos NS.dropLast 1).2 = 0) : ∀ (r : Nat), r ≤ NS.length - 1 → ∃ (i : Nat) (x : Ino), s.inos[i]? = some x ∧ x.num = stepP s.inos NS r ∧ Lev s.inos r i
 | 0, _ => by
  obtain ⟨x, hx, hn, _⟩ := h.root
  exact ⟨0, x, hx, hn, Lev.root⟩
 | r + 1, hr => by
  obtain ⟨i, x, hx, hxn, hl⟩ := step_lev h hc r (by omega)
  obtain ⟨i2, y, e, hy, hyn, hyd, he, hen⟩ := step_next h hc hr
  have : i = i2 := by
   have h1 := h.idx hx
   have h2 := h.idx hy
   rw [hxn] at h1
   rw [hyn, h1] at h2
   omega
  subst this
  obtain ⟨j, z, hj, hz, hzn, hat⟩ := h.ent hy hyd he
  exact ⟨j, z, hz, by rw [hzn, hen], Lev.step hl hy hyd he hat⟩
theorem through_within {s : St} (h : Good s) {NS : List (List UInt8)} (hc : (walkG s.inos NS.dropLast 1).2 = 0) (hne : NS ≠ []) (hdd : dirAt s.inos (walkG s.inos NS.dropLast 1).1 = true) (num : Int) : throughV s.inos NS num = withinV s.inos (walkG s.inos NS.dropLast 1).1 num := by
 have hdir : stepP s.inos NS (NS.length - 1) = (walkG s.inos NS.dropLast 1).1 := by unfold stepP; rw [List.dropLast_eq_take]
 have hl : 0 < NS.length := List.length_pos_iff.2 hne
 rw [Bool.eq_iff_iff]
 unfold throughV withinV
 rw [List.any_eq_true]
 constructor
 ·rintro ⟨r, hr, he⟩
  rw [List.mem_range] at hr
  rw [beq_iff_eq] at he
  have h1 := step_within h hc hdir hdd (NS.length - 1 - r) r (by omega)
  rw [he] at h1
  refine withinF_le h1 ?_
  obtain ⟨i, x, hx, hxn, hlev⟩ := step_lev h hc (NS.length - 1) (Nat.le_refl _)
  rw [hdir] at hxn
  have hxd : x.dir = true := by
   unfold dirAt at hdd
   rw [← hxn, h.idx hx, inoAt_nat, hx] at hdd
   exact hdd
  obtain ⟨l, hw, hll⟩ := h.way _ i x hlev hx hxd
  have := nodup_bound s.inos.length l hw.nodup hw.lt
  omega
 ·intro hw
  obtain ⟨r, hr, he⟩ := within_step h hc hdir _ _ hw
  exact ⟨r, List.mem_range.2 (by omega), by rw [beq_iff_eq]; exact he⟩
theorem parentV_ok {is : List Ino} {path : ByteArray} (h : (parentV is path).2.2 = 0) : (parseL path.data.toList).2 = 0 ∧ (parseL path.data.toList).1 ≠ [] ∧ (walkG is (parseL path.data.toList).1.dropLast 1).2 = 0 ∧ dirAt is (walkG is (parseL path.data.toList).1.dropLast 1).1 = true ∧ (parentV is path).1 = (walkG is (parseL path.data.toList).1.dropLast 1).1 := by
 have hcp : (parseL path.data.toList).2 ≠ 0 → codeP (parseL path.data.toList).2 ≠ 0 := fun h => by unfold codeP; rw [if_neg h]; split <;> decide
 unfold parentV at h ⊢
 by_cases h1 : (parseL path.data.toList).2 ≠ 0
 ·rw [if_pos h1] at h; exact absurd h (hcp h1)
 ·rw [if_neg h1] at h ⊢
  by_cases h2 : (parseL path.data.toList).1 = []
  ·rw [if_pos h2] at h; cases h
  ·rw [if_neg h2] at h ⊢
   by_cases h3 : (walkG is (parseL path.data.toList).1.dropLast 1).2 ≠ 0
   ·rw [if_pos h3] at h; exact absurd h h3
   ·rw [if_neg h3] at h ⊢
    by_cases h4 : dirAt is (walkG is (parseL path.data.toList).1.dropLast 1).1 = false
    ·rw [if_pos h4] at h; cases h
    ·rw [if_neg h4]
     exact ⟨by omega, h2, by omega, by simpa using h4, rfl⟩
def ltD (a b : Ds) : Prop := a.core < b.core ∨ (a.core = b.core ∧ a.fd < b.fd)
def RiseD (ds : List Ds) : Prop := ∀ (i j : Nat) (x y : Ds), i < j → ds[i]? = some x → ds[j]? = some y → ltD x y
theorem ltD_trans {a b c : Ds} (h1 : ltD a b) (h2 : ltD b c) : ltD a c := by unfold ltD at *; omega
theorem opensG_rise (is : List Ino) (n : Nat) : ∀ (ds : List Ds) (p : Option Ds), opensG is n ds p = true → RiseD ds ∧ ∀ q x, p = some q → ds[0]? = some x → ltD q x
 | [], p, h => ⟨fun i j x y _ hx => by simp at hx, fun q x _ hx => by simp at hx⟩
 | d :: ds, p, h => by
  unfold opensG at h
  by_cases h1 : dsBad is n d = true
  ·rw [if_pos h1] at h; cases h
  ·rw [if_neg h1] at h
   by_cases h2 : dsPrev p d = true
   ·rw [if_pos h2] at h; cases h
   ·rw [if_neg h2] at h
    obtain ⟨r1, r2⟩ := opensG_rise is n ds (some d) h
    have key : ∀ (j : Nat) (y : Ds), ds[j]? = some y → ltD d y := by
     intro j
     induction j with
     | zero => intro y hy; exact r2 _ _ rfl hy
     | succ j ih =>
      intro y hy
      have hjl : j < ds.length := by have := (List.getElem?_eq_some_iff.1 hy).1; omega
      exact ltD_trans (ih _ (List.getElem?_eq_getElem hjl)) (r1 j (j + 1) _ _ (by omega) (List.getElem?_eq_getElem hjl) hy)
    refine ⟨fun i j x y hij hx hy => ?_, fun q x hp hx => ?_⟩
    ·cases j with
     | zero => omega
     | succ j =>
      have hy2 : ds[j]? = some y := by simpa using hy
      cases i with
      | zero =>
       have : d = x := by simpa using hx
       subst this
       exact key j y hy2
      | succ i => exact r1 i j x y (by omega) (by simpa using hx) hy2
    ·have : d = x := by simpa using hx
     subst this
     subst hp
     unfold dsPrev at h2
     simp only [Bool.or_eq_true, Bool.and_eq_true, decide_eq_true_eq] at h2
     unfold ltD
     omega
theorem Good.riseD {s : St} (h : Good s) : RiseD s.opn := (opensG_rise _ _ _ _ h.opn).1
structure Scan (ds : List Ds) (core : Int) (i : Nat) (fd : Nat) (at_ : Nat) : Prop where
 le : at_ ≤ i
 lo : ∀ (k : Nat) (d : Ds), k < at_ → ds[k]? = some d → d.core < core ∨ (d.core = core ∧ d.fd < (fd : Int))
 hi : ∀ (k : Nat) (d : Ds), at_ ≤ k → k < i → ds[k]? = some d → core < d.core ∨ (d.core = core ∧ (fd : Int) < d.fd)
 all : ∀ f, f < fd → ∃ (k : Nat) (d : Ds), k < i ∧ ds[k]? = some d ∧ d.core = core ∧ d.fd = (f : Int)
theorem Scan.start (ds : List Ds) (core : Int) : Scan ds core 0 0 0 := ⟨Nat.le_refl _, fun k d hk => by omega, fun k d _ hk => by omega, fun f hf => by omega⟩
theorem Scan.step {ds : List Ds} {core : Int} {i fd at_ : Nat} (h : Scan ds core i fd at_) (hr : RiseD ds) (h0 : ∀ d ∈ ds, 0 ≤ d.fd) {o : Ds} (ho : ds[i]? = some o) :
  (o.core < core → Scan ds core (i + 1) fd (i + 1)) ∧ (¬ o.core < core → o.core = core → o.fd = (fd : Int) → Scan ds core (i + 1) (fd + 1) (i + 1)) ∧ (¬ o.core < core → ¬ (o.core = core ∧ o.fd = (fd : Int)) → Scan ds core (i + 1) fd at_) := by
 refine ⟨fun hc => ?_, fun hn hc hf => ?_, fun hn hne => ?_⟩
 ·refine ⟨Nat.le_refl _, fun k d hk hd => ?_, fun k d h1 h2 => by omega, fun f hf => ?_⟩
  ·by_cases e : k = i
   ·subst e
    rw [ho] at hd
    cases hd
    exact .inl hc
   ·have := hr k i d o (by omega) hd ho
    unfold ltD at this
    left; omega
  ·obtain ⟨k, d, h1, h2⟩ := h.all f hf
   exact ⟨k, d, by omega, h2⟩
 ·refine ⟨Nat.le_refl _, fun k d hk hd => ?_, fun k d h1 h2 => by omega, fun f hf2 => ?_⟩
  ·by_cases e : k = i
   ·subst e
    rw [ho] at hd
    cases hd
    right; exact ⟨hc, by omega⟩
   ·have := hr k i d o (by omega) hd ho
    unfold ltD at this
    omega
  ·by_cases e : f = fd
   ·subst e
    exact ⟨i, o, by omega, ho, hc, hf⟩
   ·obtain ⟨k, d, h1, h2⟩ := h.all f (by omega)
    exact ⟨k, d, by omega, h2⟩
 ·refine ⟨by have := h.le; omega, h.lo, fun k d h1 h2 hd => ?_, fun f hf => ?_⟩
  ·by_cases e : k = i
   ·subst e
    rw [ho] at hd
    cases hd
    by_cases hc : o.core = core
    ·right
     refine ⟨hc, ?_⟩
     by_cases hlt : o.fd < (fd : Int)
     ·have hz := h0 o (List.mem_of_getElem? ho)
      obtain ⟨k', d', h3, h4, h5, h6⟩ := h.all o.fd.toNat (by omega)
      have := hr k' k d' o h3 h4 ho
      unfold ltD at this
      omega
     ·have : o.fd ≠ (fd : Int) := fun e => hne ⟨hc, e⟩
      omega
    ·left; omega
   ·exact h.hi k d h1 (by omega) hd
  ·obtain ⟨k, d, h1, h2⟩ := h.all f hf
   exact ⟨k, d, by omega, h2⟩
theorem putD_pos : ∀ (ds : List Ds) (i : Nat) (y : Ds), i ≤ ds.length → (∀ (k : Nat) (d : Ds), k < i → ds[k]? = some d → ltD d y) → (∀ (k : Nat) (d : Ds), i ≤ k → ds[k]? = some d → ltD y d) → putD ds y = ds.take i ++ [y] ++ ds.drop i
 | [], i, y, hi, _, _ => by
  have : i = 0 := by simpa using hi
  subst this
  rfl
 | e :: t, 0, y, hi, _, h2 => by
  have := h2 0 e (Nat.le_refl _) rfl
  unfold ltD at this
  unfold putD
  rw [if_pos (by omega)]
  rfl
 | e :: t, i + 1, y, hi, h1, h2 => by
  have := h1 0 e (by omega) rfl
  unfold ltD at this
  unfold putD
  rw [if_neg (by omega), putD_pos t i y (by simpa using hi) (fun k x hk hx => h1 (k + 1) x (by omega) (by simpa using hx)) (fun k x hk hx => h2 (k + 1) x (by omega) (by simpa using hx))]
  rfl
theorem fdV_none : ∀ (ds : List Ds) (core fd : Int), (∀ d ∈ ds, ¬ (d.core = core ∧ d.fd = fd)) → fdV ds core fd = 0
 | [], _, _, _ => rfl
 | d :: ds, core, fd, h => by
  unfold fdV
  rw [if_neg (h d (by simp)), fdV_none ds core fd (fun e he => h e (by simp [he]))]
theorem fdV_has : ∀ (ds : List Ds) (core fd : Int), (∀ d ∈ ds, d.num ≠ 0) → (∃ d ∈ ds, d.core = core ∧ d.fd = fd) → fdV ds core fd ≠ 0
 | [], _, _, _, h => by obtain ⟨d, hd, _⟩ := h; simp at hd
 | y :: ds, core, fd, hn, h => by
  unfold fdV
  by_cases hy : y.core = core ∧ y.fd = fd
  ·rw [if_pos hy]; exact hn y (by simp)
  ·rw [if_neg hy]
   refine fdV_has ds core fd (fun d hd => hn d (by simp [hd])) ?_
   obtain ⟨d, hd, h2⟩ := h
   rcases List.mem_cons.1 hd with rfl | hd
   ·exact absurd h2 hy
   ·exact ⟨d, hd, h2⟩
theorem Good.scan {s : St} (h : Good s) {core : Int} {fd at_ : Nat} (hs : Scan s.opn core s.opn.length fd at_) : fd ≤ 4 ∧ freeFd s.opn core = fd ∧ ∀ num, putD s.opn ⟨core, (fd : Int), num⟩ = s.opn.take at_ ++ [⟨core, (fd : Int), num⟩] ++ s.opn.drop at_ := by
 have hn : ∀ d ∈ s.opn, d.num ≠ 0 := fun d hd => by
  obtain ⟨_, _, _, _, i, x, hat, _⟩ := h.opens d hd
  have := (h.num_range (num := d.num) (by omega)).1
  omega
 have hlt : fd ≤ 4 := by
  rcases Nat.lt_or_ge 4 fd with h1 | h1
  ·obtain ⟨k, d, _, hd, _, hf⟩ := hs.all 4 h1
   have := h.opens d (List.mem_of_getElem? hd)
   omega
  ·exact h1
 have hhas : ∀ f, f < fd → fdV s.opn core (f : Int) ≠ 0 := fun f hf => by
  obtain ⟨k, d, _, hd, h1, h2⟩ := hs.all f hf
  exact fdV_has _ _ _ hn ⟨d, List.mem_of_getElem? hd, h1, h2⟩
 have hno : fdV s.opn core (fd : Int) = 0 := fdV_none _ _ _ (fun d hd hh => by
  obtain ⟨k, hk⟩ := List.getElem?_of_mem hd
  by_cases h1 : k < at_
  ·have := hs.lo k d h1 hk; omega
  ·have := hs.hi k d (by omega) (List.getElem?_eq_some_iff.1 hk).1 hk; omega)
 refine ⟨hlt, ?_, fun num => ?_⟩
 ·unfold freeFd
  have a0 : 0 < fd → fdV s.opn core 0 ≠ 0 := hhas 0
  have a1 : 1 < fd → fdV s.opn core 1 ≠ 0 := hhas 1
  have a2 : 2 < fd → fdV s.opn core 2 ≠ 0 := hhas 2
  have a3 : 3 < fd → fdV s.opn core 3 ≠ 0 := hhas 3
  match fd, hlt with
  | 0, _ =>
   have hno2 : fdV s.opn core 0 = 0 := hno
   rw [if_pos hno2]
  | 1, _ =>
   have hno2 : fdV s.opn core 1 = 0 := hno
   rw [if_neg (a0 (by omega)), if_pos hno2]
  | 2, _ =>
   have hno2 : fdV s.opn core 2 = 0 := hno
   rw [if_neg (a0 (by omega)), if_neg (a1 (by omega)), if_pos hno2]
  | 3, _ =>
   have hno2 : fdV s.opn core 3 = 0 := hno
   rw [if_neg (a0 (by omega)), if_neg (a1 (by omega)), if_neg (a2 (by omega)), if_pos hno2]
  | 4, _ => rw [if_neg (a0 (by omega)), if_neg (a1 (by omega)), if_neg (a2 (by omega)), if_neg (a3 (by omega))]
 ·refine putD_pos _ _ _ hs.le (fun k d hk hd => ?_) (fun k d hk hd => ?_)
  ·have := hs.lo k d hk hd
   unfold ltD; simp only; omega
  ·have := hs.hi k d hk (List.getElem?_eq_some_iff.1 hd).1 hd
   unfold ltD; simp only; omega
inductive Rn (is : List Ino) : Int → Prop where
 | root : Rn is 1
 | step {x : Ino} {e : En} : Rn is x.num → x ∈ is → x.dir = true → e ∈ x.ents → Rn is e.num
structure EntsOk (is : List Ino) (es : List En) : Prop where
 each : ∀ e ∈ es, chkB e.name = 0 ∧ e.num ≠ 1 ∧ ∃ y ∈ is, y.num = e.num
 rise : RiseE es
 bkt : ∀ b, bktE es b ≤ 4
theorem atV_ge {is : List Ino} {n : Int} : 0 ≤ atV is n ↔ ∃ y ∈ is, y.num = n := by
 rcases atV_cases is n with ⟨h1, h2⟩ | ⟨k, x, h1, h2, h3, _⟩
 ·constructor
  ·intro h; omega
  ·rintro ⟨y, hy, hn⟩; exact absurd hn (h2 y hy)
 ·constructor
  ·intro _; exact ⟨x, List.mem_of_getElem? h2, h3⟩
  ·intro _; omega
theorem entsG_each (is : List Ino) : ∀ (es : List En) (p : Option ByteArray) (many : Nat → Nat), entsG is es p many = true → (∀ e ∈ es, chkB e.name = 0 ∧ e.num ≠ 1 ∧ ∃ y ∈ is, y.num = e.num) ∧ ∀ b, many b ≤ 4 → many b + bktE es b ≤ 4
 | [], p, many, h => ⟨by simp, fun b hb => by simpa [bktE] using hb⟩
 | e :: es, p, many, h => by
  unfold entsG at h
  by_cases h1 : entBad is p e = true
  ·rw [if_pos h1] at h; cases h
  ·rw [if_neg h1] at h
   by_cases h2 : 4 < many (bktB e.name) + 1
   ·rw [if_pos h2] at h; cases h
   ·rw [if_neg h2] at h
    obtain ⟨r1, r2⟩ := entsG_each is es _ _ h
    have hb : chkB e.name = 0 ∧ e.num ≠ 1 ∧ 0 ≤ atV is e.num := by
     unfold entBad at h1
     simp only [Bool.or_eq_true, decide_eq_true_eq, not_or] at h1
     obtain ⟨⟨⟨a1, _⟩, a2⟩, a3⟩ := h1
     exact ⟨by omega, a2, by omega⟩
    refine ⟨fun x hx => ?_, fun b hb4 => ?_⟩
    ·rcases List.mem_cons.1 hx with rfl | hx
     ·exact ⟨hb.1, hb.2.1, atV_ge.1 hb.2.2⟩
     ·exact r1 x hx
    ·have h3 := r2 b
     unfold bktE
     by_cases hbb : b = bktB e.name
     ·rw [if_pos hbb] at h3
      rw [if_pos hbb.symm]
      have := h3 (by rw [hbb]; omega)
      omega
     ·rw [if_neg hbb] at h3
      rw [if_neg (fun e2 => hbb e2.symm)]
      have := h3 hb4
      omega
theorem entsG_of (is : List Ino) : ∀ (es : List En) (p : Option ByteArray) (many : Nat → Nat), (∀ e ∈ es, chkB e.name = 0 ∧ e.num ≠ 1 ∧ ∃ y ∈ is, y.num = e.num) → RiseE es → (∀ q x, p = some q → es[0]? = some x → ltN q x.name = true) → (∀ b, bktE es b = 0 ∨ many b + bktE es b ≤ 4) → entsG is es p many = true
 | [], p, many, _, _, _, _ => rfl
 | e :: es, p, many, h1, h2, h3, h4 => by
  have he := h1 e (by simp)
  have hb := h4 (bktB e.name)
  have hbe : bktE (e :: es) (bktB e.name) = 1 + bktE es (bktB e.name) := by
   show (if bktB e.name = bktB e.name then 1 else 0) + bktE es (bktB e.name) = _
   rw [if_pos rfl]
  have hbad : entBad is p e = false := by
   have ha := atV_ge.2 he.2.2
   unfold entBad
   rw [Bool.or_eq_false_iff, Bool.or_eq_false_iff, Bool.or_eq_false_iff]
   refine ⟨⟨⟨?_, ?_⟩, ?_⟩, ?_⟩
   ·rw [decide_eq_false_iff_not]; intro h; exact h he.1
   ·cases p with
    | none => rfl
    | some q =>
     have := h3 q e rfl rfl
     simp [this]
   ·rw [decide_eq_false_iff_not]; exact he.2.1
   ·rw [decide_eq_false_iff_not]; omega
  unfold entsG
  rw [if_neg (by rw [hbad]; decide), if_neg (by omega)]
  refine entsG_of is es _ _ (fun x hx => h1 x (by simp [hx])) h2.tail (fun q x hq hx => ?_) (fun b => ?_)
  ·cases hq
   exact h2 0 1 e x (by omega) rfl (by simpa using hx)
  ·have hbb := h4 b
   have hbs : bktE (e :: es) b = (if bktB e.name = b then 1 else 0) + bktE es b := rfl
   by_cases hq : b = bktB e.name
   ·rw [if_pos hq]
    rw [hbs, if_pos hq.symm] at hbb
    omega
   ·rw [if_neg hq]
    rw [hbs, if_neg (fun e2 => hq e2.symm)] at hbb
    omega
theorem entsV_iff {is : List Ino} {es : List En} : entsV is es = true ↔ EntsOk is es := by
 constructor
 ·intro h
  obtain ⟨h1, h2⟩ := entsG_each is es _ _ h
  exact ⟨h1, (entsG_rise is es _ _ h).1, fun b => by have := h2 b (by omega); omega⟩
 ·intro h
  exact entsG_of is es _ _ h.each h.rise (fun q x hq => by cases hq) (fun b => .inr (by have := h.bkt b; omega))
theorem opensG_of (is : List Ino) (n : Nat) : ∀ (ds : List Ds) (p : Option Ds), (∀ d ∈ ds, dsBad is n d = false) → RiseD ds → (∀ q x, p = some q → ds[0]? = some x → ltD q x) → opensG is n ds p = true
 | [], p, _, _, _ => rfl
 | d :: ds, p, h1, h2, h3 => by
  have hp : dsPrev p d = false := by
   cases p with
   | none => rfl
   | some q =>
    have := h3 q d rfl rfl
    unfold ltD at this
    simp only [dsPrev, Bool.or_eq_false_iff, Bool.and_eq_false_iff, decide_eq_false_iff_not]
    omega
  unfold opensG
  rw [if_neg (by rw [h1 d (by simp)]; decide), if_neg (by rw [hp]; decide)]
  refine opensG_of is n ds _ (fun x hx => h1 x (by simp [hx])) (fun i j x y hij hx hy => h2 (i + 1) (j + 1) x y (by omega) (by simpa using hx) (by simpa using hy)) (fun q x hq hx => ?_)
  cases hq
  exact h2 0 1 d x (by omega) rfl (by simpa using hx)
structure Frm (s : St) : Prop where
 m1 : 1 ≤ s.made.length
 m8 : s.made.length ≤ 8
 mr : ∀ m ∈ s.made, 0 ≤ m ∧ m ≤ 32
 rise : RiseI s.inos
 root : ∃ x ∈ s.inos, x.num = 1 ∧ x.dir = true
 given : ∀ x ∈ s.inos, x.num ≠ 1 → givenV s.made x.num = true
 dirs : ∀ x ∈ s.inos, x.dir = true → x.data.size = 0 ∧ EntsOk s.inos x.ents
 files : ∀ x ∈ s.inos, x.dir = false → x.ents = [] ∧ x.data.size ≤ 256
 opn : ∀ d ∈ s.opn, 0 ≤ d.core ∧ d.core < (s.made.length : Int) ∧ 0 ≤ d.fd ∧ d.fd < 4 ∧ ∃ y ∈ s.inos, y.num = d.num ∧ y.dir = false
 riseD : RiseD s.opn
structure Had (s : St) : Prop where
 one : ∀ x ∈ s.inos, x.num ≠ 1 → x.dir = true → linkI s.inos x.num = 1 ∧ Rn s.inos x.num
 has : ∀ x ∈ s.inos, x.dir = false → Rn s.inos x.num ∨ openB s.opn x.num = true
theorem given_pos {made : List Int} {n : Int} (h : givenV made n = true) : 2 ≤ n := by
 unfold givenV at h
 by_cases h2 : n < 2
 ·rw [if_pos h2] at h; cases h
 ·omega
theorem RiseI.one {is : List Ino} (h : RiseI is) {x y : Ino} (hx : x ∈ is) (hy : y ∈ is) (hn : x.num = y.num) : x = y := by
 obtain ⟨i, hi⟩ := List.getElem?_of_mem hx
 obtain ⟨j, hj⟩ := List.getElem?_of_mem hy
 rcases Nat.lt_trichotomy i j with h1 | h1 | h1
 ·have := h i j x y h1 hi hj; omega
 ·subst h1
  rw [hi] at hj
  exact Option.some.inj hj
 ·have := h j i y x h1 hj hi; omega
theorem Reach.num {is : List Ino} (hr : RiseI is) {k : Nat} (h : Reach is k) : ∃ x, is[k]? = some x ∧ Rn is x.num := by
 induction h with
 | root k hk =>
  rcases atV_cases is 1 with ⟨h1, _⟩ | ⟨j, x, h1, h2, h3, _⟩
  ·omega
  ·have : j = k := by omega
   subst this
   exact ⟨x, h2, by rw [h3]; exact .root⟩
 | step k j x e hk hx hd he hat ih =>
  obtain ⟨x', hx', hrn⟩ := ih
  rw [hx] at hx'
  cases hx'
  rcases atV_cases is e.num with ⟨h1, _⟩ | ⟨i, y, h1, h2, h3, _⟩
  ·omega
  ·have : i = j := by omega
   subst this
   exact ⟨y, h2, by rw [h3]; exact .step hrn (List.mem_of_getElem? hx) hd he⟩
theorem Rn.place {is : List Ino} (hr : RiseI is) (h1 : ∃ x ∈ is, x.num = 1 ∧ x.dir = true) (hw : ∀ x ∈ is, x.dir = true → ∀ e ∈ x.ents, ∃ y ∈ is, y.num = e.num) {n : Int} (h : Rn is n) : ∃ (k : Nat) (x : Ino), is[k]? = some x ∧ x.num = n ∧ Reach is k := by
 induction h with
 | root =>
  obtain ⟨x, hx, hn, _⟩ := h1
  obtain ⟨k, hk⟩ := List.getElem?_of_mem hx
  exact ⟨k, x, hk, hn, .root k (atV_of_rise hr hk hn)⟩
 | step hrn hx hd he ih =>
  rename_i x e
  obtain ⟨k, z, hz, hzn, hzr⟩ := ih
  have : z = x := hr.one (List.mem_of_getElem? hz) hx hzn
  subst this
  obtain ⟨y, hy, hyn⟩ := hw z hx hd e he
  obtain ⟨j, hj⟩ := List.getElem?_of_mem hy
  exact ⟨j, y, hj, hyn, .step k j z e hzr hz hd he (atV_of_rise hr hj hyn)⟩
theorem Good.frm {s : St} (h : Good s) : Frm s ∧ Had s := by
 obtain ⟨r, hr, hrn, hrd⟩ := h.root
 have hri := h.riseI
 have hidx : ∀ x ∈ s.inos, x.num ≠ 1 → ∃ i, 0 < i ∧ s.inos[i]? = some x := fun x hx hn => by
  obtain ⟨i, hi⟩ := List.getElem?_of_mem hx
  rcases Nat.eq_zero_or_pos i with rfl | hp
  ·rw [hr] at hi
   cases hi
   exact absurd hrn hn
  ·exact ⟨i, hp, hi⟩
 refine ⟨⟨h.m1, h.m8, h.mr, hri, ⟨r, List.mem_of_getElem? hr, hrn, hrd⟩, ?_, fun x hx hd => ⟨(h.dirs x hx hd).1, entsV_iff.1 (h.dirs x hx hd).2⟩, h.files, ?_, h.riseD⟩, ?_, ?_⟩
 ·intro x hx hn
  obtain ⟨i, hi, hi2⟩ := hidx x hx hn
  exact h.given i x hi hi2
 ·intro d hd
  obtain ⟨a1, a2, a3, a4, i, x, _, a5, a6, a7⟩ := h.opens d hd
  exact ⟨a1, a2, a3, a4, x, List.mem_of_getElem? a5, a6, a7⟩
 ·intro x hx hn hd
  obtain ⟨i, hi, hi2⟩ := hidx x hx hn
  obtain ⟨h1, h2⟩ := h.one i x hi hi2 hd
  obtain ⟨y, hy, hyr⟩ := h2.num hri
  rw [hi2] at hy
  cases hy
  exact ⟨h1, hyr⟩
 ·intro x hx hd
  obtain ⟨i, hi⟩ := List.getElem?_of_mem hx
  rcases h.has i x hi hd with h2 | h2
  ·obtain ⟨y, hy, hyr⟩ := h2.num hri
   rw [hi] at hy
   cases hy
   exact .inl hyr
  ·exact .inr h2
theorem Frm.good {s : St} (h : Frm s) (g : Had s) : Good s := by
 have hi0 : ∃ x, s.inos[0]? = some x ∧ x.num = 1 ∧ x.dir = true := by
  obtain ⟨x, hx, hn, hd⟩ := h.root
  obtain ⟨i, hi⟩ := List.getElem?_of_mem hx
  rcases Nat.eq_zero_or_pos i with rfl | hp
  ·exact ⟨x, hi, hn, hd⟩
  ·exfalso
   have hl : 0 < s.inos.length := by have := (List.getElem?_eq_some_iff.1 hi).1; omega
   have h0 := List.getElem?_eq_getElem hl
   have h1 := h.rise 0 i _ x hp h0 hi
   have h2 := given_pos (h.given _ (List.mem_of_getElem? h0) (by omega))
   omega
 have hne : ∀ (i : Nat) (x : Ino), 0 < i → s.inos[i]? = some x → x.num ≠ 1 := fun i x hi hx hn => by
  obtain ⟨r, hr, hrn, _⟩ := hi0
  have := h.rise 0 i r x hi hr hx
  omega
 have hw : ∀ x ∈ s.inos, x.dir = true → ∀ e ∈ x.ents, ∃ y ∈ s.inos, y.num = e.num := fun x hx hd e he => ((h.dirs x hx hd).2.each e he).2.2
 have hpl : ∀ {i : Nat} {x : Ino}, s.inos[i]? = some x → Rn s.inos x.num → Reach s.inos i := fun {i x} hx hrn => by
  obtain ⟨k, y, hy, hyn, hyr⟩ := hrn.place h.rise h.root hw
  have : k = i := by
   rcases Nat.lt_trichotomy k i with h1 | h1 | h1
   ·have := h.rise k i y x h1 hy hx; omega
   ·exact h1
   ·have := h.rise i k x y h1 hx hy; omega
  subst this
  exact hyr
 refine ⟨h.m1, h.m8, h.mr, hi0, ?_, fun i x hi hx => h.given x (List.mem_of_getElem? hx) (hne i x hi hx), fun x hx hd => ⟨(h.dirs x hx hd).1, entsV_iff.2 (h.dirs x hx hd).2⟩, h.files, ?_, ?_, ?_⟩
 ·rw [List.pairwise_iff_getElem]
  intro i j hi hj hij
  exact h.rise i j _ _ hij (List.getElem?_eq_getElem hi) (List.getElem?_eq_getElem hj)
 ·refine opensG_of _ _ _ _ (fun d hd => ?_) h.riseD (fun q x hq => by cases hq)
  obtain ⟨a1, a2, a3, a4, y, hy, hyn, hyd⟩ := h.opn d hd
  obtain ⟨j, hj⟩ := List.getElem?_of_mem hy
  have hat := atV_of_rise h.rise hj hyn
  unfold dsBad
  simp only [Bool.or_eq_false_iff, decide_eq_false_iff_not]
  refine ⟨⟨⟨⟨by omega, by omega⟩, by omega⟩, by omega⟩, ?_⟩
  rw [hat, inoAt_nat, hj]
  exact hyd
 ·intro i x hi hx hd
  obtain ⟨h1, h2⟩ := g.one x (List.mem_of_getElem? hx) (hne i x hi hx) hd
  exact ⟨h1, hpl hx h2⟩
 ·intro i x hx hd
  rcases g.has x (List.mem_of_getElem? hx) hd with h2 | h2
  ·exact .inl (hpl hx h2)
  ·exact .inr h2
end Go.Proofs.YtilkhmhgjbhfnaaGreatDoor
