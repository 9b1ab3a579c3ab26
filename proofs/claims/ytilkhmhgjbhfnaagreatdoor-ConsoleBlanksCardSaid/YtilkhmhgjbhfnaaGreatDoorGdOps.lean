/- What puts, drops and turns leave of a state that may be. No program in sight. -/
import Derived.Test.YtilkhmhgjbhfnaaGreatDoorM14
set_option linter.unusedVariables false
set_option linter.unusedSimpArgs false
namespace Go.Proofs.YtilkhmhgjbhfnaaGreatDoor
def modN (is : List Ino) (n : Int) (f : List En → List En) : List Ino := is.map fun x => if x.num = n then { x with ents := f x.ents } else x
theorem mem_modN {is : List Ino} {n : Int} {f : List En → List En} {z : Ino} : z ∈ modN is n f ↔ ∃ x ∈ is, (x.num = n ∧ z = { x with ents := f x.ents }) ∨ (x.num ≠ n ∧ z = x) := by
 unfold modN
 rw [List.mem_map]
 constructor
 ·rintro ⟨x, hx, rfl⟩
  by_cases h : x.num = n
  ·exact ⟨x, hx, .inl ⟨h, by rw [if_pos h]⟩⟩
  ·exact ⟨x, hx, .inr ⟨h, by rw [if_neg h]⟩⟩
 ·rintro ⟨x, hx, ⟨h, rfl⟩ | ⟨h, rfl⟩⟩
  ·exact ⟨x, hx, by rw [if_pos h]⟩
  ·exact ⟨z, hx, by rw [if_neg h]⟩
theorem setEnts_modN {is : List Ino} (hr : RiseI is) {x : Ino} {n : Int} (hx : x ∈ is) (hn : x.num = n) (f : List En → List En) : setEnts is n f = modN is n f := by
 obtain ⟨i, hi⟩ := List.getElem?_of_mem hx
 have hat := atV_of_rise hr hi hn
 unfold setEnts modN
 rw [hat, Int.toNat_natCast, modify_set _ _ _ _ hi]
 apply List.ext_getElem?
 intro j
 rw [List.getElem?_set, List.getElem?_map]
 have hl := (List.getElem?_eq_some_iff.1 hi).1
 by_cases e : i = j
 ·subst e
  rw [if_pos rfl, if_pos hl, hi]
  simp [hn]
 ·rw [if_neg e]
  cases hj : is[j]? with
  | none => rfl
  | some y =>
   have hne : y.num ≠ n := fun h => by
    have := atV_of_rise hr hj h
    omega
   simp [hne]
theorem rise_modN {is : List Ino} (hr : RiseI is) (n : Int) (f : List En → List En) : RiseI (modN is n f) := by
 have key : ∀ (j : Nat) (z : Ino), (modN is n f)[j]? = some z → ∃ x, is[j]? = some x ∧ z.num = x.num := by
  intro j z hz
  unfold modN at hz
  rw [List.getElem?_map] at hz
  obtain ⟨x, hx, rfl⟩ := Option.map_eq_some_iff.1 hz
  exact ⟨x, hx, by split <;> rfl⟩
 intro i j a b hij ha hb
 obtain ⟨x, hx, h1⟩ := key i a ha
 obtain ⟨y, hy, h2⟩ := key j b hb
 rw [h1, h2]
 exact hr i j x y hij hx hy
theorem linkI_modN {is : List Ino} (hr : RiseI is) {x : Ino} {n : Int} (hx : x ∈ is) (hn : x.num = n) (hd : x.dir = true) (f : List En → List En) (m : Int) : linkI (modN is n f) m + linkE x.ents m = linkI is m + linkE (f x.ents) m := by
 obtain ⟨i, hi⟩ := List.getElem?_of_mem hx
 have h1 := linkI_set is i x { x with ents := f x.ents } m hi
 rw [← setEnts_modN hr hx hn]
 unfold setEnts
 rw [atV_of_rise hr hi hn, Int.toNat_natCast, modify_set _ _ _ _ hi]
 rw [if_pos hd, if_pos (show ({ x with ents := f x.ents } : Ino).dir = true from hd)] at h1
 exact h1
theorem linkE_put : ∀ (es : List En) (nm : ByteArray) (num m : Int), linkE (putE es nm num) m = linkE es m + (if num = m then 1 else 0)
 | [], nm, num, m => by simp [putE, linkE]
 | e :: es, nm, num, m => by
  unfold putE
  split
  ·show (if num = m then 1 else 0) + linkE (e :: es) m = _
   omega
  ·show (if e.num = m then 1 else 0) + linkE (putE es nm num) m = (if e.num = m then 1 else 0) + linkE es m + _
   rw [linkE_put es nm num m]
   omega
theorem bktE_put : ∀ (es : List En) (nm : ByteArray) (num : Int) (b : Nat), bktE (putE es nm num) b = bktE es b + (if bktB nm = b then 1 else 0)
 | [], nm, num, b => by simp [putE, bktE]
 | e :: es, nm, num, b => by
  unfold putE
  split
  ·show (if bktB nm = b then 1 else 0) + bktE (e :: es) b = _
   omega
  ·show (if bktB e.name = b then 1 else 0) + bktE (putE es nm num) b = (if bktB e.name = b then 1 else 0) + bktE es b + _
   rw [bktE_put es nm num b]
   omega
theorem riseE_iff {es : List En} : RiseE es ↔ es.Pairwise fun x y => ltN x.name y.name = true := by
 constructor
 ·intro h
  rw [List.pairwise_iff_getElem]
  intro i j hi hj hij
  exact h i j _ _ hij (List.getElem?_eq_getElem hi) (List.getElem?_eq_getElem hj)
 ·intro h i j x y hij hx hy
  obtain ⟨hi, rfl⟩ := List.getElem?_eq_some_iff.1 hx
  obtain ⟨hj, rfl⟩ := List.getElem?_eq_some_iff.1 hy
  exact List.pairwise_iff_getElem.1 h i j hi hj hij
theorem riseI_iff {is : List Ino} : RiseI is ↔ is.Pairwise fun x y => x.num < y.num := by
 constructor
 ·intro h
  rw [List.pairwise_iff_getElem]
  intro i j hi hj hij
  exact h i j _ _ hij (List.getElem?_eq_getElem hi) (List.getElem?_eq_getElem hj)
 ·intro h i j x y hij hx hy
  obtain ⟨hi, rfl⟩ := List.getElem?_eq_some_iff.1 hx
  obtain ⟨hj, rfl⟩ := List.getElem?_eq_some_iff.1 hy
  exact List.pairwise_iff_getElem.1 h i j hi hj hij
theorem riseD_iff {ds : List Ds} : RiseD ds ↔ ds.Pairwise ltD := by
 constructor
 ·intro h
  rw [List.pairwise_iff_getElem]
  intro i j hi hj hij
  exact h i j _ _ hij (List.getElem?_eq_getElem hi) (List.getElem?_eq_getElem hj)
 ·intro h i j x y hij hx hy
  obtain ⟨hi, rfl⟩ := List.getElem?_eq_some_iff.1 hx
  obtain ⟨hj, rfl⟩ := List.getElem?_eq_some_iff.1 hy
  exact List.pairwise_iff_getElem.1 h i j hi hj hij
theorem riseE_put : ∀ (es : List En) (nm : ByteArray) (num : Int), es.Pairwise (fun x y => ltN x.name y.name = true) → (∀ e ∈ es, e.name ≠ nm) → (putE es nm num).Pairwise fun x y => ltN x.name y.name = true
 | [], nm, num, _, _ => by simp [putE]
 | e :: es, nm, num, h, hn => by
  rw [List.pairwise_cons] at h
  unfold putE
  split
  ·rename_i h1
   rw [List.pairwise_cons, List.pairwise_cons]
   refine ⟨fun y hy => ?_, h.1, h.2⟩
   rcases List.mem_cons.1 hy with rfl | hy
   ·exact h1
   ·exact ltN_trans h1 (h.1 y hy)
  ·rename_i h1
   rw [List.pairwise_cons]
   refine ⟨fun y hy => ?_, riseE_put es nm num h.2 (fun x hx => hn x (by simp [hx]))⟩
   rcases putE_mem es nm num y hy with hy | rfl
   ·exact h.1 y hy
   ·show ltN e.name nm = true
    cases h2 : ltN e.name nm
    ·exact absurd (ltN_tri h2 (by simpa using h1)) (hn e (by simp))
    ·rfl
theorem mem_putI : ∀ (is : List Ino) (y z : Ino), z ∈ putI is y ↔ z = y ∨ z ∈ is
 | [], y, z => by simp [putI]
 | x :: xs, y, z => by
  unfold putI
  split
  ·simp
  ·rw [List.mem_cons, mem_putI xs y z, List.mem_cons]
   constructor
   ·rintro (h | h | h)
    ·exact .inr (.inl h)
    ·exact .inl h
    ·exact .inr (.inr h)
   ·rintro (h | h | h)
    ·exact .inr (.inl h)
    ·exact .inl h
    ·exact .inr (.inr h)
theorem mem_putE : ∀ (es : List En) (nm : ByteArray) (num : Int) (z : En), z ∈ putE es nm num ↔ z = ⟨nm, num⟩ ∨ z ∈ es
 | [], nm, num, z => by simp [putE]
 | x :: xs, nm, num, z => by
  unfold putE
  split
  ·simp
  ·rw [List.mem_cons, mem_putE xs nm num z, List.mem_cons]
   constructor
   ·rintro (h | h | h)
    ·exact .inr (.inl h)
    ·exact .inl h
    ·exact .inr (.inr h)
   ·rintro (h | h | h)
    ·exact .inr (.inl h)
    ·exact .inl h
    ·exact .inr (.inr h)
theorem mem_putD : ∀ (ds : List Ds) (y z : Ds), z ∈ putD ds y ↔ z = y ∨ z ∈ ds
 | [], y, z => by simp [putD]
 | x :: xs, y, z => by
  unfold putD
  split
  ·simp
  ·rw [List.mem_cons, mem_putD xs y z, List.mem_cons]
   constructor
   ·rintro (h | h | h)
    ·exact .inr (.inl h)
    ·exact .inl h
    ·exact .inr (.inr h)
   ·rintro (h | h | h)
    ·exact .inr (.inl h)
    ·exact .inl h
    ·exact .inr (.inr h)
theorem mem_dropI : ∀ (is : List Ino) (n : Int) (z : Ino), z ∈ dropI is n ↔ z ∈ is ∧ z.num ≠ n
 | [], n, z => by simp [dropI]
 | x :: xs, n, z => by
  unfold dropI
  split
  ·rename_i h
   rw [mem_dropI xs n z, List.mem_cons]
   constructor
   ·rintro ⟨h1, h2⟩; exact ⟨.inr h1, h2⟩
   ·rintro ⟨rfl | h1, h2⟩
    ·exact absurd h h2
    ·exact ⟨h1, h2⟩
  ·rename_i h
   rw [List.mem_cons, mem_dropI xs n z, List.mem_cons]
   constructor
   ·rintro (rfl | ⟨h1, h2⟩)
    ·exact ⟨.inl rfl, h⟩
    ·exact ⟨.inr h1, h2⟩
   ·rintro ⟨rfl | h1, h2⟩
    ·exact .inl rfl
    ·exact .inr ⟨h1, h2⟩
theorem mem_dropE : ∀ (es : List En) (nm : ByteArray) (z : En), z ∈ dropE es nm ↔ z ∈ es ∧ z.name ≠ nm
 | [], n, z => by simp [dropE]
 | x :: xs, n, z => by
  unfold dropE
  split
  ·rename_i h
   rw [mem_dropE xs n z, List.mem_cons]
   constructor
   ·rintro ⟨h1, h2⟩; exact ⟨.inr h1, h2⟩
   ·rintro ⟨rfl | h1, h2⟩
    ·exact absurd h h2
    ·exact ⟨h1, h2⟩
  ·rename_i h
   rw [List.mem_cons, mem_dropE xs n z, List.mem_cons]
   constructor
   ·rintro (rfl | ⟨h1, h2⟩)
    ·exact ⟨.inl rfl, h⟩
    ·exact ⟨.inr h1, h2⟩
   ·rintro ⟨rfl | h1, h2⟩
    ·exact .inl rfl
    ·exact .inr ⟨h1, h2⟩
theorem mem_dropD : ∀ (ds : List Ds) (core fd : Int) (z : Ds), z ∈ dropD ds core fd ↔ z ∈ ds ∧ ¬ (z.core = core ∧ z.fd = fd)
 | [], core, fd, z => by simp [dropD]
 | x :: xs, core, fd, z => by
  unfold dropD
  split
  ·rename_i h
   rw [mem_dropD xs core fd z, List.mem_cons]
   constructor
   ·rintro ⟨h1, h2⟩; exact ⟨.inr h1, h2⟩
   ·rintro ⟨rfl | h1, h2⟩
    ·exact absurd h h2
    ·exact ⟨h1, h2⟩
  ·rename_i h
   rw [List.mem_cons, mem_dropD xs core fd z, List.mem_cons]
   constructor
   ·rintro (rfl | ⟨h1, h2⟩)
    ·exact ⟨.inl rfl, h⟩
    ·exact ⟨.inr h1, h2⟩
   ·rintro ⟨rfl | h1, h2⟩
    ·exact .inl rfl
    ·exact .inr ⟨h1, h2⟩
theorem dropI_subl : ∀ (is : List Ino) (n : Int), (dropI is n).Sublist is
 | [], _ => List.Sublist.refl _
 | e :: es, n => by
  unfold dropI
  split
  ·exact (dropI_subl es n).cons _
  ·exact (dropI_subl es n).cons_cons _
theorem dropE_subl : ∀ (es : List En) (nm : ByteArray), (dropE es nm).Sublist es
 | [], _ => List.Sublist.refl _
 | e :: es, n => by
  unfold dropE
  split
  ·exact (dropE_subl es n).cons _
  ·exact (dropE_subl es n).cons_cons _
theorem dropD_subl : ∀ (ds : List Ds) (core fd : Int), (dropD ds core fd).Sublist ds
 | [], _, _ => List.Sublist.refl _
 | e :: es, core, fd => by
  unfold dropD
  split
  ·exact (dropD_subl es core fd).cons _
  ·exact (dropD_subl es core fd).cons_cons _
theorem bktE_drop : ∀ (es : List En) (nm : ByteArray) (b : Nat), bktE (dropE es nm) b ≤ bktE es b
 | [], _, _ => Nat.le_refl _
 | e :: es, nm, b => by
  have ih := bktE_drop es nm b
  unfold dropE
  split
  ·show _ ≤ (if bktB e.name = b then 1 else 0) + bktE es b
   omega
  ·show (if bktB e.name = b then 1 else 0) + bktE (dropE es nm) b ≤ (if bktB e.name = b then 1 else 0) + bktE es b
   omega
theorem riseI_put : ∀ (is : List Ino) (y : Ino), is.Pairwise (fun x y => x.num < y.num) → (∀ x ∈ is, x.num ≠ y.num) → (putI is y).Pairwise fun x y => x.num < y.num
 | [], y, _, _ => by simp [putI]
 | e :: es, y, h, hn => by
  rw [List.pairwise_cons] at h
  unfold putI
  split
  ·rename_i h1
   rw [List.pairwise_cons, List.pairwise_cons]
   refine ⟨fun z hz => ?_, h.1, h.2⟩
   rcases List.mem_cons.1 hz with rfl | hz
   ·exact h1
   ·have := h.1 z hz; omega
  ·rename_i h1
   rw [List.pairwise_cons]
   refine ⟨fun z hz => ?_, riseI_put es y h.2 (fun x hx => hn x (by simp [hx]))⟩
   rcases (mem_putI es y z).1 hz with rfl | hz
   ·have := hn e (by simp); omega
   ·exact h.1 z hz
theorem riseD_put : ∀ (ds : List Ds) (y : Ds), ds.Pairwise ltD → (∀ x ∈ ds, ¬ (x.core = y.core ∧ x.fd = y.fd)) → (putD ds y).Pairwise ltD
 | [], y, _, _ => by simp [putD]
 | e :: es, y, h, hn => by
  rw [List.pairwise_cons] at h
  unfold putD
  split
  ·rename_i h1
   rw [List.pairwise_cons, List.pairwise_cons]
   have hye : ltD y e := by unfold ltD; omega
   refine ⟨fun z hz => ?_, h.1, h.2⟩
   rcases List.mem_cons.1 hz with rfl | hz
   ·exact hye
   ·exact ltD_trans hye (h.1 z hz)
  ·rename_i h1
   rw [List.pairwise_cons]
   refine ⟨fun z hz => ?_, riseD_put es y h.2 (fun x hx => hn x (by simp [hx]))⟩
   rcases (mem_putD es y z).1 hz with rfl | hz
   ·have := hn e (by simp); unfold ltD; omega
   ·exact h.1 z hz
theorem linkI_put : ∀ (is : List Ino) (y : Ino) (m : Int), y.ents = [] → linkI (putI is y) m = linkI is m
 | [], y, m, h => by simp [putI, linkI, h, linkE]
 | x :: xs, y, m, h => by
  unfold putI
  split
  ·show (if y.dir then linkE y.ents m else 0) + linkI (x :: xs) m = _
   rw [h]
   split <;> simp [linkE]
  ·show (if x.dir then linkE x.ents m else 0) + linkI (putI xs y) m = (if x.dir then linkE x.ents m else 0) + linkI xs m
   rw [linkI_put xs y m h]
theorem linkI_drop' : ∀ (is : List Ino) (n m : Int), (∀ x ∈ is, x.num = n → x.ents = []) → linkI (dropI is n) m = linkI is m
 | [], n, m, h => rfl
 | x :: xs, n, m, h => by
  have ih := linkI_drop' xs n m (fun y hy => h y (by simp [hy]))
  unfold dropI
  split
  ·rename_i h1
   show _ = (if x.dir then linkE x.ents m else 0) + linkI xs m
   rw [h x (by simp) h1, ih]
   split <;> simp [linkE]
  ·show (if x.dir then linkE x.ents m else 0) + linkI (dropI xs n) m = (if x.dir then linkE x.ents m else 0) + linkI xs m
   rw [ih]
theorem linkE_zero : ∀ (es : List En) (n : Int), linkE es n = 0 ↔ ∀ e ∈ es, e.num ≠ n
 | [], n => by simp [linkE]
 | e :: es, n => by
  unfold linkE
  rw [List.forall_mem_cons, ← linkE_zero es n]
  by_cases h : e.num = n
  ·rw [if_pos h]
   constructor
   ·intro h2; omega
   ·intro h2; exact absurd h h2.1
  ·rw [if_neg h]
   constructor
   ·intro h2; exact ⟨h, by omega⟩
   ·intro h2; omega
theorem linkI_zero : ∀ (is : List Ino) (n : Int), linkI is n = 0 ↔ ∀ x ∈ is, x.dir = true → ∀ e ∈ x.ents, e.num ≠ n
 | [], n => by simp [linkI]
 | x :: xs, n => by
  unfold linkI
  rw [List.forall_mem_cons, ← linkI_zero xs n, ← linkE_zero]
  cases hd : x.dir
  ·simp
  ·simp
theorem linkE_dropE {es : List En} (hr : RiseE es) {e : En} {nm : ByteArray} (he : e ∈ es) (hn : e.name = nm) (m : Int) : linkE (dropE es nm) m + (if e.num = m then 1 else 0) = linkE es m := by
 obtain ⟨j, hj⟩ := List.getElem?_of_mem he
 rw [dropE_pos es nm j hr (EnPos.of_name hr hj hn), linkE_less es j e m hj]
theorem bktE_none : ∀ (es : List En) (nm but : ByteArray), (∀ e ∈ es, e.name ≠ but) → fullE es nm but = bktE es (bktB nm)
 | [], _, _, _ => rfl
 | e :: es, nm, but, h => by
  have h1 := h e (by simp)
  show (if e.name ≠ but ∧ bktB e.name = bktB nm then 1 else 0) + fullE es nm but = (if bktB e.name = bktB nm then 1 else 0) + bktE es (bktB nm)
  rw [bktE_none es nm but (fun x hx => h x (by simp [hx]))]
  by_cases h2 : bktB e.name = bktB nm
  ·rw [if_pos ⟨h1, h2⟩, if_pos h2]
  ·rw [if_neg (fun h3 => h2 h3.2), if_neg h2]
theorem fullE_drop : ∀ (es : List En) (nm but : ByteArray), fullE es nm but = bktE (dropE es but) (bktB nm)
 | [], _, _ => rfl
 | e :: es, nm, but => by
  have ih := fullE_drop es nm but
  show (if e.name ≠ but ∧ bktB e.name = bktB nm then 1 else 0) + fullE es nm but = _
  unfold dropE
  by_cases h1 : e.name = but
  ·rw [if_pos h1, if_neg (fun h => h.1 h1), ih]
   omega
  ·rw [if_neg h1, ih]
   show _ = (if bktB e.name = bktB nm then 1 else 0) + bktE (dropE es but) (bktB nm)
   by_cases h2 : bktB e.name = bktB nm
   ·rw [if_pos ⟨h1, h2⟩, if_pos h2]
   ·rw [if_neg (fun h => h2 h.2), if_neg h2]
theorem Rn.mono {is js : List Ino} (h : ∀ x ∈ is, x.dir = true → ∃ x' ∈ js, x'.num = x.num ∧ x'.dir = true ∧ ∀ e ∈ x.ents, e ∈ x'.ents) {n : Int} (hr : Rn is n) : Rn js n := by
 induction hr with
 | root => exact .root
 | step _ hx hd he ih =>
  obtain ⟨x', h1, h2, h3, h4⟩ := h _ hx hd
  exact .step (by rw [h2]; exact ih) h1 h3 (h4 _ he)
theorem EntsOk.to {is js : List Ino} {es : List En} (h : EntsOk is es) (hn : ∀ e ∈ es, (∃ y ∈ is, y.num = e.num) → ∃ y ∈ js, y.num = e.num) : EntsOk js es := ⟨fun e he => ⟨(h.each e he).1, (h.each e he).2.1, hn e he (h.each e he).2.2⟩, h.rise, h.bkt⟩
theorem EntsOk.put {is : List Ino} {es : List En} (h : EntsOk is es) {nm : ByteArray} {num : Int} (hno : ∀ e ∈ es, e.name ≠ nm) (hc : chkB nm = 0) (hb : bktE es (bktB nm) < 4) (h1 : num ≠ 1) (hy : ∃ y ∈ is, y.num = num) : EntsOk is (putE es nm num) := by
 refine ⟨fun e he => ?_, riseE_iff.2 (riseE_put es nm num (riseE_iff.1 h.rise) hno), fun b => ?_⟩
 ·rcases (mem_putE es nm num e).1 he with rfl | he
  ·exact ⟨hc, h1, hy⟩
  ·exact h.each e he
 ·rw [bktE_put]
  have := h.bkt b
  split
  ·rename_i h2
   subst h2
   omega
  ·omega
theorem EntsOk.drop {is : List Ino} {es : List En} (h : EntsOk is es) (nm : ByteArray) : EntsOk is (dropE es nm) :=
 ⟨fun e he => h.each e ((mem_dropE es nm e).1 he).1, riseE_iff.2 ((riseE_iff.1 h.rise).sublist (dropE_subl es nm)), fun b => Nat.le_trans (bktE_drop es nm b) (h.bkt b)⟩
theorem Had.dir {s : St} (h : Had s) {x : Ino} (hx : x ∈ s.inos) (hd : x.dir = true) : Rn s.inos x.num := by
 by_cases h1 : x.num = 1
 ·rw [h1]; exact .root
 ·exact (h.one x hx h1 hd).2
theorem Frm.modN {s : St} (h : Frm s) {x : Ino} {n : Int} (hx : x ∈ s.inos) (hn : x.num = n) (hd : x.dir = true) {f : List En → List En} (hf : EntsOk s.inos (f x.ents)) : Frm { s with inos := modN s.inos n f } := by
 have fwd : ∀ y ∈ s.inos, ∃ z ∈ Go.Proofs.YtilkhmhgjbhfnaaGreatDoor.modN s.inos n f, z.num = y.num ∧ z.dir = y.dir := fun y hy => by
  by_cases e : y.num = n
  ·exact ⟨_, mem_modN.2 ⟨y, hy, .inl ⟨e, rfl⟩⟩, rfl, rfl⟩
  ·exact ⟨y, mem_modN.2 ⟨y, hy, .inr ⟨e, rfl⟩⟩, rfl, rfl⟩
 have num : ∀ k : Int, (∃ y ∈ s.inos, y.num = k) → ∃ y ∈ Go.Proofs.YtilkhmhgjbhfnaaGreatDoor.modN s.inos n f, y.num = k := fun k ⟨y, hy, hk⟩ => by
  obtain ⟨z, hz, h1, _⟩ := fwd y hy
  exact ⟨z, hz, by omega⟩
 refine ⟨h.m1, h.m8, h.mr, rise_modN h.rise n f, ?_, ?_, ?_, ?_, ?_, h.riseD⟩
 ·obtain ⟨r, hr, h1, h2⟩ := h.root
  obtain ⟨z, hz, h3, h4⟩ := fwd r hr
  exact ⟨z, hz, by omega, by rw [h4]; exact h2⟩
 ·intro z hz hne
  obtain ⟨y, hy, ⟨_, rfl⟩ | ⟨_, rfl⟩⟩ := mem_modN.1 hz
  ·exact h.given y hy hne
  ·exact h.given z hy hne
 ·intro z hz hzd
  obtain ⟨y, hy, ⟨e, rfl⟩ | ⟨_, rfl⟩⟩ := mem_modN.1 hz
  ·have : y = x := h.rise.one hy hx (by omega)
   subst this
   exact ⟨(h.dirs y hy hd).1, hf.to fun e _ => num _⟩
  ·exact ⟨(h.dirs z hy hzd).1, (h.dirs z hy hzd).2.to fun e _ => num _⟩
 ·intro z hz hzd
  obtain ⟨y, hy, ⟨e, rfl⟩ | ⟨_, rfl⟩⟩ := mem_modN.1 hz
  ·have : y = x := h.rise.one hy hx (by omega)
   subst this
   have : y.dir = false := hzd
   rw [hd] at this
   cases this
  ·exact h.files z hy hzd
 ·intro d hdd
  obtain ⟨a1, a2, a3, a4, y, hy, h1, h2⟩ := h.opn d hdd
  obtain ⟨z, hz, h3, h4⟩ := fwd y hy
  exact ⟨a1, a2, a3, a4, z, hz, by omega, by rw [h4]; exact h2⟩
theorem Frm.putI {s : St} (h : Frm s) {y : Ino} (hf : ∀ x ∈ s.inos, x.num ≠ y.num) (he : y.ents = []) (hd : y.data.size = 0) (hg : givenV s.made y.num = true) : Frm { s with inos := putI s.inos y } := by
 have num : ∀ k : Int, (∃ z ∈ s.inos, z.num = k) → ∃ z ∈ Go.Proofs.YtilkhmhgjbhfnaaGreatDoor.putI s.inos y, z.num = k := fun k ⟨z, hz, hk⟩ => ⟨z, (mem_putI _ _ _).2 (.inr hz), hk⟩
 refine ⟨h.m1, h.m8, h.mr, riseI_iff.2 (riseI_put _ _ (riseI_iff.1 h.rise) hf), ?_, ?_, ?_, ?_, ?_, h.riseD⟩
 ·obtain ⟨r, hr, h1⟩ := h.root
  exact ⟨r, (mem_putI _ _ _).2 (.inr hr), h1⟩
 ·intro z hz hn
  rcases (mem_putI _ _ _).1 hz with rfl | hz
  ·exact hg
  ·exact h.given z hz hn
 ·intro z hz hzd
  rcases (mem_putI _ _ _).1 hz with rfl | hz
  ·rw [he]
   exact ⟨hd, fun e h9 => by simp at h9, fun i j a b _ h9 => by simp at h9, fun b => by simp [bktE]⟩
  ·exact ⟨(h.dirs z hz hzd).1, (h.dirs z hz hzd).2.to fun e _ => num _⟩
 ·intro z hz hzd
  rcases (mem_putI _ _ _).1 hz with rfl | hz
  ·exact ⟨he, by omega⟩
  ·exact h.files z hz hzd
 ·intro d hdd
  obtain ⟨a1, a2, a3, a4, x, hx, h1, h2⟩ := h.opn d hdd
  exact ⟨a1, a2, a3, a4, x, (mem_putI _ _ _).2 (.inr hx), h1, h2⟩
theorem Frm.dropI {s : St} (h : Frm s) {n : Int} (h1 : n ≠ 1) (hl : linkI s.inos n = 0) (ho : ∀ d ∈ s.opn, d.num ≠ n) : Frm { s with inos := dropI s.inos n } := by
 have hl2 := (linkI_zero _ _).1 hl
 refine ⟨h.m1, h.m8, h.mr, riseI_iff.2 ((riseI_iff.1 h.rise).sublist (dropI_subl _ _)), ?_, ?_, ?_, ?_, ?_, h.riseD⟩
 ·obtain ⟨r, hr, h2, h3⟩ := h.root
  exact ⟨r, (mem_dropI _ _ _).2 ⟨hr, by omega⟩, h2, h3⟩
 ·intro z hz hn
  exact h.given z ((mem_dropI _ _ _).1 hz).1 hn
 ·intro z hz hzd
  have hz2 := ((mem_dropI _ _ _).1 hz).1
  refine ⟨(h.dirs z hz2 hzd).1, (h.dirs z hz2 hzd).2.to fun e he => ?_⟩
  rintro ⟨y, hy, hyn⟩
  exact ⟨y, (mem_dropI _ _ _).2 ⟨hy, by have := hl2 z hz2 hzd e he; omega⟩, hyn⟩
 ·intro z hz hzd
  exact h.files z ((mem_dropI _ _ _).1 hz).1 hzd
 ·intro d hdd
  obtain ⟨a1, a2, a3, a4, x, hx, h2, h3⟩ := h.opn d hdd
  exact ⟨a1, a2, a3, a4, x, (mem_dropI _ _ _).2 ⟨hx, by have := ho d hdd; omega⟩, h2, h3⟩
theorem Frm.putD {s : St} (h : Frm s) {d : Ds} (hno : ∀ x ∈ s.opn, ¬ (x.core = d.core ∧ x.fd = d.fd)) (hd : 0 ≤ d.core ∧ d.core < (s.made.length : Int) ∧ 0 ≤ d.fd ∧ d.fd < 4 ∧ ∃ y ∈ s.inos, y.num = d.num ∧ y.dir = false) : Frm { s with opn := putD s.opn d } :=
 ⟨h.m1, h.m8, h.mr, h.rise, h.root, h.given, h.dirs, h.files, fun x hx => by
  rcases (mem_putD _ _ _).1 hx with rfl | hx
  ·exact hd
  ·exact h.opn x hx, riseD_iff.2 (riseD_put _ _ (riseD_iff.1 h.riseD) hno)⟩
theorem Frm.dropD {s : St} (h : Frm s) (core fd : Int) : Frm { s with opn := dropD s.opn core fd } :=
 ⟨h.m1, h.m8, h.mr, h.rise, h.root, h.given, h.dirs, h.files, fun x hx => h.opn x ((mem_dropD _ _ _ _).1 hx).1, riseD_iff.2 ((riseD_iff.1 h.riseD).sublist (dropD_subl _ _ _))⟩
theorem givenV_more {made : List Int} {k : Nat} {n : Int} (hk : k < made.length) (h : givenV made n = true) : givenV (made.set k (made.getD k 0 + 1)) n = true := by
 have h2 := given_pos h
 unfold givenV at h ⊢
 rw [if_neg (by omega), Bool.and_eq_true, decide_eq_true_eq, decide_eq_true_eq] at h ⊢
 refine ⟨by rw [List.length_set]; exact h.1, ?_⟩
 obtain ⟨j, hj⟩ : ∃ j, ((n - 2) % 8).toNat = j := ⟨_, rfl⟩
 rw [hj] at h ⊢
 by_cases e : k = j
 ·subst e
  rw [List.getD_eq_getElem?_getD, List.getElem?_set, if_pos rfl, if_pos hk]
  have := h.2
  show _ < made.getD k 0 + 1
  omega
 ·rw [List.getD_eq_getElem?_getD, List.getElem?_set, if_neg e, ← List.getD_eq_getElem?_getD]
  exact h.2
theorem Frm.made {s : St} (h : Frm s) {k : Nat} (hk : k < s.made.length) (hm : s.made.getD k 0 < 32) : Frm { s with made := s.made.set k (s.made.getD k 0 + 1) } := by
 refine ⟨by rw [List.length_set]; exact h.m1, by rw [List.length_set]; exact h.m8, ?_, h.rise, h.root, fun x hx hn => givenV_more hk (h.given x hx hn), h.dirs, h.files, fun d hd => by rw [List.length_set]; exact h.opn d hd, h.riseD⟩
 intro m hm2
 rcases List.mem_or_eq_of_mem_set hm2 with h1 | h1
 ·exact h.mr m h1
 ·have : s.made.getD k 0 ∈ s.made := by
   rw [List.getD_eq_getElem?_getD, List.getElem?_eq_getElem hk]
   exact List.getElem_mem hk
  have := h.mr _ this
  omega
theorem putI_modN : ∀ (is : List Ino) (n : Int) (f : List En → List En) (y : Ino), y.num ≠ n → putI (modN is n f) y = modN (putI is y) n f
 | [], n, f, y, h => by simp [modN, putI, h]
 | x :: xs, n, f, y, h => by
  have ih := putI_modN xs n f y h
  unfold modN at ih ⊢
  rw [List.map_cons]
  have hnum : (if x.num = n then { x with ents := f x.ents } else x).num = x.num := by split <;> rfl
  unfold putI
  rw [hnum]
  split
  ·rw [List.map_cons, List.map_cons, if_neg h]
  ·rw [List.map_cons, ih]
end Go.Proofs.YtilkhmhgjbhfnaaGreatDoor
