/- Parts of the proof, side by side: GdOps, GdDo, AllowsP. -/
import Derived.Test.YtndcloohcfhejaaGreatM36
set_option linter.unusedVariables false
set_option linter.unusedSimpArgs false
namespace Go.Proofs.YtndcloohcfhejaaGreat
def modN (is : List Ino) (n : Int) (f : List En → List En) : List Ino:=is.map fun x => if x.num = n then { x with ents:=f x.ents } else x
theorem mem_modN {is : List Ino} {n : Int} {f : List En → List En} {z : Ino} : z ∈ modN is n f ↔ ∃ x ∈ is,(x.num = n ∧ z = { x with ents:=f x.ents }) ∨ (x.num ≠ n ∧ z = x):=by
 unfold modN
 rw [List.mem_map]
 constructor
 ·rintro ⟨x,hx,rfl⟩
  by_cases h : x.num = n
  ·exact ⟨x,hx,.inl ⟨h,by rw [if_pos h]⟩⟩
  ·exact ⟨x,hx,.inr ⟨h,by rw [if_neg h]⟩⟩
 ·rintro ⟨x,hx,⟨h,rfl⟩ | ⟨h,rfl⟩⟩
  ·exact ⟨x,hx,by rw [if_pos h]⟩
  ·exact ⟨z,hx,by rw [if_neg h]⟩
theorem setEnts_modN {is : List Ino} (hr : RiseI is) {x : Ino} {n : Int} (hx : x ∈ is) (hn : x.num = n) (f : List En → List En) : setEnts is n f = modN is n f:=by
 obtain ⟨i,hi⟩:=List.getElem?_of_mem hx
 have hat:=atV_of_rise hr hi hn
 unfold setEnts modN
 rw [hat,Int.toNat_natCast,modify_set _ _ _ _ hi]
 apply List.ext_getElem?
 intro j
 rw [List.getElem?_set,List.getElem?_map]
 have hl:=(List.getElem?_eq_some_iff.1 hi).1
 by_cases e : i = j
 ·subst e
  rw [if_pos rfl,if_pos hl,hi]
  simp [hn]
 ·rw [if_neg e]
  cases hj : is[j]? with
  | none => rfl
  | some y =>
   have hne : y.num ≠ n:=fun h => by
    have:=atV_of_rise hr hj h
    omega
   simp [hne]
theorem rise_modN {is : List Ino} (hr : RiseI is) (n : Int) (f : List En → List En) : RiseI (modN is n f):=by
 have key : ∀ (j : Nat) (z : Ino),(modN is n f)[j]? = some z → ∃ x,is[j]? = some x ∧ z.num = x.num:=by
  intro j z hz
  unfold modN at hz
  rw [List.getElem?_map] at hz
  obtain ⟨x,hx,rfl⟩:=Option.map_eq_some_iff.1 hz
  exact ⟨x,hx,by split <;> rfl⟩
 intro i j a b hij ha hb
 obtain ⟨x,hx,h1⟩:=key i a ha
 obtain ⟨y,hy,h2⟩:=key j b hb
 rw [h1,h2]
 exact hr i j x y hij hx hy
theorem linkI_modN {is : List Ino} (hr : RiseI is) {x : Ino} {n : Int} (hx : x ∈ is) (hn : x.num = n) (hd : x.dir = true) (f : List En → List En) (m : Int) : linkI (modN is n f) m + linkE x.ents m = linkI is m + linkE (f x.ents) m:=by
 obtain ⟨i,hi⟩:=List.getElem?_of_mem hx
 have h1:=linkI_set is i x { x with ents:=f x.ents } m hi
 rw [← setEnts_modN hr hx hn]
 unfold setEnts
 rw [atV_of_rise hr hi hn,Int.toNat_natCast,modify_set _ _ _ _ hi]
 rw [if_pos hd,if_pos (show ({ x with ents:=f x.ents } : Ino).dir = true from hd)] at h1
 exact h1
theorem linkE_put : ∀ (es : List En) (nm : ByteArray) (num m : Int),linkE (putE es nm num) m = linkE es m + (if num = m then 1 else 0)
 | [],nm,num,m => by simp [putE,linkE]
 | e :: es, nm, num, m => by
  unfold putE
  split
  ·show (if num = m then 1 else 0) + linkE (e :: es) m = _
   omega
  ·show (if e.num = m then 1 else 0) + linkE (putE es nm num) m = (if e.num = m then 1 else 0) + linkE es m + _
   rw [linkE_put es nm num m]
   omega
theorem bktE_put : ∀ (es : List En) (nm : ByteArray) (num : Int) (b : Nat),bktE (putE es nm num) b = bktE es b + (if bktB nm = b then 1 else 0)
 | [],nm,num,b => by simp [putE,bktE]
 | e :: es, nm, num, b => by
  unfold putE
  split
  ·show (if bktB nm = b then 1 else 0) + bktE (e :: es) b = _
   omega
  ·show (if bktB e.name = b then 1 else 0) + bktE (putE es nm num) b = (if bktB e.name = b then 1 else 0) + bktE es b + _
   rw [bktE_put es nm num b]
   omega
theorem riseE_iff {es : List En} : RiseE es ↔ es.Pairwise fun x y => ltN x.name y.name = true:=by
 constructor
 ·intro h
  rw [List.pairwise_iff_getElem]
  intro i j hi hj hij
  exact h i j _ _ hij (List.getElem?_eq_getElem hi) (List.getElem?_eq_getElem hj)
 ·intro h i j x y hij hx hy
  obtain ⟨hi,rfl⟩:=List.getElem?_eq_some_iff.1 hx
  obtain ⟨hj,rfl⟩:=List.getElem?_eq_some_iff.1 hy
  exact List.pairwise_iff_getElem.1 h i j hi hj hij
theorem riseI_iff {is : List Ino} : RiseI is ↔ is.Pairwise fun x y => x.num < y.num:=by
 constructor
 ·intro h
  rw [List.pairwise_iff_getElem]
  intro i j hi hj hij
  exact h i j _ _ hij (List.getElem?_eq_getElem hi) (List.getElem?_eq_getElem hj)
 ·intro h i j x y hij hx hy
  obtain ⟨hi,rfl⟩:=List.getElem?_eq_some_iff.1 hx
  obtain ⟨hj,rfl⟩:=List.getElem?_eq_some_iff.1 hy
  exact List.pairwise_iff_getElem.1 h i j hi hj hij
theorem riseE_put : ∀ (es : List En) (nm : ByteArray) (num : Int),es.Pairwise (fun x y => ltN x.name y.name = true) → (∀ e ∈ es,e.name ≠ nm) → (putE es nm num).Pairwise fun x y => ltN x.name y.name = true
 | [],nm,num,_,_ => by simp [putE]
 | e :: es, nm, num, h, hn => by
  rw [List.pairwise_cons] at h
  unfold putE
  split
  ·rename_i h1
   rw [List.pairwise_cons,List.pairwise_cons]
   refine ⟨fun y hy => ?_,h.1,h.2⟩
   rcases List.mem_cons.1 hy with rfl | hy
   ·exact h1
   ·exact ltN_trans h1 (h.1 y hy)
  ·rename_i h1
   rw [List.pairwise_cons]
   refine ⟨fun y hy => ?_,riseE_put es nm num h.2 (fun x hx => hn x (by simp [hx]))⟩
   rcases putE_mem es nm num y hy with hy | rfl
   ·exact h.1 y hy
   ·show ltN e.name nm = true
    cases h2 : ltN e.name nm
    ·exact absurd (ltN_tri h2 (by simpa using h1)) (hn e (by simp))
    ·rfl
theorem mem_putI : ∀ (is : List Ino) (y z : Ino),z ∈ putI is y ↔ z = y ∨ z ∈ is
 | [],y,z => by simp [putI]
 | x :: xs, y, z => by
  unfold putI
  split
  ·simp
  ·rw [List.mem_cons,mem_putI xs y z,List.mem_cons]
   constructor
   ·rintro (h | h | h)
    ·exact .inr (.inl h)
    ·exact .inl h
    ·exact .inr (.inr h)
   ·rintro (h | h | h)
    ·exact .inr (.inl h)
    ·exact .inl h
    ·exact .inr (.inr h)
theorem mem_putE : ∀ (es : List En) (nm : ByteArray) (num : Int) (z : En),z ∈ putE es nm num ↔ z = ⟨nm,num⟩ ∨ z ∈ es
 | [],nm,num,z => by simp [putE]
 | x :: xs, nm, num, z => by
  unfold putE
  split
  ·simp
  ·rw [List.mem_cons,mem_putE xs nm num z,List.mem_cons]
   constructor
   ·rintro (h | h | h)
    ·exact .inr (.inl h)
    ·exact .inl h
    ·exact .inr (.inr h)
   ·rintro (h | h | h)
    ·exact .inr (.inl h)
    ·exact .inl h
    ·exact .inr (.inr h)
theorem dropI_subl : ∀ (is : List Ino) (n : Int),(dropI is n).Sublist is
 | [],_ => List.Sublist.refl _
 | e :: es,n => by
  unfold dropI
  split
  ·exact (dropI_subl es n).cons _
  ·exact (dropI_subl es n).cons_cons _
theorem riseI_put : ∀ (is : List Ino) (y : Ino),is.Pairwise (fun x y => x.num < y.num) → (∀ x ∈ is,x.num ≠ y.num) → (putI is y).Pairwise fun x y => x.num < y.num
 | [],y,_,_ => by simp [putI]
 | e :: es, y, h, hn => by
  rw [List.pairwise_cons] at h
  unfold putI
  split
  ·rename_i h1
   rw [List.pairwise_cons,List.pairwise_cons]
   refine ⟨fun z hz => ?_,h.1,h.2⟩
   rcases List.mem_cons.1 hz with rfl | hz
   ·exact h1
   ·have:=h.1 z hz;omega
  ·rename_i h1
   rw [List.pairwise_cons]
   refine ⟨fun z hz => ?_,riseI_put es y h.2 (fun x hx => hn x (by simp [hx]))⟩
   rcases (mem_putI es y z).1 hz with rfl | hz
   ·have:=hn e (by simp);omega
   ·exact h.1 z hz
theorem linkI_put : ∀ (is : List Ino) (y : Ino) (m : Int),y.ents = [] → linkI (putI is y) m = linkI is m
 | [],y,m,h => by simp [putI,linkI,h,linkE]
 | x :: xs, y, m, h => by
  unfold putI
  split
  ·show (if y.dir then linkE y.ents m else 0) + linkI (x :: xs) m = _
   rw [h]
   split <;> simp [linkE]
  ·show (if x.dir then linkE x.ents m else 0) + linkI (putI xs y) m = (if x.dir then linkE x.ents m else 0) + linkI xs m
   rw [linkI_put xs y m h]
theorem linkE_zero : ∀ (es : List En) (n : Int),linkE es n = 0 ↔ ∀ e ∈ es,e.num ≠ n
 | [],n => by simp [linkE]
 | e :: es, n => by
  unfold linkE
  rw [List.forall_mem_cons,← linkE_zero es n]
  by_cases h : e.num = n
  ·rw [if_pos h]
   constructor
   ·intro h2;omega
   ·intro h2;exact absurd h h2.1
  ·rw [if_neg h]
   constructor
   ·intro h2;exact ⟨h,by omega⟩
   ·intro h2;omega
theorem linkI_zero : ∀ (is : List Ino) (n : Int),linkI is n = 0 ↔ ∀ x ∈ is,x.dir = true → ∀ e ∈ x.ents,e.num ≠ n
 | [],n => by simp [linkI]
 | x :: xs,n => by
  unfold linkI
  rw [List.forall_mem_cons,← linkI_zero xs n,← linkE_zero]
  cases hd : x.dir
  ·simp
  ·simp
theorem bktE_none : ∀ (es : List En) (nm but : ByteArray),(∀ e ∈ es,e.name ≠ but) → fullE es nm but = bktE es (bktB nm)
 | [],_,_,_ => rfl
 | e :: es,nm,but,h => by
  have h1:=h e (by simp)
  show (if e.name ≠ but ∧ bktB e.name = bktB nm then 1 else 0) + fullE es nm but = (if bktB e.name = bktB nm then 1 else 0) + bktE es (bktB nm)
  rw [bktE_none es nm but (fun x hx => h x (by simp [hx]))]
  by_cases h2 : bktB e.name = bktB nm
  ·rw [if_pos ⟨h1,h2⟩,if_pos h2]
  ·rw [if_neg (fun h3 => h2 h3.2),if_neg h2]
theorem Rn.mono {is js : List Ino} (h : ∀ x ∈ is,x.dir = true → ∃ x' ∈ js,x'.num = x.num ∧ x'.dir = true ∧ ∀ e ∈ x.ents,e ∈ x'.ents) {n : Int} (hr : Rn is n) : Rn js n:=by
 induction hr with
 | root => exact .root
 | step _ hx hd he ih =>
  obtain ⟨x',h1,h2,h3,h4⟩:=h _ hx hd
  exact .step (by rw [h2];exact ih) h1 h3 (h4 _ he)
theorem EntsOk.to {is js : List Ino} {es : List En} (h : EntsOk is es) (hn : ∀ e ∈ es,(∃ y ∈ is,y.num = e.num) → ∃ y ∈ js,y.num = e.num) : EntsOk js es:=⟨fun e he => ⟨(h.each e he).1,(h.each e he).2.1,hn e he (h.each e he).2.2⟩,h.rise,h.bkt⟩
theorem EntsOk.put {is : List Ino} {es : List En} (h : EntsOk is es) {nm : ByteArray} {num : Int} (hno : ∀ e ∈ es,e.name ≠ nm) (hc : chkB nm = 0) (hb : bktE es (bktB nm) < 4) (h1 : num ≠ 1) (hy : ∃ y ∈ is,y.num = num) : EntsOk is (putE es nm num):=by
 refine ⟨fun e he => ?_,riseE_iff.2 (riseE_put es nm num (riseE_iff.1 h.rise) hno),fun b => ?_⟩
 ·rcases (mem_putE es nm num e).1 he with rfl | he
  ·exact ⟨hc,h1,hy⟩
  ·exact h.each e he
 ·rw [bktE_put]
  have:=h.bkt b
  split
  ·rename_i h2
   subst h2
   omega
  ·omega
theorem Had.dir {s : St} (h : Had s) {x : Ino} (hx : x ∈ s.inos) (hd : x.dir = true) : Rn s.inos x.num:=by
 by_cases h1 : x.num = 1
 ·rw [h1];exact .root
 ·exact (h.one x hx h1 hd).2
theorem Frm.modN {s : St} (h : Frm s) {x : Ino} {n : Int} (hx : x ∈ s.inos) (hn : x.num = n) (hd : x.dir = true) {f : List En → List En} (hf : EntsOk s.inos (f x.ents)) : Frm { s with inos:=modN s.inos n f }:=by
 have fwd : ∀ y ∈ s.inos,∃ z ∈ Go.Proofs.YtndcloohcfhejaaGreat.modN s.inos n f,z.num = y.num ∧ z.dir = y.dir:=fun y hy => by
  by_cases e : y.num = n
  ·exact ⟨_,mem_modN.2 ⟨y,hy,.inl ⟨e,rfl⟩⟩,rfl,rfl⟩
  ·exact ⟨y,mem_modN.2 ⟨y,hy,.inr ⟨e,rfl⟩⟩,rfl,rfl⟩
 have num : ∀ k : Int,(∃ y ∈ s.inos,y.num = k) → ∃ y ∈ Go.Proofs.YtndcloohcfhejaaGreat.modN s.inos n f,y.num = k:=fun k ⟨y,hy,hk⟩ => by
  obtain ⟨z,hz,h1,_⟩:=fwd y hy
  exact ⟨z,hz,by omega⟩
 refine ⟨h.m1,h.m8,h.mr,rise_modN h.rise n f,?_,?_,?_,?_,?_,h.riseD⟩
 ·obtain ⟨r,hr,h1,h2⟩:=h.root
  obtain ⟨z,hz,h3,h4⟩:=fwd r hr
  exact ⟨z,hz,by omega,by rw [h4];exact h2⟩
 ·intro z hz hne
  obtain ⟨y,hy,⟨_,rfl⟩ | ⟨_,rfl⟩⟩:=mem_modN.1 hz
  ·exact h.given y hy hne
  ·exact h.given z hy hne
 ·intro z hz hzd
  obtain ⟨y,hy,⟨e,rfl⟩ | ⟨_,rfl⟩⟩:=mem_modN.1 hz
  ·have : y = x:=h.rise.one hy hx (by omega)
   subst this
   exact ⟨(h.dirs y hy hd).1,hf.to fun e _ => num _⟩
  ·exact ⟨(h.dirs z hy hzd).1,(h.dirs z hy hzd).2.to fun e _ => num _⟩
 ·intro z hz hzd
  obtain ⟨y,hy,⟨e,rfl⟩ | ⟨_,rfl⟩⟩:=mem_modN.1 hz
  ·have : y = x:=h.rise.one hy hx (by omega)
   subst this
   have : y.dir = false:=hzd
   rw [hd] at this
   cases this
  ·exact h.files z hy hzd
 ·intro d hdd
  obtain ⟨a1,a2,a3,a4,y,hy,h1,h2⟩:=h.opn d hdd
  obtain ⟨z,hz,h3,h4⟩:=fwd y hy
  exact ⟨a1,a2,a3,a4,z,hz,by omega,by rw [h4];exact h2⟩
theorem Frm.putI {s : St} (h : Frm s) {y : Ino} (hf : ∀ x ∈ s.inos,x.num ≠ y.num) (he : y.ents = []) (hd : y.data.size = 0) (hg : givenV s.made y.num = true) : Frm { s with inos:=putI s.inos y }:=by
 have num : ∀ k : Int,(∃ z ∈ s.inos,z.num = k) → ∃ z ∈ Go.Proofs.YtndcloohcfhejaaGreat.putI s.inos y,z.num = k:=fun k ⟨z,hz,hk⟩ => ⟨z,(mem_putI _ _ _).2 (.inr hz),hk⟩
 refine ⟨h.m1,h.m8,h.mr,riseI_iff.2 (riseI_put _ _ (riseI_iff.1 h.rise) hf),?_,?_,?_,?_,?_,h.riseD⟩
 ·obtain ⟨r,hr,h1⟩:=h.root
  exact ⟨r,(mem_putI _ _ _).2 (.inr hr),h1⟩
 ·intro z hz hn
  rcases (mem_putI _ _ _).1 hz with rfl | hz
  ·exact hg
  ·exact h.given z hz hn
 ·intro z hz hzd
  rcases (mem_putI _ _ _).1 hz with rfl | hz
  ·rw [he]
   exact ⟨hd,fun e h9 => by simp at h9,fun i j a b _ h9 => by simp at h9,fun b => by simp [bktE]⟩
  ·exact ⟨(h.dirs z hz hzd).1,(h.dirs z hz hzd).2.to fun e _ => num _⟩
 ·intro z hz hzd
  rcases (mem_putI _ _ _).1 hz with rfl | hz
  ·exact ⟨he,by omega⟩
  ·exact h.files z hz hzd
 ·intro d hdd
  obtain ⟨a1,a2,a3,a4,x,hx,h1,h2⟩:=h.opn d hdd
  exact ⟨a1,a2,a3,a4,x,(mem_putI _ _ _).2 (.inr hx),h1,h2⟩
theorem givenV_more {made : List Int} {k : Nat} {n : Int} (hk : k < made.length) (h : givenV made n = true) : givenV (made.set k (made.getD k 0 + 1)) n = true:=by
 have h2:=given_pos h
 unfold givenV at h ⊢
 rw [if_neg (by omega),Bool.and_eq_true,decide_eq_true_eq,decide_eq_true_eq] at h ⊢
 refine ⟨by rw [List.length_set];exact h.1,?_⟩
 obtain ⟨j,hj⟩ : ∃ j,((n - 2) % 8).toNat = j:=⟨_,rfl⟩
 rw [hj] at h ⊢
 by_cases e : k = j
 ·subst e
  rw [List.getD_eq_getElem?_getD,List.getElem?_set,if_pos rfl,if_pos hk]
  have:=h.2
  show _ < made.getD k 0 + 1
  omega
 ·rw [List.getD_eq_getElem?_getD,List.getElem?_set,if_neg e,← List.getD_eq_getElem?_getD]
  exact h.2
theorem Frm.made {s : St} (h : Frm s) {k : Nat} (hk : k < s.made.length) (hm : s.made.getD k 0 < 32) : Frm { s with made:=s.made.set k (s.made.getD k 0 + 1) }:=by
 refine ⟨by rw [List.length_set];exact h.m1,by rw [List.length_set];exact h.m8,?_,h.rise,h.root,fun x hx hn => givenV_more hk (h.given x hx hn),h.dirs,h.files,fun d hd => by rw [List.length_set];exact h.opn d hd,h.riseD⟩
 intro m hm2
 rcases List.mem_or_eq_of_mem_set hm2 with h1 | h1
 ·exact h.mr m h1
 ·have : s.made.getD k 0 ∈ s.made:=by
   rw [List.getD_eq_getElem?_getD,List.getElem?_eq_getElem hk]
   exact List.getElem_mem hk
  have:=h.mr _ this
  omega
theorem putI_modN : ∀ (is : List Ino) (n : Int) (f : List En → List En) (y : Ino),y.num ≠ n → putI (modN is n f) y = modN (putI is y) n f
 | [],n,f,y,h => by simp [modN,putI,h]
 | x :: xs,n,f,y,h => by
  have ih:=putI_modN xs n f y h
  unfold modN at ih ⊢
  rw [List.map_cons]
  have hnum : (if x.num = n then { x with ents:=f x.ents } else x).num = x.num:=by split <;> rfl
  unfold putI
  rw [hnum]
  split
  ·rw [List.map_cons,List.map_cons,if_neg h]
  ·rw [List.map_cons,ih]
theorem modN_old {is : List Ino} {n : Int} {f : List En → List En} {z : Ino} (hz : z ∈ modN is n f) : ∃ z0 ∈ is,z.num = z0.num ∧ z.dir = z0.dir:=by
 obtain ⟨z0,hz0,⟨_,rfl⟩ | ⟨_,rfl⟩⟩:=mem_modN.1 hz
 ·exact ⟨z0,hz0,rfl,rfl⟩
 ·exact ⟨z,hz0,rfl,rfl⟩
theorem dirAt_mem {is : List Ino} {n : Int} (h : dirAt is n = true) : ∃ x ∈ is,x.num = n ∧ x.dir = true:=by
 unfold dirAt at h
 rcases atV_cases is n with ⟨h1,_⟩ | ⟨k,x,h1,h2,h3,_⟩
 ·rw [h1] at h
  simp [inoAt] at h
 ·rw [h1,inoAt_nat,h2] at h
  exact ⟨x,List.mem_of_getElem? h2,h3,h⟩
theorem entV_mem {s : St} (h : Good s) {x : Ino} {n : Int} (hx : x ∈ s.inos) (hn : x.num = n) (nm : ByteArray) : (entV s.inos n nm = 0 → ∀ e ∈ x.ents,e.name ≠ nm) ∧ (entV s.inos n nm ≠ 0 → ∃ e ∈ x.ents,e.name = nm ∧ e.num = entV s.inos n nm):=by
 obtain ⟨i,hi⟩:=List.getElem?_of_mem hx
 rw [entV_at (atV_of_rise h.riseI hi hn) hi nm]
 refine ⟨fun h0 => entG_zero _ _ (fun e he => (h.entNum hx he).1) h0,fun h0 => ?_⟩
 obtain ⟨j,e,hj,h1,h2⟩:=entG_some _ _ h0
 exact ⟨e,List.mem_of_getElem? hj,h1,h2⟩
theorem fullV_mem {s : St} (h : Good s) {x : Ino} {n : Int} (hx : x ∈ s.inos) (hn : x.num = n) {nm but : ByteArray} (hf : ¬ fullV s.inos n nm but = true) : fullE x.ents nm but < 4:=by
 obtain ⟨i,hi⟩:=List.getElem?_of_mem hx
 unfold fullV at hf
 rw [atV_of_rise h.riseI hi hn,inoAt_nat,hi] at hf
 simp only [decide_eq_true_eq] at hf
 omega
theorem noname {s : St} (h : Good s) {x : Ino} (hx : x ∈ s.inos) : ∀ e ∈ x.ents,e.name ≠ txt []:=fun e he h2 => by
 cases hd : x.dir
 ·have:=(h.files x hx hd).1
  rw [this] at he
  simp at he
 ·have h1:=((h.frm.1.dirs x hx hd).2.each e he).1
  rw [h2] at h1
  revert h1
  decide
theorem rnPut {is : List Ino} {n : Int} {nm : ByteArray} {num m : Int} (h : Rn is m) : Rn (modN is n fun es => putE es nm num) m:=
 h.mono fun x hx hd => by
  by_cases e : x.num = n
  ·exact ⟨_,mem_modN.2 ⟨x,hx,.inl ⟨e,rfl⟩⟩,rfl,hd,fun e he => (mem_putE _ _ _ _).2 (.inr he)⟩
  ·exact ⟨x,mem_modN.2 ⟨x,hx,.inr ⟨e,rfl⟩⟩,rfl,hd,fun e he => he⟩
theorem rnPut_new {is : List Ino} {x : Ino} {n : Int} {nm : ByteArray} {num : Int} (hx : x ∈ is) (hn : x.num = n) (hd : x.dir = true) (h : Rn (modN is n fun es => putE es nm num) n) : Rn (modN is n fun es => putE es nm num) num:=
 Rn.step (x:={ x with ents:=putE x.ents nm num }) (e:=⟨nm,num⟩) (by rw [show ({ x with ents:=putE x.ents nm num } : Ino).num = n from hn];exact h) (mem_modN.2 ⟨x,hx,.inl ⟨hn,rfl⟩⟩) hd ((mem_putE _ _ _ _).2 (.inl rfl))
theorem Good.make {s : St} (h : Good s) {x : Ino} {nm : ByteArray} {core : Nat} (dir : Bool) (hx : x ∈ s.inos) (hd : x.dir = true) (hno : ∀ e ∈ x.ents,e.name ≠ nm) (hc : chkB nm = 0) (hb : bktE x.ents (bktB nm) < 4) (hk : core < s.made.length) (hm : s.made.getD core 0 < 32) :
  Good { s with made:=s.made.set core (s.made.getD core 0 + 1),inos:=putI (setEnts s.inos x.num fun es => putE es nm (2 + (core : Int) + 8 * s.made.getD core 0)) ⟨2 + (core : Int) + 8 * s.made.getD core 0,dir,[],txt []⟩ }:=by
 obtain ⟨hf,hh⟩:=h.frm
 obtain ⟨M,hM⟩ : ∃ M,s.made.getD core 0 = M:=⟨_,rfl⟩
 have hM0 : 0 ≤ M:=by
  have : s.made.getD core 0 ∈ s.made:=by
   rw [List.getD_eq_getElem?_getD,List.getElem?_eq_getElem hk]
   exact List.getElem_mem hk
  have:=hf.mr _ this
  omega
 obtain ⟨num,hnum⟩ : ∃ num,2 + (core : Int) + 8 * M = num:=⟨_,rfl⟩
 have hk8 : core < 8:=by have:=hf.m8;omega
 have hq1 : (num - 2) % 8 = (core : Int):=by omega
 have hq2 : (num - 2) / 8 = M:=by omega
 have hfr : ∀ z ∈ s.inos,z.num ≠ num:=fun z hz h9 => by
  by_cases h1 : z.num = 1
  ·omega
  ·have:=hf.given z hz h1
   unfold givenV at this
   rw [h9,if_neg (by omega),Bool.and_eq_true,decide_eq_true_eq,decide_eq_true_eq,hq1,hq2,Int.toNat_natCast,hM] at this
   omega
 have hf1:=hf.made hk hm
 rw [hM] at hf1 ⊢
 rw [hnum]
 have hgv : givenV (s.made.set core (M + 1)) num = true:=by
  unfold givenV
  rw [if_neg (by omega),Bool.and_eq_true,decide_eq_true_eq,decide_eq_true_eq,hq1,hq2,Int.toNat_natCast,List.length_set]
  refine ⟨by omega,?_⟩
  rw [List.getD_eq_getElem?_getD,List.getElem?_set,if_pos rfl,if_pos hk]
  show M < M + 1
  omega
 obtain ⟨y,hy⟩ : ∃ y : Ino,(⟨num,dir,[],txt []⟩ : Ino) = y:=⟨_,rfl⟩
 have hyn : y.num = num:=by rw [← hy]
 have hye : y.ents = []:=by rw [← hy]
 have hyz : y.data.size = 0:=by rw [← hy];rfl
 have hf2:=hf1.putI (y:=y) (fun z hz => by rw [hyn];exact hfr z hz) hye hyz (by rw [hyn];exact hgv)
 have hx2 : x ∈ putI s.inos y:=(mem_putI _ _ _).2 (.inr hx)
 have hlk : ∀ m,linkI (modN (putI s.inos y) x.num fun es => putE es nm num) m + linkE x.ents m = linkI (putI s.inos y) m + linkE (putE x.ents nm num) m:=linkI_modN hf2.rise hx2 rfl hd (fun es => putE es nm num)
 have hl0 : linkI s.inos num = 0:=by
  rw [linkI_zero]
  intro z hz hzd e he h9
  obtain ⟨w,hw,hwn⟩:=((hf.dirs z hz hzd).2.each e he).2.2
  exact hfr w hw (by omega)
 have hn1 : num ≠ 1:=by omega
 rw [hy,setEnts_modN hf.rise hx rfl,putI_modN _ _ _ _ (by rw [hyn];exact fun h9 => hfr x hx h9.symm)]
 have hRp : ∀ {m : Int},Rn s.inos m → Rn (modN (putI s.inos y) x.num fun es => putE es nm num) m:=fun {m} h9 => rnPut (h9.mono fun z hz hzd => ⟨z,(mem_putI _ _ _).2 (.inr hz),rfl,hzd,fun e he => he⟩)
 have hRn : Rn (modN (putI s.inos y) x.num fun es => putE es nm num) num:=rnPut_new hx2 rfl hd (hRp (hh.dir hx hd))
 refine (hf2.modN (f:=fun es => putE es nm num) hx2 rfl hd (((hf2.dirs x hx2 hd).2).put hno hc hb hn1 ⟨y,(mem_putI _ _ _).2 (.inl rfl),hyn⟩)).good ⟨fun z hz hz1 hzd => ?_,fun z hz hzd => ?_⟩
 ·obtain ⟨z0,hz0,hzn,hzdd⟩:=modN_old (is:=putI s.inos y) (n:=x.num) (f:=fun es => putE es nm num) hz
  rw [hzdd] at hzd
  have h3:=hlk z0.num
  rw [linkE_put,linkI_put _ _ _ hye] at h3
  rw [hzn]
  rcases (mem_putI _ _ _).1 hz0 with e9 | hz0
  ·have h4 : z0.num = num:=by rw [e9];exact hyn
   rw [h4] at h3 ⊢
   rw [if_pos rfl,hl0] at h3
   exact ⟨by show linkI (modN (putI s.inos y) x.num fun es => putE es nm num) num = 1;omega,hRn⟩
  ·obtain ⟨a1,a2⟩:=hh.one z0 hz0 (by omega) hzd
   rw [if_neg (fun h9 => hfr z0 hz0 h9.symm)] at h3
   exact ⟨by show linkI (modN (putI s.inos y) x.num fun es => putE es nm num) z0.num = 1;omega,hRp a2⟩
 ·obtain ⟨z0,hz0,hzn,hzdd⟩:=modN_old (is:=putI s.inos y) (n:=x.num) (f:=fun es => putE es nm num) hz
  rw [hzdd] at hzd
  rw [hzn]
  rcases (mem_putI _ _ _).1 hz0 with e9 | hz0
  ·rw [show z0.num = num by rw [e9];exact hyn];exact .inl hRn
  ·rcases hh.has z0 hz0 hzd with a | a
   ·exact .inl (hRp a)
   ·exact .inr a
theorem Good.make1 {s : St} (h : Good s) (c : Ca) (hc0 : 0 ≤ c.core) (hc1 : c.core < (s.made.length : Int)) : Good (make1V s c).1:=by
 unfold make1V
 split
 ·exact h
 ·rename_i h1
  split
  ·exact h
  ·rename_i h2
   split
   ·exact h
   ·rename_i h3
    have hok : (parentV s.inos c.path).2.2 = 0:=by omega
    obtain ⟨_,_,_,hdd,hpe⟩:=parentV_ok hok
    have hcn:=parentV_name s.inos c.path hok
    rw [← hpe] at hdd
    obtain ⟨x,hx,hxn,hxd⟩:=dirAt_mem hdd
    have hno:=(entV_mem h hx hxn _).1 (Classical.not_not.1 h2)
    have hfull : fullE x.ents (parentV s.inos c.path).2.1 (txt []) < 4:=fullV_mem h hx hxn fun h9 => h3 (.inl h9)
    rw [bktE_none _ _ _ (noname h hx)] at hfull
    have hg:=h.make (core:=c.core.toNat) (decide (c.kind = 1)) hx hxd hno hcn hfull (by omega) (by omega)
    rw [hxn,show ((c.core.toNat : Nat) : Int) = c.core by omega] at hg
    exact hg
theorem freeFd_free (ds : List Ds) (core : Int) (h : freeFd ds core ≠ 4) : fdV ds core (freeFd ds core : Int) = 0 ∧ freeFd ds core < 4:=by
 unfold freeFd at h ⊢
 by_cases h0 : fdV ds core 0 = 0
 ·rw [if_pos h0];exact ⟨h0,by omega⟩
 ·rw [if_neg h0] at h ⊢
  by_cases h1 : fdV ds core 1 = 0
  ·rw [if_pos h1];exact ⟨h1,by omega⟩
  ·rw [if_neg h1] at h ⊢
   by_cases h2 : fdV ds core 2 = 0
   ·rw [if_pos h2];exact ⟨h2,by omega⟩
   ·rw [if_neg h2] at h ⊢
    by_cases h3 : fdV ds core 3 = 0
    ·rw [if_pos h3];exact ⟨h3,by omega⟩
    ·rw [if_neg h3] at h
     exact absurd rfl h
def wantV (c : Ca) (r : Re) : Int:=if c.kind = 2 ∧ r.code = 0 then r.fd else -1
def allowsV (s : St) (c : Ca) (r : Re) : St × Bool:=
 if c.kind = 2 ∧ r.code = 0 ∧ r.fd < 0 then (s,false)
 else if (doF s c (wantV c r)).2.2 = false ∨ sameR (doF s c (wantV c r)).2.1 r = false then (s,false)
 else ((doF s c (wantV c r)).1,true)
def refuse (s : St) (c : Ca) (r : Re) : Bool:=(fdP s.opn c.core r.fd).isSome || decide (r.fd < 0) || decide (4 ≤ r.fd) || decide (r.code ≠ 0) || decide (r.num ≠ 0) || r.dir || decide (r.data ≠ ⟨#[]⟩) || decide (0 < r.names.length)
theorem fdP_free {s : St} (h : Good s) (core fd : Int) : fdP s.opn core fd = none ↔ fdV s.opn core fd = 0:=by
 constructor
 ·intro h1
  exact (fdP_none _ _ _ h1).1
 ·intro h1
  cases hp : fdP s.opn core fd with
  | none => rfl
  | some k =>
   exfalso
   obtain ⟨d,hd,hc,hf,_⟩:=fdP_some _ _ _ _ hp
   refine fdV_has s.opn core fd (fun x hx => ?_) ⟨d,List.mem_of_getElem? hd,hc,hf⟩ h1
   obtain ⟨_,_,_,_,w,hw,hwn,_⟩:=h.frm.1.opn x hx
   by_cases h2 : w.num = 1
   ·omega
   ·have:=given_pos (h.frm.1.given w hw h2);omega
theorem allows_plain {s : St} {c : Ca} {r : Re} (h : c.kind ≠ 2 ∨ (doV s c).2.code ≠ 0 ∨ r.fd = (doV s c).2.fd) : allowsV s c r = if sameR (doV s c).2 r then ((doV s c).1,true) else (s,false):=by
 unfold allowsV
 by_cases hk : c.kind = 2
 rotate_left
 ·have hw : wantV c r = -1:=by unfold wantV;rw [if_neg (fun h => hk h.1)]
  have hok : ∀ want,(doF s c want).2.2 = true:=fun want => by
   unfold doF
   repeat' (first | rfl | (exact absurd (by assumption) hk) | split)
  rw [if_neg (fun h => hk h.1),hw,hok]
  show (if true = false ∨ sameR (doV s c).2 r = false then _ else _) = _
  cases sameR (doV s c).2 r <;> simp [doV]
 by_cases hm : mayV s = false ∨ c.core < 0 ∨ (s.made.length : Int) ≤ c.core ∨ c.kind < 0 ∨ 16 < c.kind
 ·have hd : ∀ want,doF s c want = (s,{ code:=9 },true):=fun want => by unfold doF;rw [if_pos hm]
  have hv : doV s c = (s,{ code:=9 }):=by unfold doV;rw [hd]
  rw [hv,hd]
  by_cases h3 : c.kind = 2 ∧ r.code = 0 ∧ r.fd < 0
  ·rw [if_pos h3]
   have : sameR { code:=9 } r = false:=by
    cases hs : sameR { code:=9 } r
    ·rfl
    ·have:=sameR_eq hs
     rw [← this] at h3
     exact absurd h3.2.1 (by decide)
   rw [this]
   rfl
  ·rw [if_neg h3]
   cases sameR { code:=9 } r <;> simp
 have hd : ∀ want,doF s c want = openedV s c want:=fun want => by
  unfold doF
  rw [if_neg hm,if_neg (by omega),if_pos hk]
 have hv : doV s c = ((openedV s c (-1)).1,(openedV s c (-1)).2.1):=by unfold doV;rw [hd]
 rw [hv] at h ⊢
 rw [hd]
 by_cases hf1 : (findV s.inos c.path).2 ≠ 0
 ·have ho : ∀ want,openedV s c want = (s,{ code:=(findV s.inos c.path).2 },true):=fun want => by unfold openedV;rw [if_pos hf1]
  rw [ho,ho]
  by_cases h3 : c.kind = 2 ∧ r.code = 0 ∧ r.fd < 0
  ·rw [if_pos h3]
   have : sameR { code:=(findV s.inos c.path).2 } r = false:=by
    cases hs : sameR { code:=(findV s.inos c.path).2 } r
    ·rfl
    ·have:=sameR_eq hs
     rw [← this] at h3
     exact absurd h3.2.1 hf1
   rw [this]
   rfl
  ·rw [if_neg h3]
   cases sameR { code:=(findV s.inos c.path).2 } r <;> simp
 by_cases hf2 : dirAt s.inos (findV s.inos c.path).1 = true
 ·have ho : ∀ want,openedV s c want = (s,{ code:=8 },true):=fun want => by unfold openedV;rw [if_neg hf1,if_pos hf2]
  rw [ho,ho]
  by_cases h3 : c.kind = 2 ∧ r.code = 0 ∧ r.fd < 0
  ·rw [if_pos h3]
   have : sameR { code:=8 } r = false:=by
    cases hs : sameR { code:=8 } r
    ·rfl
    ·have:=sameR_eq hs
     rw [← this] at h3
     exact absurd h3.2.1 (by decide)
   rw [this]
   rfl
  ·rw [if_neg h3]
   cases sameR { code:=8 } r <;> simp
 by_cases hf3 : freeFd s.opn c.core = 4
 ·have ho : ∀ want,openedV s c want = (s,{ code:=10 },true):=fun want => by unfold openedV;rw [if_neg hf1,if_neg hf2,if_pos hf3]
  rw [ho,ho]
  by_cases h3 : c.kind = 2 ∧ r.code = 0 ∧ r.fd < 0
  ·rw [if_pos h3]
   have : sameR { code:=10 } r = false:=by
    cases hs : sameR { code:=10 } r
    ·rfl
    ·have:=sameR_eq hs
     rw [← this] at h3
     exact absurd h3.2.1 (by decide)
   rw [this]
   rfl
  ·rw [if_neg h3]
   cases sameR { code:=10 } r <;> simp
 obtain ⟨hfree,hlt⟩:=freeFd_free _ _ hf3
 have ho1 : openedV s c (-1) = ({ s with opn:=putD s.opn ⟨c.core,freeFd s.opn c.core,(findV s.inos c.path).1⟩ },{ fd:=freeFd s.opn c.core },true):=by
  unfold openedV
  rw [if_neg hf1,if_neg hf2,if_neg hf3,if_neg (by omega)]
 rw [ho1] at h ⊢
 have hfd : r.fd = (freeFd s.opn c.core : Int):=by
  rcases h with h | h | h
  ·exact absurd hk h
  ·exact absurd rfl h
  ·exact h
 rw [if_neg (by omega)]
 by_cases hrc : r.code = 0
 ·rw [show wantV c r = (freeFd s.opn c.core : Int) by unfold wantV;rw [if_pos ⟨hk,hrc⟩,hfd]]
  have ho2 : openedV s c (freeFd s.opn c.core : Int) = ({ s with opn:=putD s.opn ⟨c.core,freeFd s.opn c.core,(findV s.inos c.path).1⟩ },{ fd:=freeFd s.opn c.core },true):=by
   unfold openedV
   rw [if_neg hf1,if_neg hf2,if_neg hf3,if_pos (by omega),if_neg (by rw [hfree];omega)]
  rw [ho2]
  simp only
  cases hsr : sameR { fd:=(freeFd s.opn c.core : Int) } r <;> simp
 ·rw [show wantV c r = -1 by unfold wantV;rw [if_neg (fun h => hrc h.2)],ho1]
  simp only
  cases hsr : sameR { fd:=(freeFd s.opn c.core : Int) } r <;> simp
theorem allows_other {s : St} {c : Ca} {r : Re} (hk : c.kind = 2) (h0 : (doV s c).2.code = 0) (hne : r.fd ≠ (doV s c).2.fd) :
  Good s ∧ 0 ≤ c.core ∧ c.core < (s.made.length : Int) ∧ ∃ num,(doV s c) = ({ s with opn:=putD s.opn ⟨c.core,(doV s c).2.fd,num⟩ },{ fd:=(doV s c).2.fd }) ∧ fdV s.opn c.core (doV s c).2.fd = 0 ∧ 0 ≤ (doV s c).2.fd ∧ (doV s c).2.fd < 4 ∧
   allowsV s c r = if refuse s c r = true then (s,false) else ({ s with opn:=putD s.opn ⟨c.core,r.fd,num⟩ },true):=by
 by_cases hm : mayV s = false ∨ c.core < 0 ∨ (s.made.length : Int) ≤ c.core ∨ c.kind < 0 ∨ 16 < c.kind
 ·have hv : doV s c = (s,{ code:=9 }):=by unfold doV doF;rw [if_pos hm]
  rw [hv] at h0
  exact absurd (show (9 : Int) = 0 from h0) (by decide)
 have hd : ∀ want,doF s c want = openedV s c want:=fun want => by
  unfold doF
  rw [if_neg hm,if_neg (by omega),if_pos hk]
 have hv : doV s c = ((openedV s c (-1)).1,(openedV s c (-1)).2.1):=by unfold doV;rw [hd]
 have hgood : Good s:=by
  rw [← good_iff]
  cases hmv : mayV s
  ·exact absurd (.inl hmv) hm
  ·rfl
 rw [hv] at h0 hne ⊢
 by_cases hf1 : (findV s.inos c.path).2 ≠ 0
 ·unfold openedV at h0
  rw [if_pos hf1] at h0
  exact absurd h0 hf1
 by_cases hf2 : dirAt s.inos (findV s.inos c.path).1 = true
 ·unfold openedV at h0
  rw [if_neg hf1,if_pos hf2] at h0
  exact absurd (show (8 : Int) = 0 from h0) (by decide)
 by_cases hf3 : freeFd s.opn c.core = 4
 ·unfold openedV at h0
  rw [if_neg hf1,if_neg hf2,if_pos hf3] at h0
  exact absurd (show (10 : Int) = 0 from h0) (by decide)
 obtain ⟨hfree,hlt⟩:=freeFd_free _ _ hf3
 have ho1 : openedV s c (-1) = ({ s with opn:=putD s.opn ⟨c.core,freeFd s.opn c.core,(findV s.inos c.path).1⟩ },{ fd:=freeFd s.opn c.core },true):=by
  unfold openedV
  rw [if_neg hf1,if_neg hf2,if_neg hf3,if_neg (by omega)]
 rw [ho1] at hne ⊢
 simp only at hne ⊢
 refine ⟨hgood,by omega,by omega,(findV s.inos c.path).1,rfl,hfree,by omega,by omega,?_⟩
 have hnone : (fdP s.opn c.core r.fd).isSome = true ↔ fdV s.opn c.core r.fd ≠ 0:=by
  have hfr:=fdP_free hgood c.core r.fd
  cases hq : fdP s.opn c.core r.fd with
  | none => exact ⟨(fun h1 => absurd h1 (by decide)),(fun h1 => absurd (hfr.1 hq) h1)⟩
  | some k => exact ⟨(fun _ h1 => by have h9:=hfr.2 h1;rw [hq] at h9;cases h9),(fun _ => rfl)⟩
 unfold allowsV
 rw [hd]
 by_cases hrc : r.code = 0
 ·rw [show wantV c r = r.fd by unfold wantV; rw [if_pos ⟨hk, hrc⟩]]
  by_cases hneg : r.fd < 0
  ·have hr : refuse s c r = true:=by unfold refuse;simp [hneg]
   rw [if_pos ⟨hk,hrc,hneg⟩,hr]
   rfl
  ·rw [if_neg (by omega)]
   by_cases hbad : 4 ≤ r.fd ∨ fdV s.opn c.core r.fd ≠ 0
   ·have ho2 : openedV s c r.fd = (s,{},false):=by
     unfold openedV
     rw [if_neg hf1,if_neg hf2,if_neg hf3,if_pos (by omega),if_pos hbad]
    have hr : refuse s c r = true:=by
     unfold refuse
     rcases hbad with h1 | h1
     ·simp [h1]
     ·rw [hnone.2 h1];simp
    rw [ho2,hr]
    simp
   ·have ho2 : openedV s c r.fd = ({ s with opn:=putD s.opn ⟨c.core,r.fd,(findV s.inos c.path).1⟩ },{ fd:=r.fd },true):=by
     unfold openedV
     rw [if_neg hf1,if_neg hf2,if_neg hf3,if_pos (by omega),if_neg hbad]
    rw [ho2]
    have hsome : (fdP s.opn c.core r.fd).isSome = false:=by
     cases hq : (fdP s.opn c.core r.fd).isSome
     ·rfl
     ·exact absurd (.inr (hnone.1 hq)) hbad
    have hs : sameR { fd:=r.fd } r = !refuse s c r:=by
     have h1 : decide (r.fd < 0) = false:=decide_eq_false hneg
     have h2 : decide (4 ≤ r.fd) = false:=decide_eq_false (fun h => hbad (.inl h))
     have h3 : decide (r.code ≠ 0) = false:=decide_eq_false (fun h => h hrc)
     unfold refuse
     rw [hsome,h1,h2,h3]
     unfold sameR sameF
     simp only [hrc,Bool.false_or]
     have e1 : decide ((([] : List ByteArray)) = r.names) = !decide (0 < r.names.length):=by
      cases r.names <;> simp
     have e2 : decide ((0 : Int) = r.num) = !decide (r.num ≠ 0):=by
      by_cases h : r.num = 0
      ·simp [h]
      ·simp [h];exact fun e => h e.symm
     have e3 : decide (false = r.dir) = !r.dir:=by cases r.dir <;> rfl
     have e4 : decide ((⟨#[]⟩ : ByteArray) = r.data) = !decide (r.data ≠ ⟨#[]⟩):=by
      by_cases h : r.data = ⟨#[]⟩
      ·simp [h]
      ·simp [h];exact fun e => h e.symm
     rw [e1,e2,e3,e4]
     cases decide (0 < r.names.length) <;> cases decide (r.num ≠ 0) <;> cases r.dir <;> cases decide (r.data ≠ ⟨#[]⟩) <;> simp
    simp only [hs]
    cases refuse s c r <;> simp
 ·have hr : refuse s c r = true:=by unfold refuse;simp [hrc]
  rw [if_neg (fun h => hrc h.2.1),show wantV c r = -1 by unfold wantV;rw [if_neg (fun h => hrc h.2)],ho1,hr]
  have : sameR { fd:=(freeFd s.opn c.core : Int) } r = false:=by
   cases hs : sameR { fd:=(freeFd s.opn c.core : Int) } r
   ·rfl
   ·have:=sameR_eq hs
    exact absurd (by rw [← this]) hrc
  simp [this]
structure Back (ds : List Ds) (core fd : Int) (i : Nat) (at_ : Nat) : Prop where
 le : at_ ≤ ds.length
 gt : i ≤ at_
 hi : ∀ d,ds[at_]? = some d → core < d.core ∨ (d.core = core ∧ fd < d.fd)
 lo : ∀ (k : Nat) (d : Ds),i ≤ k → k < at_ → ds[k]? = some d → ¬ (core < d.core ∨ (d.core = core ∧ fd < d.fd))
theorem Back.start (ds : List Ds) (core fd : Int) : Back ds core fd ds.length ds.length:=⟨Nat.le_refl _,Nat.le_refl _,fun d hd => by simp at hd,fun k d h1 h2 => by omega⟩
theorem Back.step {ds : List Ds} {core fd : Int} {i at_ : Nat} (h : Back ds core fd (i + 1) at_) {d : Ds} (hd : ds[i]? = some d) :
  ((core < d.core ∨ (d.core = core ∧ fd < d.fd)) → Back ds core fd i i) ∧ (¬ (core < d.core ∨ (d.core = core ∧ fd < d.fd)) → Back ds core fd i at_):=by
 have hl:=(List.getElem?_eq_some_iff.1 hd).1
 refine ⟨fun hc => ⟨by omega,Nat.le_refl _,fun e he => by rw [hd] at he;cases he;exact hc,fun k e h1 h2 => by omega⟩,fun hc => ⟨h.le,by have:=h.gt;omega,h.hi,fun k e h1 h2 he => ?_⟩⟩
 by_cases hk : k = i
 ·subst hk
  rw [hd] at he
  cases he
  exact hc
 ·exact h.lo k e (by omega) h2 he
theorem Back.put {ds : List Ds} {core fd num : Int} {at_ : Nat} (h : Back ds core fd 0 at_) (hr : RiseD ds) (hno : ∀ x ∈ ds,¬ (x.core = core ∧ x.fd = fd)) : putD ds ⟨core,fd,num⟩ = ds.take at_ ++ [⟨core,fd,num⟩] ++ ds.drop at_:=by
 refine putD_pos _ _ _ h.le (fun k d hk hd => ?_) (fun k d hk hd => ?_)
 ·have h1:=h.lo k d (by omega) hk hd
  have h2:=hno d (List.mem_of_getElem? hd)
  unfold ltD
  simp only
  omega
 ·have hl:=(List.getElem?_eq_some_iff.1 hd).1
  have hat:=List.getElem?_eq_getElem (show at_ < ds.length by omega)
  have h1:=h.hi _ hat
  by_cases e : at_ = k
  ·subst e
   rw [hd] at hat
   cases hat
   unfold ltD
   simp only
   omega
  ·have h2:=hr at_ k _ d (by omega) hat hd
   unfold ltD at h2 ⊢
   simp only
   omega
end Go.Proofs.YtndcloohcfhejaaGreat
