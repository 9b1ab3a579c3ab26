/- A call leaves a state that may be as one that may be. No program in sight. -/
import Derived.Test.YtilkhmhgjbhfnaaGreatDoorGdOps
set_option linter.unusedVariables false
set_option linter.unusedSimpArgs false
namespace Go.Proofs.YtilkhmhgjbhfnaaGreatDoor
theorem modN_old {is : List Ino} {n : Int} {f : List En → List En} {z : Ino} (hz : z ∈ modN is n f) : ∃ z0 ∈ is, z.num = z0.num ∧ z.dir = z0.dir := by
 obtain ⟨z0, hz0, ⟨_, rfl⟩ | ⟨_, rfl⟩⟩ := mem_modN.1 hz
 ·exact ⟨z0, hz0, rfl, rfl⟩
 ·exact ⟨z, hz0, rfl, rfl⟩
theorem dirAt_mem {is : List Ino} {n : Int} (h : dirAt is n = true) : ∃ x ∈ is, x.num = n ∧ x.dir = true := by
 unfold dirAt at h
 rcases atV_cases is n with ⟨h1, _⟩ | ⟨k, x, h1, h2, h3, _⟩
 ·rw [h1] at h
  simp [inoAt] at h
 ·rw [h1, inoAt_nat, h2] at h
  exact ⟨x, List.mem_of_getElem? h2, h3, h⟩
theorem notdir_mem {is : List Ino} {n : Int} (h : dirAt is n = false) (h0 : 0 ≤ atV is n) : ∃ x ∈ is, x.num = n ∧ x.dir = false := by
 unfold dirAt at h
 rcases atV_cases is n with ⟨h1, _⟩ | ⟨k, x, h1, h2, h3, _⟩
 ·omega
 ·rw [h1, inoAt_nat, h2] at h
  exact ⟨x, List.mem_of_getElem? h2, h3, h⟩
theorem openB_iff : ∀ (ds : List Ds) (n : Int), openB ds n = true ↔ ∃ d ∈ ds, d.num = n
 | [], n => by simp [openB]
 | d :: ds, n => by
  unfold openB
  by_cases h : d.num = n
  ·rw [if_pos h]; simp [h]
  ·rw [if_neg h, openB_iff ds n]; simp [h]
theorem fdV_mem2 : ∀ (ds : List Ds) (core fd : Int), fdV ds core fd ≠ 0 → ∃ d ∈ ds, d.core = core ∧ d.fd = fd ∧ d.num = fdV ds core fd
 | [], _, _, h => absurd rfl h
 | d :: ds, core, fd, h => by
  unfold fdV at h ⊢
  by_cases hh : d.core = core ∧ d.fd = fd
  ·rw [if_pos hh]
   exact ⟨d, by simp, hh.1, hh.2, rfl⟩
  ·rw [if_neg hh] at h ⊢
   obtain ⟨e, he, h2⟩ := fdV_mem2 ds core fd h
   exact ⟨e, by simp [he], h2⟩
theorem RiseD.one {ds : List Ds} (h : RiseD ds) {x y : Ds} (hx : x ∈ ds) (hy : y ∈ ds) (hc : x.core = y.core) (hf : x.fd = y.fd) : x = y := by
 obtain ⟨i, hi⟩ := List.getElem?_of_mem hx
 obtain ⟨j, hj⟩ := List.getElem?_of_mem hy
 rcases Nat.lt_trichotomy i j with h1 | h1 | h1
 ·have := h i j x y h1 hi hj; unfold ltD at this; omega
 ·subst h1
  rw [hi] at hj
  exact Option.some.inj hj
 ·have := h j i y x h1 hj hi; unfold ltD at this; omega
theorem RiseE.one {es : List En} (h : RiseE es) {x y : En} (hx : x ∈ es) (hy : y ∈ es) (hn : x.name = y.name) : x = y := by
 obtain ⟨i, hi⟩ := List.getElem?_of_mem hx
 obtain ⟨j, hj⟩ := List.getElem?_of_mem hy
 rcases Nat.lt_trichotomy i j with h1 | h1 | h1
 ·have := h i j x y h1 hi hj; rw [hn, ltN_irrefl] at this; cases this
 ·subst h1
  rw [hi] at hj
  exact Option.some.inj hj
 ·have := h j i y x h1 hj hi; rw [hn, ltN_irrefl] at this; cases this
theorem entV_mem {s : St} (h : Good s) {x : Ino} {n : Int} (hx : x ∈ s.inos) (hn : x.num = n) (nm : ByteArray) : (entV s.inos n nm = 0 → ∀ e ∈ x.ents, e.name ≠ nm) ∧ (entV s.inos n nm ≠ 0 → ∃ e ∈ x.ents, e.name = nm ∧ e.num = entV s.inos n nm) := by
 obtain ⟨i, hi⟩ := List.getElem?_of_mem hx
 rw [entV_at (atV_of_rise h.riseI hi hn) hi nm]
 refine ⟨fun h0 => entG_zero _ _ (fun e he => (h.entNum hx he).1) h0, fun h0 => ?_⟩
 obtain ⟨j, e, hj, h1, h2⟩ := entG_some _ _ h0
 exact ⟨e, List.mem_of_getElem? hj, h1, h2⟩
theorem fullV_mem {s : St} (h : Good s) {x : Ino} {n : Int} (hx : x ∈ s.inos) (hn : x.num = n) {nm but : ByteArray} (hf : ¬ fullV s.inos n nm but = true) : fullE x.ents nm but < 4 := by
 obtain ⟨i, hi⟩ := List.getElem?_of_mem hx
 unfold fullV at hf
 rw [atV_of_rise h.riseI hi hn, inoAt_nat, hi] at hf
 simp only [decide_eq_true_eq] at hf
 omega
theorem noname {s : St} (h : Good s) {x : Ino} (hx : x ∈ s.inos) : ∀ e ∈ x.ents, e.name ≠ txt [] := fun e he h2 => by
 cases hd : x.dir
 ·have := (h.files x hx hd).1
  rw [this] at he
  simp at he
 ·have h1 := ((h.frm.1.dirs x hx hd).2.each e he).1
  rw [h2] at h1
  revert h1
  decide
theorem rnPut {is : List Ino} {n : Int} {nm : ByteArray} {num m : Int} (h : Rn is m) : Rn (modN is n fun es => putE es nm num) m :=
 h.mono fun x hx hd => by
  by_cases e : x.num = n
  ·exact ⟨_, mem_modN.2 ⟨x, hx, .inl ⟨e, rfl⟩⟩, rfl, hd, fun e he => (mem_putE _ _ _ _).2 (.inr he)⟩
  ·exact ⟨x, mem_modN.2 ⟨x, hx, .inr ⟨e, rfl⟩⟩, rfl, hd, fun e he => he⟩
theorem rnPut_new {is : List Ino} {x : Ino} {n : Int} {nm : ByteArray} {num : Int} (hx : x ∈ is) (hn : x.num = n) (hd : x.dir = true) (h : Rn (modN is n fun es => putE es nm num) n) : Rn (modN is n fun es => putE es nm num) num :=
 Rn.step (x := { x with ents := putE x.ents nm num }) (e := ⟨nm, num⟩) (by rw [show ({ x with ents := putE x.ents nm num } : Ino).num = n from hn]; exact h) (mem_modN.2 ⟨x, hx, .inl ⟨hn, rfl⟩⟩) hd ((mem_putE _ _ _ _).2 (.inl rfl))
theorem rnDrop {is : List Ino} (hr : RiseI is) {x : Ino} {e : En} {n : Int} {nm : ByteArray} (hx : x ∈ is) (hn : x.num = n) (hre : RiseE x.ents) (he : e ∈ x.ents) (hen : e.name = nm) (hy : ∀ z ∈ is, z.num = e.num → z.ents = []) {m : Int} (h : Rn is m) : m ≠ e.num → Rn (modN is n fun es => dropE es nm) m := by
 induction h with
 | root => intro _; exact .root
 | step hrn hx0 hd0 he0 ih =>
  rename_i x0 e0
  intro hne
  have hx0n : x0.num ≠ e.num := fun h9 => by
   rw [hy x0 hx0 h9] at he0
   simp at he0
  have ih := ih hx0n
  by_cases e1 : x0.num = n
  ·have : x0 = x := hr.one hx0 hx (by omega)
   subst this
   have hnn : e0.name ≠ nm := fun h9 => hne (by rw [hre.one he0 he (by rw [h9, hen])])
   exact Rn.step (x := { x0 with ents := dropE x0.ents nm }) ih (mem_modN.2 ⟨x0, hx0, .inl ⟨hn, rfl⟩⟩) hd0 ((mem_dropE _ _ _).2 ⟨he0, hnn⟩)
  ·exact Rn.step ih (mem_modN.2 ⟨x0, hx0, .inr ⟨e1, rfl⟩⟩) hd0 he0
theorem rnDropI {is : List Ino} {n : Int} (hy : ∀ z ∈ is, z.num = n → z.ents = []) {m : Int} (h : Rn is m) : m ≠ n → Rn (dropI is n) m := by
 induction h with
 | root => intro _; exact .root
 | step hrn hx0 hd0 he0 ih =>
  rename_i x0 e0
  intro hne
  have hx0n : x0.num ≠ n := fun h9 => by
   rw [hy x0 hx0 h9] at he0
   simp at he0
  exact Rn.step (ih hx0n) ((mem_dropI _ _ _).2 ⟨hx0, hx0n⟩) hd0 he0
theorem sweep_good {s : St} (h : Frm s) {n : Int} (h1 : n ≠ 1) (hy : ∀ z ∈ s.inos, z.num = n → z.ents = []) (hd : ∀ z ∈ s.inos, z.num = n → z.dir = true → linkI s.inos n = 0 ∧ openB s.opn n = false)
  (ho : ∀ z ∈ s.inos, z.num ≠ 1 → z.dir = true → z.num ≠ n → linkI s.inos z.num = 1 ∧ Rn s.inos z.num) (hf : ∀ z ∈ s.inos, z.dir = false → z.num ≠ n → Rn s.inos z.num ∨ openB s.opn z.num = true) : Good (sweepV s n) := by
 unfold sweepV
 by_cases hc : 0 < linkI s.inos n ∨ openB s.opn n = true
 ·rw [if_pos hc]
  have hnd : ∀ z ∈ s.inos, z.num = n → z.dir = true → False := fun z hz hn hzd => by
   obtain ⟨a1, a2⟩ := hd z hz hn hzd
   rcases hc with hc | hc
   ·omega
   ·rw [a2] at hc; cases hc
  refine h.good ⟨fun z hz hz1 hzd => ho z hz hz1 hzd (fun h9 => hnd z hz h9 hzd), fun z hz hzd => ?_⟩
  by_cases e : z.num = n
  ·rcases hc with hc | hc
   ·have hpos : ¬ linkI s.inos n = 0 := by omega
    rw [linkI_zero] at hpos
    simp only [Classical.not_forall, Classical.not_not] at hpos
    obtain ⟨x, hx, hxd, e', he', hen⟩ := hpos
    left
    have hxn : x.num ≠ n := fun h9 => by
     rw [hy x hx h9] at he'
     simp at he'
    have hxr : Rn s.inos x.num := by
     by_cases h2 : x.num = 1
     ·rw [h2]; exact .root
     ·exact (ho x hx h2 hxd hxn).2
    rw [e, ← hen]
    exact .step hxr hx hxd he'
   ·exact .inr (by rw [e]; exact hc)
  ·exact hf z hz hzd e
 ·rw [if_neg hc]
  have hl : linkI s.inos n = 0 := by omega
  have hop : ∀ d ∈ s.opn, d.num ≠ n := fun d hdm h9 => hc (.inr ((openB_iff _ _).2 ⟨d, hdm, h9⟩))
  refine (h.dropI h1 hl hop).good ⟨fun z hz hz1 hzd => ?_, fun z hz hzd => ?_⟩
  ·obtain ⟨hz2, hzn⟩ := (mem_dropI _ _ _).1 hz
   obtain ⟨a1, a2⟩ := ho z hz2 hz1 hzd hzn
   exact ⟨by rw [← a1]; exact linkI_drop' _ _ _ hy, rnDropI hy a2 hzn⟩
  ·obtain ⟨hz2, hzn⟩ := (mem_dropI _ _ _).1 hz
   rcases hf z hz2 hzd hzn with a | a
   ·exact .inl (rnDropI hy a hzn)
   ·exact .inr a
theorem Good.put {s : St} (h : Good s) {x y : Ino} {nm : ByteArray} (hx : x ∈ s.inos) (hd : x.dir = true) (hno : ∀ e ∈ x.ents, e.name ≠ nm) (hc : chkB nm = 0) (hb : bktE x.ents (bktB nm) < 4) (hy : y ∈ s.inos) (hyd : y.dir = false) :
  Good { s with inos := setEnts s.inos x.num fun es => putE es nm y.num } := by
 obtain ⟨hf, hh⟩ := h.frm
 have hy1 : y.num ≠ 1 := fun h1 => by
  obtain ⟨r, hr, hrn, hrd⟩ := hf.root
  have : r = y := hf.rise.one hr hy (by omega)
  rw [this, hyd] at hrd
  cases hrd
 rw [setEnts_modN hf.rise hx rfl]
 have hlk := linkI_modN hf.rise hx rfl hd (fun es => putE es nm y.num)
 have hRx := hh.dir hx hd
 refine (hf.modN (f := fun es => putE es nm y.num) hx rfl hd ((hf.dirs x hx hd).2.put hno hc hb hy1 ⟨y, hy, rfl⟩)).good ⟨fun z hz hz1 hzd => ?_, fun z hz hzd => ?_⟩
 ·obtain ⟨z0, hz0, hzn, hzdd⟩ := modN_old (is := s.inos) (n := x.num) (f := fun es => putE es nm y.num) hz
  rw [hzdd] at hzd
  obtain ⟨a1, a2⟩ := hh.one z0 hz0 (by omega) hzd
  have hne : y.num ≠ z0.num := fun h9 => by
   have : y = z0 := hf.rise.one hy hz0 h9
   rw [← this, hyd] at hzd
   cases hzd
  have := hlk z0.num
  rw [linkE_put, if_neg hne] at this
  rw [hzn]
  exact ⟨by show linkI (modN s.inos x.num fun es => putE es nm y.num) z0.num = 1; omega, rnPut a2⟩
 ·obtain ⟨z0, hz0, hzn, hzdd⟩ := modN_old (is := s.inos) (n := x.num) (f := fun es => putE es nm y.num) hz
  rw [hzdd] at hzd
  rw [hzn]
  rcases hh.has z0 hz0 hzd with a | a
  ·exact .inl (rnPut a)
  ·exact .inr a
theorem Good.make {s : St} (h : Good s) {x : Ino} {nm : ByteArray} {core : Nat} (dir : Bool) (hx : x ∈ s.inos) (hd : x.dir = true) (hno : ∀ e ∈ x.ents, e.name ≠ nm) (hc : chkB nm = 0) (hb : bktE x.ents (bktB nm) < 4) (hk : core < s.made.length) (hm : s.made.getD core 0 < 32) :
  Good { s with made := s.made.set core (s.made.getD core 0 + 1), inos := putI (setEnts s.inos x.num fun es => putE es nm (2 + (core : Int) + 8 * s.made.getD core 0)) ⟨2 + (core : Int) + 8 * s.made.getD core 0, dir, [], txt []⟩ } := by
 obtain ⟨hf, hh⟩ := h.frm
 obtain ⟨M, hM⟩ : ∃ M, s.made.getD core 0 = M := ⟨_, rfl⟩
 have hM0 : 0 ≤ M := by
  have : s.made.getD core 0 ∈ s.made := by
   rw [List.getD_eq_getElem?_getD, List.getElem?_eq_getElem hk]
   exact List.getElem_mem hk
  have := hf.mr _ this
  omega
 obtain ⟨num, hnum⟩ : ∃ num, 2 + (core : Int) + 8 * M = num := ⟨_, rfl⟩
 have hk8 : core < 8 := by have := hf.m8; omega
 have hq1 : (num - 2) % 8 = (core : Int) := by omega
 have hq2 : (num - 2) / 8 = M := by omega
 have hfr : ∀ z ∈ s.inos, z.num ≠ num := fun z hz h9 => by
  by_cases h1 : z.num = 1
  ·omega
  ·have := hf.given z hz h1
   unfold givenV at this
   rw [h9, if_neg (by omega), Bool.and_eq_true, decide_eq_true_eq, decide_eq_true_eq, hq1, hq2, Int.toNat_natCast, hM] at this
   omega
 have hf1 := hf.made hk hm
 rw [hM] at hf1 ⊢
 rw [hnum]
 have hgv : givenV (s.made.set core (M + 1)) num = true := by
  unfold givenV
  rw [if_neg (by omega), Bool.and_eq_true, decide_eq_true_eq, decide_eq_true_eq, hq1, hq2, Int.toNat_natCast, List.length_set]
  refine ⟨by omega, ?_⟩
  rw [List.getD_eq_getElem?_getD, List.getElem?_set, if_pos rfl, if_pos hk]
  show M < M + 1
  omega
 obtain ⟨y, hy⟩ : ∃ y : Ino, (⟨num, dir, [], txt []⟩ : Ino) = y := ⟨_, rfl⟩
 have hyn : y.num = num := by rw [← hy]
 have hye : y.ents = [] := by rw [← hy]
 have hyz : y.data.size = 0 := by rw [← hy]; rfl
 have hf2 := hf1.putI (y := y) (fun z hz => by rw [hyn]; exact hfr z hz) hye hyz (by rw [hyn]; exact hgv)
 have hx2 : x ∈ putI s.inos y := (mem_putI _ _ _).2 (.inr hx)
 have hlk : ∀ m, linkI (modN (putI s.inos y) x.num fun es => putE es nm num) m + linkE x.ents m = linkI (putI s.inos y) m + linkE (putE x.ents nm num) m := linkI_modN hf2.rise hx2 rfl hd (fun es => putE es nm num)
 have hl0 : linkI s.inos num = 0 := by
  rw [linkI_zero]
  intro z hz hzd e he h9
  obtain ⟨w, hw, hwn⟩ := ((hf.dirs z hz hzd).2.each e he).2.2
  exact hfr w hw (by omega)
 have hn1 : num ≠ 1 := by omega
 rw [hy, setEnts_modN hf.rise hx rfl, putI_modN _ _ _ _ (by rw [hyn]; exact fun h9 => hfr x hx h9.symm)]
 have hRp : ∀ {m : Int}, Rn s.inos m → Rn (modN (putI s.inos y) x.num fun es => putE es nm num) m := fun {m} h9 => rnPut (h9.mono fun z hz hzd => ⟨z, (mem_putI _ _ _).2 (.inr hz), rfl, hzd, fun e he => he⟩)
 have hRn : Rn (modN (putI s.inos y) x.num fun es => putE es nm num) num := rnPut_new hx2 rfl hd (hRp (hh.dir hx hd))
 refine (hf2.modN (f := fun es => putE es nm num) hx2 rfl hd (((hf2.dirs x hx2 hd).2).put hno hc hb hn1 ⟨y, (mem_putI _ _ _).2 (.inl rfl), hyn⟩)).good ⟨fun z hz hz1 hzd => ?_, fun z hz hzd => ?_⟩
 ·obtain ⟨z0, hz0, hzn, hzdd⟩ := modN_old (is := putI s.inos y) (n := x.num) (f := fun es => putE es nm num) hz
  rw [hzdd] at hzd
  have h3 := hlk z0.num
  rw [linkE_put, linkI_put _ _ _ hye] at h3
  rw [hzn]
  rcases (mem_putI _ _ _).1 hz0 with e9 | hz0
  ·have h4 : z0.num = num := by rw [e9]; exact hyn
   rw [h4] at h3 ⊢
   rw [if_pos rfl, hl0] at h3
   exact ⟨by show linkI (modN (putI s.inos y) x.num fun es => putE es nm num) num = 1; omega, hRn⟩
  ·obtain ⟨a1, a2⟩ := hh.one z0 hz0 (by omega) hzd
   rw [if_neg (fun h9 => hfr z0 hz0 h9.symm)] at h3
   exact ⟨by show linkI (modN (putI s.inos y) x.num fun es => putE es nm num) z0.num = 1; omega, hRp a2⟩
 ·obtain ⟨z0, hz0, hzn, hzdd⟩ := modN_old (is := putI s.inos y) (n := x.num) (f := fun es => putE es nm num) hz
  rw [hzdd] at hzd
  rw [hzn]
  rcases (mem_putI _ _ _).1 hz0 with e9 | hz0
  ·rw [show z0.num = num by rw [e9]; exact hyn]; exact .inl hRn
  ·rcases hh.has z0 hz0 hzd with a | a
   ·exact .inl (hRp a)
   ·exact .inr a
theorem Good.less {s : St} (h : Good s) {x y : Ino} {e : En} (hx : x ∈ s.inos) (hd : x.dir = true) (he : e ∈ x.ents) (hy : y ∈ s.inos) (hyn : y.num = e.num) (hye : y.ents = []) :
  Good (sweepV { s with inos := setEnts s.inos x.num fun es => dropE es e.name } e.num) := by
 obtain ⟨hf, hh⟩ := h.frm
 have hre := (hf.dirs x hx hd).2.rise
 have he1 := ((hf.dirs x hx hd).2.each e he).2.1
 have hone : ∀ z ∈ s.inos, z.num = e.num → z.ents = [] := fun z hz hn => by
  have : z = y := hf.rise.one hz hy (by omega)
  rw [this]; exact hye
 have hlk : ∀ m, linkI (modN s.inos x.num fun es => dropE es e.name) m + (if e.num = m then 1 else 0) = linkI s.inos m := fun m => by
  have h1 := linkI_modN hf.rise hx rfl hd (fun es => dropE es e.name) m
  have h2 := linkE_dropE hre he rfl m
  omega
 have mem : ∀ z ∈ modN s.inos x.num (fun es => dropE es e.name), ∃ z0 ∈ s.inos, z.num = z0.num ∧ z.dir = z0.dir ∧ ∀ a ∈ z.ents, a ∈ z0.ents := fun z hz => by
  obtain ⟨z0, hz0, ⟨_, rfl⟩ | ⟨_, rfl⟩⟩ := mem_modN.1 hz
  ·exact ⟨z0, hz0, rfl, rfl, fun a ha => ((mem_dropE _ _ _).1 ha).1⟩
  ·exact ⟨z, hz0, rfl, rfl, fun a ha => ha⟩
 rw [setEnts_modN hf.rise hx rfl]
 refine sweep_good (hf.modN (f := fun es => dropE es e.name) hx rfl hd ((hf.dirs x hx hd).2.drop e.name)) he1 ?_ ?_ ?_ ?_
 ·intro z hz hn
  obtain ⟨z0, hz0, h1, h2, h3⟩ := mem z hz
  have := hone z0 hz0 (by omega)
  rw [this] at h3
  exact List.eq_nil_iff_forall_not_mem.2 fun a ha => by have := h3 a ha; simp at this
 ·intro z hz hn hzd
  obtain ⟨z0, hz0, h1, h2, h3⟩ := mem z hz
  have hy0 : z0 = y := hf.rise.one hz0 hy (by omega)
  subst hy0
  rw [h2] at hzd
  have h4 := (hh.one z0 hz0 (by omega) hzd).1
  have h5 := hlk e.num
  rw [if_pos rfl] at h5
  rw [hyn] at h4
  refine ⟨by show linkI (modN s.inos x.num fun es => dropE es e.name) e.num = 0; omega, ?_⟩
  cases hob : openB s.opn e.num
  ·rfl
  ·obtain ⟨d, hdm, hdn⟩ := (openB_iff _ _).1 hob
   obtain ⟨_, _, _, _, w, hw, hwn, hwd⟩ := hf.opn d hdm
   have : w = z0 := hf.rise.one hw hz0 (by omega)
   rw [this, hzd] at hwd
   cases hwd
 ·intro z hz hz1 hzd hzn
  obtain ⟨z0, hz0, h1, h2, h3⟩ := mem z hz
  rw [h2] at hzd
  obtain ⟨a1, a2⟩ := hh.one z0 hz0 (by omega) hzd
  have h5 := hlk z0.num
  rw [if_neg (by omega)] at h5
  rw [h1]
  exact ⟨by show linkI (modN s.inos x.num fun es => dropE es e.name) z0.num = 1; omega, rnDrop hf.rise hx rfl hre he rfl hone a2 (by omega)⟩
 ·intro z hz hzd hzn
  obtain ⟨z0, hz0, h1, h2, h3⟩ := mem z hz
  rw [h2] at hzd
  rw [h1]
  rcases hh.has z0 hz0 hzd with a | a
  ·exact .inl (rnDrop hf.rise hx rfl hre he rfl hone a (by omega))
  ·exact .inr a
theorem Good.move {s : St} (h : Good s) {x x2 y : Ino} {e : En} {nm : ByteArray} (hx : x ∈ s.inos) (hd : x.dir = true) (he : e ∈ x.ents) (hx2 : x2 ∈ s.inos) (hd2 : x2.dir = true) (hno : ∀ a ∈ x2.ents, a.name ≠ nm) (hc : chkB nm = 0)
  (hb : bktE (if x2.num = x.num then dropE x2.ents e.name else x2.ents) (bktB nm) < 4) (hy : y ∈ s.inos) (hyn : y.num = e.num) (hR : Rn (modN s.inos x.num fun es => dropE es e.name) x2.num) :
  Good { s with inos := setEnts (setEnts s.inos x.num fun es => dropE es e.name) x2.num fun es => putE es nm e.num } := by
 obtain ⟨hf, hh⟩ := h.frm
 have hre := (hf.dirs x hx hd).2.rise
 have he1 := ((hf.dirs x hx hd).2.each e he).2.1
 have hlk : ∀ m, linkI (modN s.inos x.num fun es => dropE es e.name) m + (if e.num = m then 1 else 0) = linkI s.inos m := fun m => by
  have h1 := linkI_modN hf.rise hx rfl hd (fun es => dropE es e.name) m
  have h2 := linkE_dropE hre he rfl m
  omega
 have hf1 := hf.modN (f := fun es => dropE es e.name) hx rfl hd ((hf.dirs x hx hd).2.drop e.name)
 rw [setEnts_modN hf.rise hx rfl]
 obtain ⟨is1, his1⟩ : ∃ is1, (modN s.inos x.num fun es => dropE es e.name) = is1 := ⟨_, rfl⟩
 obtain ⟨x3, hx3, hx3n, hx3d, hx3e⟩ : ∃ x3 ∈ is1, x3.num = x2.num ∧ x3.dir = true ∧ x3.ents = (if x2.num = x.num then dropE x2.ents e.name else x2.ents) := by
  rw [← his1]
  by_cases e9 : x2.num = x.num
  ·exact ⟨_, mem_modN.2 ⟨x2, hx2, .inl ⟨e9, rfl⟩⟩, rfl, hd2, by rw [if_pos e9]⟩
  ·exact ⟨x2, mem_modN.2 ⟨x2, hx2, .inr ⟨e9, rfl⟩⟩, rfl, hd2, by rw [if_neg e9]⟩
 have hno3 : ∀ a ∈ x3.ents, a.name ≠ nm := fun a ha => by
  rw [hx3e] at ha
  split at ha
  ·exact hno a ((mem_dropE _ _ _).1 ha).1
  ·exact hno a ha
 have hnum1 : ∀ k : Int, (∃ z ∈ s.inos, z.num = k) → ∃ z ∈ is1, z.num = k := fun k ⟨z, hz, hk⟩ => by
  rw [← his1]
  by_cases e9 : z.num = x.num
  ·exact ⟨_, mem_modN.2 ⟨z, hz, .inl ⟨e9, rfl⟩⟩, hk⟩
  ·exact ⟨z, mem_modN.2 ⟨z, hz, .inr ⟨e9, rfl⟩⟩, hk⟩
 rw [his1] at hf1 hR hlk ⊢
 have hri1 : RiseI is1 := hf1.rise
 rw [setEnts_modN hri1 hx3 hx3n]
 have hd3 := hf1.dirs x3 hx3 hx3d
 have hf2 := hf1.modN (f := fun es => putE es nm e.num) hx3 hx3n hx3d (hd3.2.put hno3 hc (by rw [hx3e]; exact hb) he1 (hnum1 _ ⟨y, hy, hyn⟩))
 have hlk2 : ∀ m, linkI (modN is1 x2.num fun es => putE es nm e.num) m = linkI s.inos m := fun m => by
  have h1 := linkI_modN hri1 hx3 hx3n hx3d (fun es => putE es nm e.num) m
  rw [linkE_put] at h1
  have := hlk m
  omega
 have hRn : Rn (modN is1 x2.num fun es => putE es nm e.num) e.num := rnPut_new hx3 hx3n hx3d (rnPut hR)
 have hRp : ∀ {m : Int}, Rn s.inos m → Rn (modN is1 x2.num fun es => putE es nm e.num) m := fun {m} h9 => by
  induction h9 with
  | root => exact .root
  | step hrn hx0 hd0 he0 ih =>
   rename_i x0 e0
   by_cases e9 : x0.num = x.num
   ·have : x0 = x := hf.rise.one hx0 hx e9
    subst this
    by_cases e8 : e0.name = e.name
    ·rw [hre.one he0 he e8]; exact hRn
    ·obtain ⟨z, hz, hzn, hzd, hze⟩ : ∃ z ∈ modN is1 x2.num (fun es => putE es nm e.num), z.num = x0.num ∧ z.dir = true ∧ e0 ∈ z.ents := by
      have h7 : ({ x0 with ents := dropE x0.ents e.name } : Ino) ∈ is1 := by rw [← his1]; exact mem_modN.2 ⟨x0, hx0, .inl ⟨rfl, rfl⟩⟩
      have h6 : e0 ∈ dropE x0.ents e.name := (mem_dropE _ _ _).2 ⟨he0, e8⟩
      by_cases e5 : x0.num = x2.num
      ·exact ⟨_, mem_modN.2 ⟨_, h7, .inl ⟨e5, rfl⟩⟩, rfl, hd0, (mem_putE _ _ _ _).2 (.inr h6)⟩
      ·exact ⟨_, mem_modN.2 ⟨_, h7, .inr ⟨e5, rfl⟩⟩, rfl, hd0, h6⟩
     exact .step (by rw [hzn]; exact ih) hz hzd hze
   ·obtain ⟨z, hz, hzn, hzd, hze⟩ : ∃ z ∈ modN is1 x2.num (fun es => putE es nm e.num), z.num = x0.num ∧ z.dir = true ∧ e0 ∈ z.ents := by
     have h7 : x0 ∈ is1 := by rw [← his1]; exact mem_modN.2 ⟨x0, hx0, .inr ⟨e9, rfl⟩⟩
     by_cases e5 : x0.num = x2.num
     ·exact ⟨_, mem_modN.2 ⟨_, h7, .inl ⟨e5, rfl⟩⟩, rfl, hd0, (mem_putE _ _ _ _).2 (.inr he0)⟩
     ·exact ⟨_, mem_modN.2 ⟨_, h7, .inr ⟨e5, rfl⟩⟩, rfl, hd0, he0⟩
    exact .step (by rw [hzn]; exact ih) hz hzd hze
 have mem : ∀ z ∈ modN is1 x2.num (fun es => putE es nm e.num), ∃ z0 ∈ s.inos, z.num = z0.num ∧ z.dir = z0.dir := fun z hz => by
  have h1 : ∃ z1 ∈ is1, z.num = z1.num ∧ z.dir = z1.dir := by
   obtain ⟨z0, hz0, ⟨_, rfl⟩ | ⟨_, rfl⟩⟩ := mem_modN.1 hz
   ·exact ⟨z0, hz0, rfl, rfl⟩
   ·exact ⟨z, hz0, rfl, rfl⟩
  obtain ⟨z1, hz1, a1, a2⟩ := h1
  rw [← his1] at hz1
  obtain ⟨z0, hz0, ⟨_, rfl⟩ | ⟨_, rfl⟩⟩ := mem_modN.1 hz1
  ·exact ⟨z0, hz0, a1, a2⟩
  ·exact ⟨z1, hz0, a1, a2⟩
 refine hf2.good ⟨fun z hz hz1 hzd => ?_, fun z hz hzd => ?_⟩
 ·obtain ⟨z0, hz0, a1, a2⟩ := mem z hz
  rw [a2] at hzd
  obtain ⟨b1, b2⟩ := hh.one z0 hz0 (by omega) hzd
  rw [a1]
  exact ⟨by show linkI (modN is1 x2.num fun es => putE es nm e.num) z0.num = 1; rw [hlk2]; exact b1, hRp b2⟩
 ·obtain ⟨z0, hz0, a1, a2⟩ := mem z hz
  rw [a2] at hzd
  rw [a1]
  rcases hh.has z0 hz0 hzd with a | a
  ·exact .inl (hRp a)
  ·exact .inr a
theorem Good.close {s : St} (h : Good s) {core fd : Int} (hn : fdV s.opn core fd ≠ 0) : Good (sweepV { s with opn := dropD s.opn core fd } (fdV s.opn core fd)) := by
 obtain ⟨hf, hh⟩ := h.frm
 obtain ⟨d, hd, hdc, hdf, hdn⟩ := fdV_mem2 _ _ _ hn
 obtain ⟨_, _, _, _, y, hy, hyn, hyd⟩ := hf.opn d hd
 rw [← hdn]
 have hon : ∀ z ∈ s.inos, z.num = d.num → z = y := fun z hz hzn => hf.rise.one hz hy (by omega)
 have hy1 : d.num ≠ 1 := fun h1 => by
  obtain ⟨r, hr, hrn, hrd⟩ := hf.root
  have : r = y := hon r hr (by omega)
  rw [this, hyd] at hrd
  cases hrd
 refine sweep_good (hf.dropD core fd) hy1 ?_ ?_ ?_ ?_
 ·intro z hz hzn
  rw [hon z hz hzn]
  exact (hf.files y hy hyd).1
 ·intro z hz hzn hzd
  rw [hon z hz hzn, hyd] at hzd
  cases hzd
 ·intro z hz hz1 hzd _
  exact hh.one z hz hz1 hzd
 ·intro z hz hzd hzn
  rcases hh.has z hz hzd with a | a
  ·exact .inl a
  ·obtain ⟨d2, hd2, hd2n⟩ := (openB_iff _ _).1 a
   refine .inr ((openB_iff _ _).2 ⟨d2, (mem_dropD _ _ _ _).2 ⟨hd2, fun hcf => ?_⟩, hd2n⟩)
   have : d2 = d := hf.riseD.one hd2 hd (by omega) (by omega)
   rw [this] at hd2n
   exact hzn hd2n.symm
theorem Good.opened {s : St} (h : Good s) {core fd n : Int} {y : Ino} (hc : 0 ≤ core ∧ core < (s.made.length : Int)) (hfd : 0 ≤ fd ∧ fd < 4) (hno : fdV s.opn core fd = 0) (hy : y ∈ s.inos) (hyn : y.num = n) (hyd : y.dir = false) : Good { s with opn := putD s.opn ⟨core, fd, n⟩ } := by
 obtain ⟨hf, hh⟩ := h.frm
 have hnz : ∀ d ∈ s.opn, d.num ≠ 0 := fun d hd => by
  obtain ⟨_, _, _, _, w, hw, hwn, _⟩ := hf.opn d hd
  by_cases h1 : w.num = 1
  ·omega
  ·have := given_pos (hf.given w hw h1); omega
 refine (hf.putD (d := ⟨core, fd, n⟩) (fun x hx hcf => fdV_has _ _ _ hnz ⟨x, hx, hcf⟩ hno) ⟨hc.1, hc.2, hfd.1, hfd.2, y, hy, hyn, hyd⟩).good ⟨hh.one, fun z hz hzd => ?_⟩
 rcases hh.has z hz hzd with a | a
 ·exact .inl a
 ·obtain ⟨d, hd, hdn⟩ := (openB_iff _ _).1 a
  exact .inr ((openB_iff _ _).2 ⟨d, (mem_putD _ _ _).2 (.inr hd), hdn⟩)
theorem linkI_data : ∀ (is : List Ino) (g : Ino → Ino) (m : Int), (∀ x, (g x).dir = x.dir ∧ (g x).ents = x.ents) → linkI (is.map g) m = linkI is m
 | [], _, _, _ => rfl
 | x :: xs, g, m, h => by
  rw [List.map_cons]
  unfold linkI
  rw [(h x).1, (h x).2, linkI_data xs g m h]
theorem Good.data {s : St} (h : Good s) {y : Ino} {n : Int} (hy : y ∈ s.inos) (hyn : y.num = n) (hyd : y.dir = false) {d : ByteArray} (hd : d.size ≤ 256) : Good { s with inos := setData s.inos n d } := by
 obtain ⟨hf, hh⟩ := h.frm
 obtain ⟨g, hg⟩ : ∃ g : Ino → Ino, (fun x => if x.num = n then { x with data := d } else x) = g := ⟨_, rfl⟩
 have g1 : ∀ x, (g x).num = x.num ∧ (g x).dir = x.dir ∧ (g x).ents = x.ents := fun x => by rw [← hg]; simp only; split <;> exact ⟨rfl, rfl, rfl⟩
 have g2 : ∀ x, x.num ≠ n → g x = x := fun x hx => by rw [← hg]; simp only; rw [if_neg hx]
 have g3 : ∀ x, x.num = n → (g x).data = d := fun x hx => by rw [← hg]; simp only; rw [if_pos hx]
 have hset : setData s.inos n d = s.inos.map g := by
  obtain ⟨i, hi⟩ := List.getElem?_of_mem hy
  unfold setData
  rw [atV_of_rise hf.rise hi hyn, Int.toNat_natCast, modify_set _ _ _ _ hi]
  apply List.ext_getElem?
  intro j
  rw [List.getElem?_set, List.getElem?_map]
  have hl := (List.getElem?_eq_some_iff.1 hi).1
  by_cases e : i = j
  ·subst e
   rw [if_pos rfl, if_pos hl, hi, ← hg]
   simp [hyn]
  ·rw [if_neg e]
   cases hj : s.inos[j]? with
   | none => rfl
   | some z =>
    have hne : z.num ≠ n := fun h9 => by
     have h1 := atV_of_rise hf.rise hj h9
     have h2 := atV_of_rise hf.rise hi hyn
     omega
    simp [g2 z hne]
 rw [hset]
 have num : ∀ k : Int, (∃ z ∈ s.inos, z.num = k) → ∃ z ∈ s.inos.map g, z.num = k := fun k ⟨z, hz, hk⟩ => ⟨g z, List.mem_map_of_mem hz, by rw [(g1 z).1]; exact hk⟩
 have hrn : ∀ {m : Int}, Rn s.inos m → Rn (s.inos.map g) m := fun {m} h9 => h9.mono fun x hx hxd => ⟨g x, List.mem_map_of_mem hx, (g1 x).1, by rw [(g1 x).2.1]; exact hxd, fun e he => by rw [(g1 x).2.2]; exact he⟩
 have hfr : Frm { s with inos := s.inos.map g } := by
  refine ⟨hf.m1, hf.m8, hf.mr, ?_, ?_, ?_, ?_, ?_, ?_, hf.riseD⟩
  ·intro i j a b hij ha hb
   have ha2 : (s.inos.map g)[i]? = some a := ha
   have hb2 : (s.inos.map g)[j]? = some b := hb
   rw [List.getElem?_map] at ha2 hb2
   obtain ⟨a0, ha0, rfl⟩ := Option.map_eq_some_iff.1 ha2
   obtain ⟨b0, hb0, rfl⟩ := Option.map_eq_some_iff.1 hb2
   rw [(g1 a0).1, (g1 b0).1]
   exact hf.rise i j a0 b0 hij ha0 hb0
  ·obtain ⟨r, hr, h1, h2⟩ := hf.root
   exact ⟨g r, List.mem_map_of_mem hr, by rw [(g1 r).1]; exact h1, by rw [(g1 r).2.1]; exact h2⟩
  ·intro z hz hn1
   obtain ⟨z0, hz0, rfl⟩ := List.mem_map.1 hz
   rw [(g1 z0).1] at hn1 ⊢
   exact hf.given z0 hz0 hn1
  ·intro z hz hzd
   obtain ⟨z0, hz0, rfl⟩ := List.mem_map.1 hz
   rw [(g1 z0).2.1] at hzd
   have hne : z0.num ≠ n := fun h9 => by
    have : z0 = y := hf.rise.one hz0 hy (by omega)
    rw [this, hyd] at hzd
    cases hzd
   rw [g2 z0 hne]
   exact ⟨(hf.dirs z0 hz0 hzd).1, (hf.dirs z0 hz0 hzd).2.to fun e _ => num _⟩
  ·intro z hz hzd
   obtain ⟨z0, hz0, rfl⟩ := List.mem_map.1 hz
   rw [(g1 z0).2.1] at hzd
   rw [(g1 z0).2.2]
   by_cases e : z0.num = n
   ·rw [g3 z0 e]; exact ⟨(hf.files z0 hz0 hzd).1, hd⟩
   ·rw [g2 z0 e]; exact hf.files z0 hz0 hzd
  ·intro dd hdd
   obtain ⟨a1, a2, a3, a4, w, hw, h1, h2⟩ := hf.opn dd hdd
   exact ⟨a1, a2, a3, a4, g w, List.mem_map_of_mem hw, by rw [(g1 w).1]; exact h1, by rw [(g1 w).2.1]; exact h2⟩
 refine hfr.good ⟨fun z hz hz1 hzd => ?_, fun z hz hzd => ?_⟩
 ·obtain ⟨z0, hz0, rfl⟩ := List.mem_map.1 hz
  rw [(g1 z0).1] at hz1 ⊢
  rw [(g1 z0).2.1] at hzd
  obtain ⟨a1, a2⟩ := hh.one z0 hz0 hz1 hzd
  exact ⟨by rw [← a1]; exact linkI_data _ _ _ (fun x => (g1 x).2), hrn a2⟩
 ·obtain ⟨z0, hz0, rfl⟩ := List.mem_map.1 hz
  rw [(g1 z0).1]
  rw [(g1 z0).2.1] at hzd
  rcases hh.has z0 hz0 hzd with a | a
  ·exact .inl (hrn a)
  ·exact .inr a
theorem Good.make1 {s : St} (h : Good s) (c : Ca) (hc0 : 0 ≤ c.core) (hc1 : c.core < (s.made.length : Int)) : Good (make1V s c).1 := by
 unfold make1V
 split
 ·exact h
 ·rename_i h1
  split
  ·exact h
  ·rename_i h2
   split
   ·exact h
   ·rename_i h3
    have hok : (parentV s.inos c.path).2.2 = 0 := by omega
    obtain ⟨_, _, _, hdd, hpe⟩ := parentV_ok hok
    have hcn := parentV_name s.inos c.path hok
    rw [← hpe] at hdd
    obtain ⟨x, hx, hxn, hxd⟩ := dirAt_mem hdd
    have hno := (entV_mem h hx hxn _).1 (Classical.not_not.1 h2)
    have hfull : fullE x.ents (parentV s.inos c.path).2.1 (txt []) < 4 := fullV_mem h hx hxn fun h9 => h3 (.inl h9)
    rw [bktE_none _ _ _ (noname h hx)] at hfull
    have hg := h.make (core := c.core.toNat) (decide (c.kind = 1)) hx hxd hno hcn hfull (by omega) (by omega)
    rw [hxn, show ((c.core.toNat : Nat) : Int) = c.core by omega] at hg
    exact hg
theorem freeFd_free (ds : List Ds) (core : Int) (h : freeFd ds core ≠ 4) : fdV ds core (freeFd ds core : Int) = 0 ∧ freeFd ds core < 4 := by
 unfold freeFd at h ⊢
 by_cases h0 : fdV ds core 0 = 0
 ·rw [if_pos h0]; exact ⟨h0, by omega⟩
 ·rw [if_neg h0] at h ⊢
  by_cases h1 : fdV ds core 1 = 0
  ·rw [if_pos h1]; exact ⟨h1, by omega⟩
  ·rw [if_neg h1] at h ⊢
   by_cases h2 : fdV ds core 2 = 0
   ·rw [if_pos h2]; exact ⟨h2, by omega⟩
   ·rw [if_neg h2] at h ⊢
    by_cases h3 : fdV ds core 3 = 0
    ·rw [if_pos h3]; exact ⟨h3, by omega⟩
    ·rw [if_neg h3] at h
     exact absurd rfl h
theorem find_file {s : St} (h : Good s) {path : ByteArray} (h1 : ¬ (findV s.inos path).2 ≠ 0) (h2 : ¬ dirAt s.inos (findV s.inos path).1 = true) : ∃ y ∈ s.inos, y.num = (findV s.inos path).1 ∧ y.dir = false :=
 notdir_mem (by simpa using h2) (findV_at h.whole path (by omega))
theorem Good.openV {s : St} (h : Good s) (c : Ca) (want : Int) (hc0 : 0 ≤ c.core) (hc1 : c.core < (s.made.length : Int)) : Good (openedV s c want).1 := by
 unfold openedV
 split
 ·exact h
 ·rename_i h1
  split
  ·exact h
  ·rename_i h2
   obtain ⟨y, hy, hyn, hyd⟩ := find_file h h1 h2
   split
   ·exact h
   ·rename_i h3
    split
    ·rename_i h4
     split
     ·exact h
     ·rename_i h5
      exact h.opened ⟨hc0, hc1⟩ ⟨h4, by omega⟩ (by omega) hy hyn hyd
    ·obtain ⟨h5, h6⟩ := freeFd_free _ _ h3
     exact h.opened ⟨hc0, hc1⟩ ⟨by omega, by omega⟩ h5 hy hyn hyd
theorem Good.byFd {s : St} (h : Good s) (c : Ca) : Good (byFdV s c).1 := by
 unfold byFdV
 split
 ·exact h
 ·rename_i h1
  obtain ⟨d, hd, _, _, hdn⟩ := fdV_mem2 _ _ _ h1
  obtain ⟨_, _, _, _, y, hy, hyn, hyd⟩ := h.frm.1.opn d hd
  rw [hdn] at hyn
  split
  ·exact h.close h1
  ·split
   ·split <;> exact h
   ·split
    ·split
     ·exact h
     ·rename_i h5
      split
      ·exact h
      ·split
       ·exact h
       ·refine h.data hy hyn hyd ?_
        have hat : 0 ≤ atV s.inos (fdV s.opn c.core c.fd) := atV_ge.2 ⟨y, hy, hyn⟩
        have hdat : (dataAt s.inos (fdV s.opn c.core c.fd)).size ≤ 256 := by
         obtain ⟨i, hi⟩ := List.getElem?_of_mem hy
         unfold dataAt
         rw [atV_of_rise h.riseI hi hyn, inoAt_nat, hi]
         exact (h.files y hy hyd).2
        rw [txt_size, layL_len]
        have e1 : ∀ b : ByteArray, b.data.toList.length = b.size := fun b => Array.length_toList
        rw [e1, e1]
        omega
    ·split
     ·split
      ·exact h
      ·refine h.data hy hyn hyd ?_
       rw [txt_size]
       unfold sizedL
       rw [List.length_take]
       omega
     ·split <;> exact h
theorem Good.linkV {s : St} (h : Good s) (c : Ca) : Good (linkV s c).1 := by
 unfold Go.Proofs.YtilkhmhgjbhfnaaGreatDoor.linkV
 split
 ·exact h
 ·rename_i h1
  split
  ·exact h
  ·rename_i h2
   obtain ⟨y, hy, hyn, hyd⟩ := find_file h h1 h2
   split
   ·exact h
   ·rename_i h3
    split
    ·exact h
    ·rename_i h4
     split
     ·exact h
     ·rename_i h5
      have hok : (parentV s.inos c.path2).2.2 = 0 := by omega
      obtain ⟨_, _, _, hdd, hpe⟩ := parentV_ok hok
      have hcn := parentV_name s.inos c.path2 hok
      rw [← hpe] at hdd
      obtain ⟨x, hx, hxn, hxd⟩ := dirAt_mem hdd
      have hno := (entV_mem h hx hxn _).1 (Classical.not_not.1 h4)
      have hfull : fullE x.ents (parentV s.inos c.path2).2.1 (txt []) < 4 := fullV_mem h hx hxn h5
      rw [bktE_none _ _ _ (noname h hx)] at hfull
      have hg := h.put hx hxd hno hcn hfull hy hyd
      rw [hxn, hyn] at hg
      exact hg
theorem Good.namesV {s : St} (h : Good s) (c : Ca) (hk : 8 ≤ c.kind ∧ c.kind ≤ 11) : Good (namesV s c).1 := by
 unfold Go.Proofs.YtilkhmhgjbhfnaaGreatDoor.namesV
 split
 ·exact h.linkV c
 ·rename_i hk8
  split
  ·exact h
  ·rename_i h1
   split
   ·exact h
   ·rename_i h2
    have hok : (parentV s.inos c.path).2.2 = 0 := by omega
    obtain ⟨_, _, _, hdd, hpe⟩ := parentV_ok hok
    rw [← hpe] at hdd
    obtain ⟨x, hx, hxn, hxd⟩ := dirAt_mem hdd
    obtain ⟨e, he, hen, henn⟩ := (entV_mem h hx hxn _).2 h2
    obtain ⟨y, hy, hyn⟩ := ((h.frm.1.dirs x hx hxd).2.each e he).2.2
    split
    ·rename_i h3
     unfold renameV
     split
     ·exact h
     ·rename_i h4
      split
      ·exact h
      ·rename_i h5
       split
       ·exact h
       ·rename_i h6
        obtain ⟨but, hbut⟩ : ∃ but, (if (parentV s.inos c.path2).1 = (parentV s.inos c.path).1 then (parentV s.inos c.path).2.1 else txt []) = but := ⟨_, rfl⟩
        rw [hbut]
        split
        ·exact h
        ·rename_i h7
         have hok2 : (parentV s.inos c.path2).2.2 = 0 := by omega
         obtain ⟨hpo, hpne, hpw, hdd2, hpe2⟩ := parentV_ok hok2
         have hcn := parentV_name s.inos c.path2 hok2
         have hthr := through_within h hpw hpne hdd2 e.num
         obtain ⟨NS, hNS⟩ : ∃ NS, (parseL c.path2.data.toList).1 = NS := ⟨_, rfl⟩
         rw [hNS] at hpne hpw hdd2 hpe2 hthr
         rw [← hpe2] at hdd2 hthr
         obtain ⟨x2, hx2, hx2n, hx2d⟩ := dirAt_mem hdd2
         have hno := (entV_mem h hx2 hx2n _).1 (Classical.not_not.1 h6)
         have hfull := fullV_mem h hx2 hx2n h7
         rw [← hbut] at hfull
         have hre := (h.frm.1.dirs x hx hxd).2.rise
         rw [← henn, ← hthr] at h5
         have hR : Rn (modN s.inos x.num fun es => dropE es e.name) x2.num := by
          cases hyd : y.dir
          ·refine rnDrop h.riseI hx rfl hre he rfl (fun z hz hzn => ?_) (h.frm.2.dir hx2 hx2d) (fun h9 => ?_)
           ·have : z = y := h.riseI.one hz hy (by omega)
            rw [this]
            exact (h.files y hy hyd).1
           ·have : x2 = y := h.riseI.one hx2 hy (by omega)
            rw [this, hyd] at hx2d
            cases hx2d
          ·have hdy : dirAt s.inos e.num = true := by
            obtain ⟨i, hi⟩ := List.getElem?_of_mem hy
            unfold dirAt
            rw [atV_of_rise h.riseI hi hyn, inoAt_nat, hi]
            exact hyd
           have hthf : throughV s.inos NS e.num = false := by
            cases ht : throughV s.inos NS e.num
            ·rfl
            ·exact absurd ⟨hdy, ht⟩ h5
           have hstep : ∀ r, r < NS.length → stepP s.inos NS r ≠ e.num := fun r hr h9 => by
            unfold throughV at hthf
            rw [List.any_eq_false] at hthf
            exact hthf r (List.mem_range.2 hr) (by rw [h9]; exact beq_self_eq_true _)
           have hlen : 0 < NS.length := List.length_pos_iff.2 hpne
           have key : ∀ r, r ≤ NS.length - 1 → Rn (modN s.inos x.num fun es => dropE es e.name) (stepP s.inos NS r) := by
            intro r
            induction r with
            | zero => intro _; exact .root
            | succ r ih =>
             intro hr
             obtain ⟨i, x0, e0, hx0, hx0n, hx0d, he0, he0n⟩ := step_next h hpw hr
             have ih := ih (by omega)
             have hx0m := List.mem_of_getElem? hx0
             rw [← he0n]
             by_cases e9 : x0.num = x.num
             ·have : x0 = x := h.riseI.one hx0m hx e9
              subst this
              have hnn : e0.name ≠ e.name := fun h9 => by
               have h8 := hstep (r + 1) (by omega)
               rw [← he0n, hre.one he0 he h9] at h8
               exact h8 rfl
              exact Rn.step (x := { x0 with ents := dropE x0.ents e.name }) (by rw [← hx0n] at ih; exact ih) (mem_modN.2 ⟨x0, hx0m, .inl ⟨rfl, rfl⟩⟩) hx0d ((mem_dropE _ _ _).2 ⟨he0, hnn⟩)
             ·exact Rn.step (by rw [← hx0n] at ih; exact ih) (mem_modN.2 ⟨x0, hx0m, .inr ⟨e9, rfl⟩⟩) hx0d he0
           have h9 := key (NS.length - 1) (Nat.le_refl _)
           rw [hx2n, hpe2]
           have : NS.dropLast = NS.take (NS.length - 1) := List.dropLast_eq_take
           rw [this]
           exact h9
         have hb : bktE (if x2.num = x.num then dropE x2.ents e.name else x2.ents) (bktB (parentV s.inos c.path2).2.1) < 4 := by
          by_cases e9 : x2.num = x.num
          ·rw [if_pos e9, ← fullE_drop]
           rw [if_pos (by omega), ← hen] at hfull
           exact hfull
          ·rw [if_neg e9]
           rw [if_neg (by omega), bktE_none _ _ _ (noname h hx2)] at hfull
           exact hfull
         have hg := h.move hx hxd he hx2 hx2d hno hcn hb hy hyn hR
         rw [hxn, hx2n, hen, henn] at hg
         exact hg
    ·rename_i h3
     have hk910 : c.kind = 9 ∨ c.kind = 10 := by omega
     split
     ·exact h
     ·rename_i h4
      split
      ·exact h
      ·rename_i h5
       split
       ·exact h
       ·rename_i h6
        have hye : y.ents = [] := by
         rcases hk910 with hk9 | hk9
         ·refine (h.files y hy ?_).1
          cases hyd : y.dir
          ·rfl
          ·exfalso
           refine h4 ⟨hk9, ?_⟩
           obtain ⟨i, hi⟩ := List.getElem?_of_mem hy
           unfold dirAt
           rw [← henn, atV_of_rise h.riseI hi hyn, inoAt_nat, hi]
           exact hyd
         ·refine Classical.byContradiction fun h9 => h6 ⟨hk9, fun h8 => h9 ?_⟩
          obtain ⟨i, hi⟩ := List.getElem?_of_mem hy
          unfold entsOf at h8
          rw [← henn, atV_of_rise h.riseI hi hyn, inoAt_nat, hi] at h8
          exact h8
        have hg := h.less hx hxd he hy hyn hye
        rw [hxn, hen, henn] at hg
        exact hg
theorem Good.doF {s : St} (h : Good s) (c : Ca) (want : Int) : Good (doF s c want).1 := by
 unfold Go.Proofs.YtilkhmhgjbhfnaaGreatDoor.doF
 split
 ·exact h
 ·rename_i h0
  have h0 := not_or.1 h0
  have h1 := not_or.1 h0.2
  have h2 := not_or.1 h1.2
  have h3 := not_or.1 h2.2
  split
  ·exact h.make1 c (by omega) (by omega)
  ·split
   ·exact h.openV c want (by omega) (by omega)
   ·split
    ·exact h.byFd c
    ·split
     ·exact h.namesV c (by omega)
     ·split <;> exact h
end Go.Proofs.YtilkhmhgjbhfnaaGreatDoor
