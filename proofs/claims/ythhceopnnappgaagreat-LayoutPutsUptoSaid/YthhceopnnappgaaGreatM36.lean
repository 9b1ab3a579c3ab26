/- Parts of the proof, side by side: GdDo, BareP. -/
import Derived.Test.YthhceopnnappgaaGreatGdOps
import Derived.Test.YthhceopnnappgaaGreatM20
set_option linter.unusedVariables false
set_option linter.unusedSimpArgs false
namespace Go.Proofs.YthhceopnnappgaaGreat
theorem modN_old {is : List Ino} {n : Int} {f : List En → List En} {z : Ino} (hz : z ∈ modN is n f) : ∃ z0 ∈ is, z.num = z0.num ∧ z.dir = z0.dir := by
 obtain ⟨z0, hz0, ⟨_, rfl⟩ | ⟨_, rfl⟩⟩ := mem_modN.1 hz
 ·exact ⟨z0, hz0, rfl, rfl⟩
 ·exact ⟨z, hz0, rfl, rfl⟩
theorem openB_iff : ∀ (ds : List Ds) (n : Int), openB ds n = true ↔ ∃ d ∈ ds, d.num = n
 | [], n => by simp [openB]
 | d :: ds, n => by
  unfold openB
  by_cases h : d.num = n
  ·rw [if_pos h]; simp [h]
  ·rw [if_neg h, openB_iff ds n]; simp [h]
theorem RiseD.one {ds : List Ds} (h : RiseD ds) {x y : Ds} (hx : x ∈ ds) (hy : y ∈ ds) (hc : x.core = y.core) (hf : x.fd = y.fd) : x = y := by
 obtain ⟨i, hi⟩ := List.getElem?_of_mem hx
 obtain ⟨j, hj⟩ := List.getElem?_of_mem hy
 rcases Nat.lt_trichotomy i j with h1 | h1 | h1
 ·have := h i j x y h1 hi hj; unfold ltD at this; omega
 ·subst h1
  rw [hi] at hj
  exact Option.some.inj hj
 ·have := h j i y x h1 hj hi; unfold ltD at this; omega
theorem RiseE.one {es : List En} (h : RiseE es) {x y : En} (hx : x ∈ es) (hy : y ∈ es) (hn : x.name = y.name) : x = y := by
 obtain ⟨i, hi⟩ := List.getElem?_of_mem hx
 obtain ⟨j, hj⟩ := List.getElem?_of_mem hy
 rcases Nat.lt_trichotomy i j with h1 | h1 | h1
 ·have := h i j x y h1 hi hj; rw [hn, ltN_irrefl] at this; cases this
 ·subst h1
  rw [hi] at hj
  exact Option.some.inj hj
 ·have := h j i y x h1 hj hi; rw [hn, ltN_irrefl] at this; cases this
theorem rnPut {is : List Ino} {n : Int} {nm : ByteArray} {num m : Int} (h : Rn is m) : Rn (modN is n fun es => putE es nm num) m :=
 h.mono fun x hx hd => by
  by_cases e : x.num = n
  ·exact ⟨_, mem_modN.2 ⟨x, hx, .inl ⟨e, rfl⟩⟩, rfl, hd, fun e he => (mem_putE _ _ _ _).2 (.inr he)⟩
  ·exact ⟨x, mem_modN.2 ⟨x, hx, .inr ⟨e, rfl⟩⟩, rfl, hd, fun e he => he⟩
theorem rnDrop {is : List Ino} (hr : RiseI is) {x : Ino} {e : En} {n : Int} {nm : ByteArray} (hx : x ∈ is) (hn : x.num = n) (hre : RiseE x.ents) (he : e ∈ x.ents) (hen : e.name = nm) (hy : ∀ z ∈ is, z.num = e.num → z.ents = []) {m : Int} (h : Rn is m) : m ≠ e.num → Rn (modN is n fun es => dropE es nm) m := by
 induction h with
 | root => intro _; exact .root
 | step hrn hx0 hd0 he0 ih =>
  rename_i x0 e0
  intro hne
  have hx0n : x0.num ≠ e.num := fun h9 => by
   rw [hy x0 hx0 h9] at he0
   simp at he0
  have ih := ih hx0n
  by_cases e1 : x0.num = n
  ·have : x0 = x := hr.one hx0 hx (by omega)
   subst this
   have hnn : e0.name ≠ nm := fun h9 => hne (by rw [hre.one he0 he (by rw [h9, hen])])
   exact Rn.step (x := { x0 with ents := dropE x0.ents nm }) ih (mem_modN.2 ⟨x0, hx0, .inl ⟨hn, rfl⟩⟩) hd0 ((mem_dropE _ _ _).2 ⟨he0, hnn⟩)
  ·exact Rn.step ih (mem_modN.2 ⟨x0, hx0, .inr ⟨e1, rfl⟩⟩) hd0 he0
theorem rnDropI {is : List Ino} {n : Int} (hy : ∀ z ∈ is, z.num = n → z.ents = []) {m : Int} (h : Rn is m) : m ≠ n → Rn (dropI is n) m := by
 induction h with
 | root => intro _; exact .root
 | step hrn hx0 hd0 he0 ih =>
  rename_i x0 e0
  intro hne
  have hx0n : x0.num ≠ n := fun h9 => by
   rw [hy x0 hx0 h9] at he0
   simp at he0
  exact Rn.step (ih hx0n) ((mem_dropI _ _ _).2 ⟨hx0, hx0n⟩) hd0 he0
theorem sweep_good {s : St} (h : Frm s) {n : Int} (h1 : n ≠ 1) (hy : ∀ z ∈ s.inos, z.num = n → z.ents = []) (hd : ∀ z ∈ s.inos, z.num = n → z.dir = true → linkI s.inos n = 0 ∧ openB s.opn n = false)
  (ho : ∀ z ∈ s.inos, z.num ≠ 1 → z.dir = true → z.num ≠ n → linkI s.inos z.num = 1 ∧ Rn s.inos z.num) (hf : ∀ z ∈ s.inos, z.dir = false → z.num ≠ n → Rn s.inos z.num ∨ openB s.opn z.num = true) : Good (sweepV s n) := by
 unfold sweepV
 by_cases hc : 0 < linkI s.inos n ∨ openB s.opn n = true
 ·rw [if_pos hc]
  have hnd : ∀ z ∈ s.inos, z.num = n → z.dir = true → False := fun z hz hn hzd => by
   obtain ⟨a1, a2⟩ := hd z hz hn hzd
   rcases hc with hc | hc
   ·omega
   ·rw [a2] at hc; cases hc
  refine h.good ⟨fun z hz hz1 hzd => ho z hz hz1 hzd (fun h9 => hnd z hz h9 hzd), fun z hz hzd => ?_⟩
  by_cases e : z.num = n
  ·rcases hc with hc | hc
   ·have hpos : ¬ linkI s.inos n = 0 := by omega
    rw [linkI_zero] at hpos
    simp only [Classical.not_forall, Classical.not_not] at hpos
    obtain ⟨x, hx, hxd, e', he', hen⟩ := hpos
    left
    have hxn : x.num ≠ n := fun h9 => by
     rw [hy x hx h9] at he'
     simp at he'
    have hxr : Rn s.inos x.num := by
     by_cases h2 : x.num = 1
     ·rw [h2]; exact .root
     ·exact (ho x hx h2 hxd hxn).2
    rw [e, ← hen]
    exact .step hxr hx hxd he'
   ·exact .inr (by rw [e]; exact hc)
  ·exact hf z hz hzd e
 ·rw [if_neg hc]
  have hl : linkI s.inos n = 0 := by omega
  have hop : ∀ d ∈ s.opn, d.num ≠ n := fun d hdm h9 => hc (.inr ((openB_iff _ _).2 ⟨d, hdm, h9⟩))
  refine (h.dropI h1 hl hop).good ⟨fun z hz hz1 hzd => ?_, fun z hz hzd => ?_⟩
  ·obtain ⟨hz2, hzn⟩ := (mem_dropI _ _ _).1 hz
   obtain ⟨a1, a2⟩ := ho z hz2 hz1 hzd hzn
   exact ⟨by rw [← a1]; exact linkI_drop' _ _ _ hy, rnDropI hy a2 hzn⟩
  ·obtain ⟨hz2, hzn⟩ := (mem_dropI _ _ _).1 hz
   rcases hf z hz2 hzd hzn with a | a
   ·exact .inl (rnDropI hy a hzn)
   ·exact .inr a
theorem Good.put {s : St} (h : Good s) {x y : Ino} {nm : ByteArray} (hx : x ∈ s.inos) (hd : x.dir = true) (hno : ∀ e ∈ x.ents, e.name ≠ nm) (hc : chkB nm = 0) (hb : bktE x.ents (bktB nm) < 4) (hy : y ∈ s.inos) (hyd : y.dir = false) :
  Good { s with inos := setEnts s.inos x.num fun es => putE es nm y.num } := by
 obtain ⟨hf, hh⟩ := h.frm
 have hy1 : y.num ≠ 1 := fun h1 => by
  obtain ⟨r, hr, hrn, hrd⟩ := hf.root
  have : r = y := hf.rise.one hr hy (by omega)
  rw [this, hyd] at hrd
  cases hrd
 rw [setEnts_modN hf.rise hx rfl]
 have hlk := linkI_modN hf.rise hx rfl hd (fun es => putE es nm y.num)
 have hRx := hh.dir hx hd
 refine (hf.modN (f := fun es => putE es nm y.num) hx rfl hd ((hf.dirs x hx hd).2.put hno hc hb hy1 ⟨y, hy, rfl⟩)).good ⟨fun z hz hz1 hzd => ?_, fun z hz hzd => ?_⟩
 ·obtain ⟨z0, hz0, hzn, hzdd⟩ := modN_old (is := s.inos) (n := x.num) (f := fun es => putE es nm y.num) hz
  rw [hzdd] at hzd
  obtain ⟨a1, a2⟩ := hh.one z0 hz0 (by omega) hzd
  have hne : y.num ≠ z0.num := fun h9 => by
   have : y = z0 := hf.rise.one hy hz0 h9
   rw [← this, hyd] at hzd
   cases hzd
  have := hlk z0.num
  rw [linkE_put, if_neg hne] at this
  rw [hzn]
  exact ⟨by show linkI (modN s.inos x.num fun es => putE es nm y.num) z0.num = 1; omega, rnPut a2⟩
 ·obtain ⟨z0, hz0, hzn, hzdd⟩ := modN_old (is := s.inos) (n := x.num) (f := fun es => putE es nm y.num) hz
  rw [hzdd] at hzd
  rw [hzn]
  rcases hh.has z0 hz0 hzd with a | a
  ·exact .inl (rnPut a)
  ·exact .inr a
theorem Good.less {s : St} (h : Good s) {x y : Ino} {e : En} (hx : x ∈ s.inos) (hd : x.dir = true) (he : e ∈ x.ents) (hy : y ∈ s.inos) (hyn : y.num = e.num) (hye : y.ents = []) :
  Good (sweepV { s with inos := setEnts s.inos x.num fun es => dropE es e.name } e.num) := by
 obtain ⟨hf, hh⟩ := h.frm
 have hre := (hf.dirs x hx hd).2.rise
 have he1 := ((hf.dirs x hx hd).2.each e he).2.1
 have hone : ∀ z ∈ s.inos, z.num = e.num → z.ents = [] := fun z hz hn => by
  have : z = y := hf.rise.one hz hy (by omega)
  rw [this]; exact hye
 have hlk : ∀ m, linkI (modN s.inos x.num fun es => dropE es e.name) m + (if e.num = m then 1 else 0) = linkI s.inos m := fun m => by
  have h1 := linkI_modN hf.rise hx rfl hd (fun es => dropE es e.name) m
  have h2 := linkE_dropE hre he rfl m
  omega
 have mem : ∀ z ∈ modN s.inos x.num (fun es => dropE es e.name), ∃ z0 ∈ s.inos, z.num = z0.num ∧ z.dir = z0.dir ∧ ∀ a ∈ z.ents, a ∈ z0.ents := fun z hz => by
  obtain ⟨z0, hz0, ⟨_, rfl⟩ | ⟨_, rfl⟩⟩ := mem_modN.1 hz
  ·exact ⟨z0, hz0, rfl, rfl, fun a ha => ((mem_dropE _ _ _).1 ha).1⟩
  ·exact ⟨z, hz0, rfl, rfl, fun a ha => ha⟩
 rw [setEnts_modN hf.rise hx rfl]
 refine sweep_good (hf.modN (f := fun es => dropE es e.name) hx rfl hd ((hf.dirs x hx hd).2.drop e.name)) he1 ?_ ?_ ?_ ?_
 ·intro z hz hn
  obtain ⟨z0, hz0, h1, h2, h3⟩ := mem z hz
  have := hone z0 hz0 (by omega)
  rw [this] at h3
  exact List.eq_nil_iff_forall_not_mem.2 fun a ha => by have := h3 a ha; simp at this
 ·intro z hz hn hzd
  obtain ⟨z0, hz0, h1, h2, h3⟩ := mem z hz
  have hy0 : z0 = y := hf.rise.one hz0 hy (by omega)
  subst hy0
  rw [h2] at hzd
  have h4 := (hh.one z0 hz0 (by omega) hzd).1
  have h5 := hlk e.num
  rw [if_pos rfl] at h5
  rw [hyn] at h4
  refine ⟨by show linkI (modN s.inos x.num fun es => dropE es e.name) e.num = 0; omega, ?_⟩
  cases hob : openB s.opn e.num
  ·rfl
  ·obtain ⟨d, hdm, hdn⟩ := (openB_iff _ _).1 hob
   obtain ⟨_, _, _, _, w, hw, hwn, hwd⟩ := hf.opn d hdm
   have : w = z0 := hf.rise.one hw hz0 (by omega)
   rw [this, hzd] at hwd
   cases hwd
 ·intro z hz hz1 hzd hzn
  obtain ⟨z0, hz0, h1, h2, h3⟩ := mem z hz
  rw [h2] at hzd
  obtain ⟨a1, a2⟩ := hh.one z0 hz0 (by omega) hzd
  have h5 := hlk z0.num
  rw [if_neg (by omega)] at h5
  rw [h1]
  exact ⟨by show linkI (modN s.inos x.num fun es => dropE es e.name) z0.num = 1; omega, rnDrop hf.rise hx rfl hre he rfl hone a2 (by omega)⟩
 ·intro z hz hzd hzn
  obtain ⟨z0, hz0, h1, h2, h3⟩ := mem z hz
  rw [h2] at hzd
  rw [h1]
  rcases hh.has z0 hz0 hzd with a | a
  ·exact .inl (rnDrop hf.rise hx rfl hre he rfl hone a (by omega))
  ·exact .inr a
theorem linkI_data : ∀ (is : List Ino) (g : Ino → Ino) (m : Int), (∀ x, (g x).dir = x.dir ∧ (g x).ents = x.ents) → linkI (is.map g) m = linkI is m
 | [], _, _, _ => rfl
 | x :: xs, g, m, h => by
  rw [List.map_cons]
  unfold linkI
  rw [(h x).1, (h x).2, linkI_data xs g m h]
theorem Good.data {s : St} (h : Good s) {y : Ino} {n : Int} (hy : y ∈ s.inos) (hyn : y.num = n) (hyd : y.dir = false) {d : ByteArray} (hd : d.size ≤ 256) : Good { s with inos := setData s.inos n d } := by
 obtain ⟨hf, hh⟩ := h.frm
 obtain ⟨g, hg⟩ : ∃ g : Ino → Ino, (fun x => if x.num = n then { x with data := d } else x) = g := ⟨_, rfl⟩
 have g1 : ∀ x, (g x).num = x.num ∧ (g x).dir = x.dir ∧ (g x).ents = x.ents := fun x => by rw [← hg]; simp only; split <;> exact ⟨rfl, rfl, rfl⟩
 have g2 : ∀ x, x.num ≠ n → g x = x := fun x hx => by rw [← hg]; simp only; rw [if_neg hx]
 have g3 : ∀ x, x.num = n → (g x).data = d := fun x hx => by rw [← hg]; simp only; rw [if_pos hx]
 have hset : setData s.inos n d = s.inos.map g := by
  obtain ⟨i, hi⟩ := List.getElem?_of_mem hy
  unfold setData
  rw [atV_of_rise hf.rise hi hyn, Int.toNat_natCast, modify_set _ _ _ _ hi]
  apply List.ext_getElem?
  intro j
  rw [List.getElem?_set, List.getElem?_map]
  have hl := (List.getElem?_eq_some_iff.1 hi).1
  by_cases e : i = j
  ·subst e
   rw [if_pos rfl, if_pos hl, hi, ← hg]
   simp [hyn]
  ·rw [if_neg e]
   cases hj : s.inos[j]? with
   | none => rfl
   | some z =>
    have hne : z.num ≠ n := fun h9 => by
     have h1 := atV_of_rise hf.rise hj h9
     have h2 := atV_of_rise hf.rise hi hyn
     omega
    simp [g2 z hne]
 rw [hset]
 have num : ∀ k : Int, (∃ z ∈ s.inos, z.num = k) → ∃ z ∈ s.inos.map g, z.num = k := fun k ⟨z, hz, hk⟩ => ⟨g z, List.mem_map_of_mem hz, by rw [(g1 z).1]; exact hk⟩
 have hrn : ∀ {m : Int}, Rn s.inos m → Rn (s.inos.map g) m := fun {m} h9 => h9.mono fun x hx hxd => ⟨g x, List.mem_map_of_mem hx, (g1 x).1, by rw [(g1 x).2.1]; exact hxd, fun e he => by rw [(g1 x).2.2]; exact he⟩
 have hfr : Frm { s with inos := s.inos.map g } := by
  refine ⟨hf.m1, hf.m8, hf.mr, ?_, ?_, ?_, ?_, ?_, ?_, hf.riseD⟩
  ·intro i j a b hij ha hb
   have ha2 : (s.inos.map g)[i]? = some a := ha
   have hb2 : (s.inos.map g)[j]? = some b := hb
   rw [List.getElem?_map] at ha2 hb2
   obtain ⟨a0, ha0, rfl⟩ := Option.map_eq_some_iff.1 ha2
   obtain ⟨b0, hb0, rfl⟩ := Option.map_eq_some_iff.1 hb2
   rw [(g1 a0).1, (g1 b0).1]
   exact hf.rise i j a0 b0 hij ha0 hb0
  ·obtain ⟨r, hr, h1, h2⟩ := hf.root
   exact ⟨g r, List.mem_map_of_mem hr, by rw [(g1 r).1]; exact h1, by rw [(g1 r).2.1]; exact h2⟩
  ·intro z hz hn1
   obtain ⟨z0, hz0, rfl⟩ := List.mem_map.1 hz
   rw [(g1 z0).1] at hn1 ⊢
   exact hf.given z0 hz0 hn1
  ·intro z hz hzd
   obtain ⟨z0, hz0, rfl⟩ := List.mem_map.1 hz
   rw [(g1 z0).2.1] at hzd
   have hne : z0.num ≠ n := fun h9 => by
    have : z0 = y := hf.rise.one hz0 hy (by omega)
    rw [this, hyd] at hzd
    cases hzd
   rw [g2 z0 hne]
   exact ⟨(hf.dirs z0 hz0 hzd).1, (hf.dirs z0 hz0 hzd).2.to fun e _ => num _⟩
  ·intro z hz hzd
   obtain ⟨z0, hz0, rfl⟩ := List.mem_map.1 hz
   rw [(g1 z0).2.1] at hzd
   rw [(g1 z0).2.2]
   by_cases e : z0.num = n
   ·rw [g3 z0 e]; exact ⟨(hf.files z0 hz0 hzd).1, hd⟩
   ·rw [g2 z0 e]; exact hf.files z0 hz0 hzd
  ·intro dd hdd
   obtain ⟨a1, a2, a3, a4, w, hw, h1, h2⟩ := hf.opn dd hdd
   exact ⟨a1, a2, a3, a4, g w, List.mem_map_of_mem hw, by rw [(g1 w).1]; exact h1, by rw [(g1 w).2.1]; exact h2⟩
 refine hfr.good ⟨fun z hz hz1 hzd => ?_, fun z hz hzd => ?_⟩
 ·obtain ⟨z0, hz0, rfl⟩ := List.mem_map.1 hz
  rw [(g1 z0).1] at hz1 ⊢
  rw [(g1 z0).2.1] at hzd
  obtain ⟨a1, a2⟩ := hh.one z0 hz0 hz1 hzd
  exact ⟨by rw [← a1]; exact linkI_data _ _ _ (fun x => (g1 x).2), hrn a2⟩
 ·obtain ⟨z0, hz0, rfl⟩ := List.mem_map.1 hz
  rw [(g1 z0).1]
  rw [(g1 z0).2.1] at hzd
  rcases hh.has z0 hz0 hzd with a | a
  ·exact .inl (hrn a)
  ·exact .inr a
def bareV (s : St) : St := ⟨keptV s, [], s.made⟩
theorem mem_kept {s : St} {x : Ino} : x ∈ keptV s ↔ x ∈ s.inos ∧ (x.dir = true ∨ linkI s.inos x.num ≠ 0) := by
 unfold keptV
 rw [List.mem_filter]
 simp
theorem linkI_filter (p : Ino → Bool) : ∀ (is : List Ino), (∀ x ∈ is, p x = false → x.dir = false) → ∀ n, linkI (is.filter p) n = linkI is n
 | [], _, n => rfl
 | x :: xs, h, n => by
  have ih := linkI_filter p xs (fun y hy => h y (by simp [hy])) n
  cases hp : p x
  ·rw [List.filter_cons_of_neg (by rw [hp]; decide)]
   show _ = (if x.dir then linkE x.ents n else 0) + linkI xs n
   rw [h x (by simp) hp, ih]
   simp
  ·rw [List.filter_cons_of_pos hp]
   show (if x.dir then linkE x.ents n else 0) + linkI (xs.filter p) n = (if x.dir then linkE x.ents n else 0) + linkI xs n
   rw [ih]
theorem linkI_kept (s : St) (n : Int) : linkI (keptV s) n = linkI s.inos n :=
 linkI_filter _ _ (fun x _ h => by cases hd : x.dir with | false => rfl | true => rw [hd] at h; cases h) n
theorem rn_kept {s : St} {n : Int} (h : Rn s.inos n) : Rn (keptV s) n := by
 induction h with
 | root => exact .root
 | step hrn hx hd he ih => exact Rn.step ih (mem_kept.2 ⟨hx, .inl hd⟩) hd he
theorem good_bare {s : St} (h : Good s) : Good (bareV s) := by
 obtain ⟨f, g⟩ := h.frm
 refine Frm.good ⟨f.m1, f.m8, f.mr, riseI_iff.2 ((riseI_iff.1 f.rise).sublist (List.filter_sublist)), ?_, ?_, ?_, ?_, ?_, ?_⟩ ⟨?_, ?_⟩
 ·obtain ⟨r, hr, h2, h3⟩ := f.root
  exact ⟨r, mem_kept.2 ⟨hr, .inl h3⟩, h2, h3⟩
 ·intro z hz hn
  exact f.given z (mem_kept.1 hz).1 hn
 ·intro z hz hzd
  have hz2 := (mem_kept.1 hz).1
  refine ⟨(f.dirs z hz2 hzd).1, (f.dirs z hz2 hzd).2.to fun e he => ?_⟩
  rintro ⟨y, hy, hyn⟩
  refine ⟨y, mem_kept.2 ⟨hy, .inr (fun h0 => ?_)⟩, hyn⟩
  exact (linkI_zero _ _).1 h0 z hz2 hzd e he hyn.symm
 ·intro z hz hzd
  exact f.files z (mem_kept.1 hz).1 hzd
 ·intro d hd
  cases hd
 ·intro i j x y hij hx hy
  cases hx
 ·intro z hz hz1 hzd
  obtain ⟨a1, a2⟩ := g.one z (mem_kept.1 hz).1 hz1 hzd
  exact ⟨(linkI_kept s z.num).trans a1, rn_kept a2⟩
 ·intro z hz hzd
  obtain ⟨hz2, h0⟩ := mem_kept.1 hz
  have h1 : linkI s.inos z.num ≠ 0 := by
   rcases h0 with h0 | h0
   ·rw [hzd] at h0; cases h0
   ·exact h0
  obtain ⟨k, y, e, hy, hyd, he, hen⟩ := linkI_pos s.inos z.num (by omega)
  have hym := List.mem_of_getElem? hy
  have hry : Rn s.inos y.num := by
   by_cases h9 : y.num = 1
   ·rw [h9]; exact .root
   ·exact (g.one y hym h9 hyd).2
  have := rn_kept (Rn.step hry hym hyd he)
  rw [hen] at this
  exact .inl this
theorem may_bare {s : St} (h : mayV s = true) : mayV (bareV s) = true := (good_iff _).2 (good_bare ((good_iff _).1 h))
end Go.Proofs.YthhceopnnappgaaGreat
