/- Parts of the proof, side by side: MoRename, MoTell, MoTellLinks. -/
import Derived.Test.YtilkhmhgjbhfnaaGreatDoorM23
import Derived.Test.YtilkhmhgjbhfnaaGreatDoorM31
import Derived.Test.YtilkhmhgjbhfnaaGreatDoorM25
import Derived.Test.YtilkhmhgjbhfnaaGreatDoorM26
import Derived.Deep.Cut
import Derived.Deep.DeepCutAuto
set_option linter.unusedVariables false
set_option linter.unusedSimpArgs false
namespace Go.Proofs.YtilkhmhgjbhfnaaGreatDoor
open Go.RowKit
def renamesV (s : St) (c : Ca) : St × Re :=
 if (parentV s.inos c.path).2.2 ≠ 0 then (s, { code := (parentV s.inos c.path).2.2 })
 else if entV s.inos (parentV s.inos c.path).1 (parentV s.inos c.path).2.1 = 0 then (s, { code := 1 })
 else renameV s c (parentV s.inos c.path).1 (parentV s.inos c.path).2.1 (entV s.inos (parentV s.inos c.path).1 (parentV s.inos c.path).2.1)
theorem namesV_rename (s : St) (c : Ca) (hk : c.kind = 11) : namesV s c = renamesV s c := by
 unfold namesV renamesV
 rw [if_neg (by omega)]
 split
 ·rfl
 ·split
  ·rfl
  ·first | rfl | rw [if_pos hk]
theorem dropE_sub : ∀ (es : List En) (nm : ByteArray), (dropE es nm).Sublist es
 | [], _ => List.Sublist.refl _
 | e :: es, nm => by
  unfold dropE
  split
  ·exact (dropE_sub es nm).cons _
  ·exact (dropE_sub es nm).cons_cons _
theorem RiseE.sub {l es : List En} (h : RiseE es) (hs : l.Sublist es) : RiseE l := by
 have h1 : es.Pairwise fun x y => ltN x.name y.name = true := List.pairwise_iff_getElem.2 fun i j hi hj hij => h i j _ _ hij (List.getElem?_eq_getElem hi) (List.getElem?_eq_getElem hj)
 have h2 := List.pairwise_iff_getElem.1 (h1.sublist hs)
 intro i j x y hij hx hy
 obtain ⟨hi, rfl⟩ := List.getElem?_eq_some_iff.1 hx
 obtain ⟨hj, rfl⟩ := List.getElem?_eq_some_iff.1 hy
 exact h2 i j hi hj hij
theorem EnPos.none {es : List En} (hr : RiseE es) {nm : ByteArray} {k : Nat} (hp : EnPos es nm k false) : ∀ e ∈ es, e.name ≠ nm := fun e he hn => by
 obtain ⟨j, hj⟩ := List.getElem?_of_mem he
 have hh : ∃ e, es[k]? = some e ∧ e.name = nm := by
  have : k = j := by
   rcases Nat.lt_trichotomy k j with h | h | h
   ·cases hk : es[k]? with
    | none =>
     have h2 := (List.getElem?_eq_some_iff.1 hj).1
     rw [List.getElem?_eq_none_iff] at hk
     omega
    | some z =>
     have h2 := hr k j z e h hk hj
     rw [hn, hp.hi k z (Nat.le_refl _) hk] at h2
     cases h2
   ·exact h
   ·have h1 := hp.lo j e h hj
    rw [hn, ltN_irrefl] at h1
    cases h1
  subst this
  exact ⟨e, hj, hn⟩
 have := hp.of_ hh
 cases this
theorem rename_put {s : St} (hg : Good s) {x y : Ino} {i j : Nat} (hx : s.inos[i]? = some x) (hy : s.inos[j]? = some y) (NM NM2 : ByteArray) (EN : Int) (hno : ∀ e ∈ y.ents, e.name ≠ NM2) :
  ∃ y', (s.inos.set i { x with ents := dropE x.ents NM })[j]? = some y' ∧ RiseE y'.ents ∧ (∀ e ∈ y'.ents, e.name ≠ NM2) ∧ y'.ents.length ≤ 1000000 ∧
   setEnts (setEnts s.inos x.num fun es => dropE es NM) y.num (fun es => putE es NM2 EN) = (s.inos.set i { x with ents := dropE x.ents NM }).set j { y' with ents := putE y'.ents NM2 EN } := by
 have hax := atV_of_rise hg.riseI hx rfl
 rw [setEnts_at hax hx]
 have hri : RiseI (s.inos.set i { x with ents := dropE x.ents NM }) := hg.riseI.set hx rfl
 by_cases e : j = i
 ·subst e
  rw [hx] at hy
  have e2 := Option.some.inj hy
  subst e2
  have hm := List.mem_of_getElem? hx
  have hg2 : (s.inos.set j { x with ents := dropE x.ents NM })[j]? = some { x with ents := dropE x.ents NM } := by rw [List.getElem?_set, if_pos rfl, if_pos (List.getElem?_eq_some_iff.1 hx).1]
  refine ⟨_, hg2, (hg.riseE hm).sub (dropE_sub _ _), fun e he => hno e ((dropE_sub _ _).subset he), ?_, ?_⟩
  ·have h1 := (dropE_sub x.ents NM).length_le
   have h2 := hg.ents_len hm
   show (dropE x.ents NM).length ≤ _
   omega
  ·exact setEnts_at (atV_of_rise hri hg2 rfl) hg2 _
 ·have hg2 : (s.inos.set i { x with ents := dropE x.ents NM })[j]? = some y := by rw [get_set_ne e]; exact hy
  have hm := List.mem_of_getElem? hy
  refine ⟨_, hg2, hg.riseE hm, hno, by have := hg.ents_len hm; omega, ?_⟩
  exact setEnts_at (atV_of_rise hri hg2 rfl) hg2 _
set_option maxRecDepth 100000 in
set_option maxHeartbeats 16000000 in
theorem mrename_any (B q p : Nat) (s : St) (c : Ca) (zs : List (Ino × Value)) (vI vO vM : Value) (w : World) (hN : Now B q p s c zs vI vO vM w w) (hg : Good s) (hp1 : c.path.size ≤ 140737488355328) (hp2 : c.path2.size ≤ 140737488355328) (hk : c.kind = 11) :
  Calls Tryz.prog 93 #[.pointer (some ⟨q, 0, .none⟩)] w (Ran B q p c (renamesV s c) w) := by
 obtain ⟨R, hR⟩ : ∃ R, renamesV s c = R := ⟨_, rfl⟩
 have hsz := names_sized hg c
 rw [namesV_rename s c hk] at hsz
 have hsd := (Small.dropE hg.small (parentV s.inos c.path).1 (parentV s.inos c.path).2.1).sized (by omega) (by omega) (by omega)
 rw [hR] at hsz ⊢
 unfold renamesV at hR
 have HR := Lib.hid hR
 have HSZ := Lib.hid hsz
 have HSD := Lib.hid hsd
 have HN0 := Lib.hid hN
 have HG := Lib.hid hg
 have d6 := hN.doer.c6
 clear hR hN hg hsz hsd
 go_enter Tryz.func93, Tryz.ntmps93
 go_wp2_with fail
 refine (mparent_any B q p s c 0 0 false ⟨#[]⟩ (.slice none 0 0) zs vI vO vM c.path w HN0.out.doer HN0.out.own HG.out hp1).mono ?_
 rintro e1 w1 ⟨hb1, ⟨hc, rfl⟩ | ⟨hc, g, n, d, i, x, hvI, hx, hxn, hxd, rfl⟩⟩
 ·have hr := HR.out
  rw [if_pos hc] at hr
  go_simp
  exact panic_end rfl ((HN0.out.step hb1).fail (by rw [← hr]; exact hc) (by rw [← hr]))
 obtain ⟨NM, hNM⟩ : ∃ NM, (parentV s.inos c.path).2.1 = NM := ⟨_, rfl⟩
 have hat := HG.out.at_ hx hxn
 have hr := HR.out
 rw [if_neg (by rw [hc]; simp), hNM, entV_at hat hx, ← hxn] at hr
 have hsd := HSD.out
 rw [hNM, setEnts_at hat hx] at hsd
 rw [hNM]
 have HR1 := Lib.hid hr
 have HSD1 := Lib.hid hsd
 have HN1 := Lib.hid (HN0.out.step hb1)
 have hmem := List.mem_of_getElem? hx
 have hlen : x.ents.length ≤ 32 := HG.out.ents_len hmem
 obtain ⟨E, m, e, x0, x1, x2, x3, hE, hgl, hm⟩ := HN1.out.ino hvI hx
 have hm32 : m ≤ 1000000 := by omega
 have HX := Lib.hid hx
 have HRE := Lib.hid (HG.out.riseE hmem)
 have HMEM := Lib.hid hmem
 have HE := Lib.hid hE
 have HVI := Lib.hid hvI
 obtain ⟨EN, hEN⟩ : ∃ EN, entG x.ents NM = EN := ⟨_, rfl⟩
 have HEN := Lib.hid hEN
 clear hr hsd hb1 d6 hat HR HSD hmem hNM hc hEN hE hm hx hxn hvI
 go_wp2_with fail
 refine (mentry_any x.ents E m e NM _ HE.out (by omega) HRE.out).mono ?_
 rintro e5 w5 ⟨k, b, rfl, hb5, hpos⟩
 have HN5 := Lib.hid (HN1.out.step hb5)
 have x25 := (hb5.cell (p := ⟨g, i * 4 + 2, none⟩) hgl).trans x2
 have x05 := (hb5.cell (p := ⟨g, i * 4, none⟩) hgl).trans x0
 have HE5 := Lib.hid (HE.out.below hb5)
 have hgl5 : g < w5.heap.size := Nat.lt_of_lt_of_le hgl hb5.size
 rcases HG.out.entIs HMEM.out hpos with ⟨rfl, hz⟩ | ⟨rfl, hz, en, hen, henn, hennm⟩
 ·have hr := HR1.out
  rw [if_pos hz] at hr
  clear hb5 hpos x0 x1 x2 x3 hz
  go_wp2_with fail
  refine (throw_yes _ _).mono ?_
  rintro e3 w3 ⟨rfl, rfl⟩
  go_wp2_with fail
  exact panic_end rfl (HN5.out.fail (by rw [← hr]; simp) (by rw [← hr]))
 have hr := HR1.out
 rw [if_neg hz, HEN.out] at hr
 rw [HEN.out] at henn hz
 have HR2 := Lib.hid hr
 have hem := List.mem_of_getElem? hen
 have hkm : k < m := by have := (List.getElem?_eq_some_iff.1 hen).1; have := HE.out.1; omega
 obtain ⟨ge, oe, en', hEE, hge, hen', _, _, f0, f1⟩ := HE5.out.get k hkm
 have ex : en = en' := by rw [hen] at hen'; exact Option.some.inj hen'
 subst ex
 subst hEE
 rw [henn] at f1
 have k0 : (0 : Int) ≤ (k : Int) := by omega
 have k1 : (k : Int) < (m : Int) := by omega
 have d75 := HN5.out.doer.c7
 obtain ⟨u, v, hu0, hv, hvn, hatv⟩ := HG.out.ent HX.out hxd hem
 rw [henn] at hvn hatv
 have HV := Lib.hid hv
 have HVN := Lib.hid hvn
 have HATV := Lib.hid hatv
 have HEM := Lib.hid (show en ∈ x.ents ∧ en.name = NM from ⟨hem, hennm⟩)
 clear hr HR1 hb5 hpos x0 x1 x2 x3 hz hen hen' henn hennm hem hv hvn hatv
 go_wp2_with fail
 refine (throw_no _ _).mono ?_
 rintro e3 w3 ⟨rfl, rfl⟩
 go_wp2_with fail
 refine (mparent_any B q p s c 0 0 false ⟨#[]⟩ (.slice none 0 0) zs vI vO vM c.path2 w5 HN5.out.doer HN5.out.own HG.out hp2).mono ?_
 rintro e6 w6 ⟨hb6, ⟨hc6, rfl⟩ | ⟨hc6, g', n', d', j, y, hvI', hy, hyn, hyd, rfl⟩⟩
 ·have hr := HR2.out
  unfold renameV at hr
  rw [if_pos hc6] at hr
  go_simp
  exact panic_end rfl ((HN5.out.step hb6).fail (by rw [← hr]; exact hc6) (by rw [← hr]))
 have hgg : g' = g := by have h := HVI.out; rw [hvI'] at h; injection h with e1 _ _; injection e1 with e1; injection e1 with e1
 subst hgg
 obtain ⟨hpo, hpne, hpw, hpd, hpe⟩ := parentV_ok hc6
 obtain ⟨NS, hNS⟩ : ∃ NS, (parseL c.path2.data.toList).1 = NS := ⟨_, rfl⟩
 rw [hNS] at hpne hpw hpd hpe
 have hthr := through_within HG.out hpw hpne hpd EN
 obtain ⟨NM2, hNM2⟩ : ∃ NM2, (parentV s.inos c.path2).2.1 = NM2 := ⟨_, rfl⟩
 have hnms : NM2.size ≤ 140737488355328 := by rw [← hNM2]; have := parentV_size s.inos c.path2; omega
 have hatj := HG.out.at_ hy hyn
 have hr := HR2.out
 unfold renameV at hr
 rw [if_neg (by rw [hc6]; simp), hNM2, ← hyn, dirAt_at HATV.out HV.out, hyn, hpe, ← hthr, ← hpe, entV_at hatj hy, fullV_at hatj hy, ← hyn] at hr
 rw [hNM2]
 have HR3 := Lib.hid hr
 have HN6 := Lib.hid (HN5.out.step hb6)
 have HY := Lib.hid hy
 have HPO := Lib.hid hpo
 have HNS := Lib.hid hNS
 have HPW := Lib.hid hpw
 obtain ⟨TV, hTV⟩ : ∃ TV, throughV s.inos NS EN = TV := ⟨_, rfl⟩
 have HTV := Lib.hid hTV
 obtain ⟨Ev, mv, ev, v0, v1, v2, v3, hEv, hglv, hmv⟩ := HN6.out.ino HVI.out HV.out
 have d06 := HN6.out.doer.c0
 have d76 := HN6.out.doer.c7
 have s06 := HN6.out.own.s0
 rw [HVI.out] at s06
 have hul : u < n := by
  have h := HN6.out.own.inosAt
  obtain ⟨A, cA, hA, _⟩ := h
  rw [HVI.out] at hA
  injection hA with _ e1 _
  have := (List.getElem?_eq_some_iff.1 HV.out).1
  omega
 have u0 : (0 : Int) ≤ (u : Int) := by omega
 have u1 : (u : Int) < (n : Int) := by omega
 have hX2 : ∀ (Y : Ext w6) (p : Addr), (w6.cell? p).isSome = true → Y.w.cell? p = w6.cell? p := fun Y p h => Y.cell p h
 have hfind : ∀ X : Ext w6, Calls Tryz.prog 140 #[.pointer (some ⟨p, 0, .none⟩), .int .i64 EN] X.w fun e w' => e = .returned (.int .i64 (u : Int)) ∧ Below X.w.heap.size X.w w' := fun X => by
  have h := mfind_any p s EN X.w (HN6.out.own.ptr.below X.bel) HG.out.riseI
  rw [HATV.out] at h
  exact h
 have hthrough : ∀ X : Ext w6, Calls Tryz.prog 147 #[.pointer (some ⟨q, 0, .none⟩), .string c.path2, .int .i64 EN] X.w fun e w' => e = .returned (.bool TV) ∧ Below X.w.heap.size X.w w' := fun X => by
  have h := mthrough_any B q p s c 0 0 false ⟨#[]⟩ (.slice none 0 0) zs vI vO vM c.path2 NS EN X.w (HN6.out.doer.below X.bel) (HN6.out.own.below X.bel) HG.out hp2 HPO.out HNS.out HPW.out
  rw [HTV.out] at h
  exact h
 have HF := Lib.hid hfind
 have HT := Lib.hid hthrough
 have hX := @Ext.cell w6
 obtain ⟨VD, hVD⟩ : ∃ VD, v.dir = VD := ⟨_, rfl⟩
 rw [hVD] at v1
 have HVD := Lib.hid hVD
 clear hr HR2 hb6 hNM2 hy hatj hpo hpne hpw hpd hpe hNS hthr hTV hfind hthrough hEv hmv hc6 hvI' d75 f0 f1 v0 v2 v3 hVD
 have hgo : VD = true ∧ TV = true ∨ ¬ (VD = true ∧ TV = true) := Classical.em _
 go_upto_region 5 with fail
 go_cut [75] from 50 to 76 (fun cz wx => Below w6.heap.size w6 wx ∧ ¬ (VD = true ∧ TV = true))
 case first =>
  rcases hgo with ⟨rfl, rfl⟩ | hno
  ·have hr := HR3.out
   rw [HTV.out, if_pos ⟨HVD.out, rfl⟩] at hr
   have HRB := Lib.hid hr
   clear hr
   refine wp_region_ext_tail 26 (by kernel_rfl) (by kernel_rfl) ?_
   simp only [List.take_succ_cons, List.take_zero, List.drop_succ_cons, List.drop_zero]
   repeat (go_big_quiet_step (first | (go_at_call 140; rename_i X; exact Calls.ext_of (HF.out X)) | (go_at_call 147; rename_i X; exact Calls.ext_of (HT.out X))))
   refine wpQuiet_nil ?_
   intro X
   have HNX := Lib.hid (HN6.out.step X.bel)
   clear hX
   go_wp2_with fail
   refine (throw_yes _ _).mono ?_
   rintro e3 w3 ⟨rfl, rfl⟩
   go_wp2_with fail
   exact panic_end rfl (HNX.out.fail (by rw [← HRB.out]; simp) (by rw [← HRB.out]))
  have HNO := Lib.hid hno
  clear hno
  cases VD
  ·refine wp_region_ext_tail 26 (by kernel_rfl) (by kernel_rfl) ?_
   simp only [List.take_succ_cons, List.take_zero, List.drop_succ_cons, List.drop_zero]
   repeat (go_big_quiet_step (first | (go_at_call 140; rename_i X; exact Calls.ext_of (HF.out X))))
   refine wpQuiet_nil ?_
   intro X
   have HBX := Lib.hid X.bel
   clear hX
   go_wp2_with fail
   refine (throw_no _ _).mono ?_
   rintro e8 w8 ⟨rfl, rfl⟩
   go_wp2_with fail
   go_meet
   exact ⟨HBX.out, by simp⟩
  ·have hf : TV = false := by cases TV; rfl; exact absurd ⟨rfl, rfl⟩ HNO.out
   subst hf
   refine wp_region_ext_tail 26 (by kernel_rfl) (by kernel_rfl) ?_
   simp only [List.take_succ_cons, List.take_zero, List.drop_succ_cons, List.drop_zero]
   repeat (go_big_quiet_step (first | (go_at_call 140; rename_i X; exact Calls.ext_of (HF.out X)) | (go_at_call 147; rename_i X; exact Calls.ext_of (HT.out X))))
   refine wpQuiet_nil ?_
   intro X
   have HBX := Lib.hid X.bel
   clear hX
   go_wp2_with fail
   refine (throw_no _ _).mono ?_
   rintro e8 w8 ⟨rfl, rfl⟩
   go_wp2_with fail
   go_meet
   exact ⟨HBX.out, by simp⟩
 case rest =>
  obtain ⟨hb7, hno⟩ := hcut
  have hr := HR3.out
  rw [HTV.out, if_neg (by rw [HVD.out]; exact hno)] at hr
  have HR4 := Lib.hid hr
  clear hr hno HR3 hX hX2 hgo
  generalize wc = w7 at *
  have HN7 := Lib.hid (HN6.out.step hb7)
  clear hb7 d06 d76 s06 v1 u0 u1
  obtain ⟨Ey, my, ey, y0, y1, y2, y3, hEy, hgly, hmy⟩ := HN7.out.ino HVI.out HY.out
  obtain ⟨Ex, mx, ex, x0, x1, x2, x3, hEx, hglx, hmx⟩ := HN7.out.ino HVI.out HX.out
  have hmemy := List.mem_of_getElem? HY.out
  have hleny : y.ents.length ≤ 32 := HG.out.ents_len hmemy
  have hm32y : my ≤ 1000000 := by omega
  have HEY := Lib.hid hEy
  have HREY := Lib.hid (HG.out.riseE hmemy)
  have HTX := Lib.hid (HG.out.text hmemy)
  have HMY := Lib.hid hmemy
  obtain ⟨YN, hYN⟩ : ∃ YN, y.num = YN := ⟨_, rfl⟩
  rw [hYN] at y0
  have HYN := Lib.hid hYN
  obtain ⟨XN, hXN⟩ : ∃ XN, x.num = XN := ⟨_, rfl⟩
  rw [hXN] at x0
  have HXN := Lib.hid hXN
  clear y1 y3 x1 x2 x3 hmemy hEy hEx hmx hmy hYN hXN
  go_wp2_with fail
  refine (mentry_any y.ents Ey my ey NM2 _ HEY.out (by omega) HREY.out).mono ?_
  rintro e8 w8 ⟨k2, b2, rfl, hb8, hpos2⟩
  have HN8 := Lib.hid (HN7.out.step hb8)
  have y28 := (hb8.cell (p := ⟨g', j * 4 + 2, none⟩) hgly).trans y2
  have y08 := (hb8.cell (p := ⟨g', j * 4, none⟩) hgly).trans y0
  have x08 := (hb8.cell (p := ⟨g', i * 4, none⟩) hglx).trans x0
  have HE8 := Lib.hid (HEY.out.below hb8)
  have hgl8 : g' < w8.heap.size := Nat.lt_of_lt_of_le hgly hb8.size
  rcases HG.out.entIs HMY.out hpos2 with ⟨rfl, hz2⟩ | ⟨rfl, hz2, _⟩
  rotate_left
  ·have hr := HR4.out
   rw [if_pos hz2] at hr
   clear hb8 hpos2 y0 y2 x0 hz2
   go_wp2_with fail
   refine (throw_yes _ _).mono ?_
   rintro e3 w3 ⟨rfl, rfl⟩
   go_wp2_with fail
   exact panic_end rfl (HN8.out.fail (by rw [← hr]; simp) (by rw [← hr]))
  have hr := HR4.out
  rw [if_neg (by rw [hz2]; simp), HXN.out, HYN.out] at hr
  have HR5 := Lib.hid hr
  have HNO2 := Lib.hid (EnPos.none HREY.out hpos2)
  clear hr HR4 hb8 hpos2 y0 y2 x0 hz2
  go_wp2_with fail
  refine (throw_no _ _).mono ?_
  rintro e3 w3 ⟨rfl, rfl⟩
  by_cases hxy : XN = YN
  ·have q1 : (XN == YN) = true := by rw [beq_iff_eq]; exact hxy
   have hr := HR5.out
   rw [if_pos hxy.symm] at hr
   have HR6 := Lib.hid hr
   have hX8 : ∀ (X : Ext w8) (p : Addr), (w8.cell? p).isSome = true → X.w.cell? p = w8.cell? p := fun X p h => X.cell p h
   clear hr HR5 hxy
   go_wp2_with fail
   refine wre ?_
   repeat (go_big_quiet_step (fail))
   refine wpQuiet_nil ?_
   rintro w9 ⟨X, rfl⟩
   generalize hZ9 : X.w = w9
   have hb9 : Below w8.heap.size w8 w9 := by rw [← hZ9]; exact X.bel
   have HN9 := Lib.hid (HN8.out.step hb9)
   have y29 := (hb9.cell (p := ⟨g', j * 4 + 2, none⟩) hgl8).trans y28
   have HE9 := Lib.hid (HE8.out.below hb9)
   clear hX8 hZ9 X hb9
   go_wp2_with fail
   refine (mfull_any g' (j * 4) y.ents Ey my ey NM2 NM w9 y29 HE9.out (by omega) HTX.out hnms).mono ?_
   rintro e10 w10 ⟨rfl, hb10⟩
   have HN10 := Lib.hid (HN9.out.step hb10)
   obtain ⟨FB, hFB⟩ : ∃ FB, decide (4 ≤ fullE y.ents NM2 NM) = FB := ⟨_, rfl⟩
   have hr := HR6.out
   rw [hFB] at hr
   rw [hFB]
   have HR7 := Lib.hid hr
   clear hr hb10 hFB y29
   rcases Bool.eq_false_or_eq_true FB with rfl | rfl
   ·have hr := HR7.out
    rw [if_pos rfl] at hr
    go_wp2_with fail
    refine (throw_yes _ _).mono ?_
    rintro e3 w3 ⟨rfl, rfl⟩
    go_wp2_with fail
    exact panic_end rfl (HN10.out.fail (by rw [← hr]; simp) (by rw [← hr]))
   have hr := HR7.out
   rw [if_neg (by simp)] at hr
   obtain ⟨y', hy', hrey, hnoy, hly, hset⟩ := rename_put HG.out HX.out HY.out NM NM2 EN HNO2.out
   rw [← HXN.out, ← HYN.out, hset] at hr
   have HR8 := Lib.hid hr
   have hs := HSZ.out
   rw [← hr] at hs
   have HS := Lib.hid hs
   have HYQ := Lib.hid hy'
   have HREQ := Lib.hid hrey
   have HNOQ := Lib.hid hnoy
   have HLYQ := Lib.hid hly
   clear hr hs hy' hrey hnoy hset hly
   go_wp2_with fail
   refine (throw_no _ _).mono ?_
   rintro e3 w3 ⟨rfl, rfl⟩
   go_wp2_with fail
   refine (mtake_any B p s zs vI vO vM i x en NM g' n d w10 HN10.out.own HN10.out.hB' HX.out HVI.out HRE.out HEM.out.1 HEM.out.2 (by omega) HSD1.out).mono ?_
   rintro e11 w11 ⟨rfl, ht11, zs2, ho11⟩
   have HO11 := Lib.hid ho11
   have HT11 := Lib.hid ht11
   have hB11 : B ≤ w11.heap.size := Nat.le_trans HN10.out.hB' ht11.below.size
   clear ho11 ht11
   go_wp2_with fail
   refine (mput_any B p _ zs2 vI vO vM j y' NM2 EN g' n d w11 HO11.out hB11 HYQ.out HVI.out HREQ.out HNOQ.out HLYQ.out HS.out).mono ?_
   rintro e12 w12 ⟨rfl, ht12, zs3, ho12⟩
   go_wp2_with fail
   go_returns
   exact HN10.out.done (by rw [← HR8.out]) rfl (HT11.out.trans ht12) ⟨zs3, vI, vO, vM, by rw [← HR8.out]; exact ho12⟩
  ·have q1 : (XN == YN) = false := by rw [beq_eq_false_iff_ne]; exact hxy
   have hr := HR5.out
   rw [if_neg (Ne.symm hxy), show txt [] = ⟨#[]⟩ from rfl] at hr
   have HR6 := Lib.hid hr
   have hX8 : ∀ (X : Ext w8) (p : Addr), (w8.cell? p).isSome = true → X.w.cell? p = w8.cell? p := fun X p h => X.cell p h
   clear hr HR5 hxy
   go_wp2_with fail
   refine wre ?_
   repeat (go_big_quiet_step (fail))
   refine wpQuiet_nil ?_
   rintro w9 ⟨X, rfl⟩
   generalize hZ9 : X.w = w9
   have hb9 : Below w8.heap.size w8 w9 := by rw [← hZ9]; exact X.bel
   have HN9 := Lib.hid (HN8.out.step hb9)
   have y29 := (hb9.cell (p := ⟨g', j * 4 + 2, none⟩) hgl8).trans y28
   have HE9 := Lib.hid (HE8.out.below hb9)
   clear hX8 hZ9 X hb9
   go_wp2_with fail
   refine (mfull_any g' (j * 4) y.ents Ey my ey NM2 ⟨#[]⟩ w9 y29 HE9.out (by omega) HTX.out hnms).mono ?_
   rintro e10 w10 ⟨rfl, hb10⟩
   have HN10 := Lib.hid (HN9.out.step hb10)
   obtain ⟨FB, hFB⟩ : ∃ FB, decide (4 ≤ fullE y.ents NM2 ⟨#[]⟩) = FB := ⟨_, rfl⟩
   have hr := HR6.out
   rw [hFB] at hr
   rw [hFB]
   have HR7 := Lib.hid hr
   clear hr hb10 hFB y29
   rcases Bool.eq_false_or_eq_true FB with rfl | rfl
   ·have hr := HR7.out
    rw [if_pos rfl] at hr
    go_wp2_with fail
    refine (throw_yes _ _).mono ?_
    rintro e3 w3 ⟨rfl, rfl⟩
    go_wp2_with fail
    exact panic_end rfl (HN10.out.fail (by rw [← hr]; simp) (by rw [← hr]))
   have hr := HR7.out
   rw [if_neg (by simp)] at hr
   obtain ⟨y', hy', hrey, hnoy, hly, hset⟩ := rename_put HG.out HX.out HY.out NM NM2 EN HNO2.out
   rw [← HXN.out, ← HYN.out, hset] at hr
   have HR8 := Lib.hid hr
   have hs := HSZ.out
   rw [← hr] at hs
   have HS := Lib.hid hs
   have HYQ := Lib.hid hy'
   have HREQ := Lib.hid hrey
   have HNOQ := Lib.hid hnoy
   have HLYQ := Lib.hid hly
   clear hr hs hy' hrey hnoy hset hly
   go_wp2_with fail
   refine (throw_no _ _).mono ?_
   rintro e3 w3 ⟨rfl, rfl⟩
   go_wp2_with fail
   refine (mtake_any B p s zs vI vO vM i x en NM g' n d w10 HN10.out.own HN10.out.hB' HX.out HVI.out HRE.out HEM.out.1 HEM.out.2 (by omega) HSD1.out).mono ?_
   rintro e11 w11 ⟨rfl, ht11, zs2, ho11⟩
   have HO11 := Lib.hid ho11
   have HT11 := Lib.hid ht11
   have hB11 : B ≤ w11.heap.size := Nat.le_trans HN10.out.hB' ht11.below.size
   clear ho11 ht11
   go_wp2_with fail
   refine (mput_any B p _ zs2 vI vO vM j y' NM2 EN g' n d w11 HO11.out hB11 HYQ.out HVI.out HREQ.out HNOQ.out HLYQ.out HS.out).mono ?_
   rintro e12 w12 ⟨rfl, ht12, zs3, ho12⟩
   go_wp2_with fail
   go_returns
   exact HN10.out.done (by rw [← HR8.out]) rfl (HT11.out.trans ht12) ⟨zs3, vI, vO, vM, by rw [← HR8.out]; exact ho12⟩
set_option maxRecDepth 100000 in
set_option maxHeartbeats 8000000 in
theorem mstat_any (B q p : Nat) (s : St) (c : Ca) (zs : List (Ino × Value)) (vI vO vM : Value) (w : World) (hN : Now B q p s c zs vI vO vM w w) (hg : Good s) (hp1 : c.path.size ≤ 140737488355328) (hk : c.kind = 13) :
  Calls Tryz.prog 94 #[.pointer (some ⟨q, 0, .none⟩)] w (Ran B q p c (s, looksV s c) w) := by
 obtain ⟨R, hR⟩ : ∃ R, looksV s c = R := ⟨_, rfl⟩
 rw [hR]
 unfold looksV at hR
 have HR := Lib.hid hR
 have HN0 := Lib.hid hN
 have HG := Lib.hid hg
 have d6 := hN.doer.c6
 clear hR hN hg
 go_enter Tryz.func94, Tryz.ntmps94
 go_wp2_with fail
 refine (mat_any B q p s c 0 0 false ⟨#[]⟩ (.slice none 0 0) zs vI vO vM c.path w HN0.out.doer HN0.out.own HG.out hp1).mono ?_
 rintro e1 w1 ⟨hb1, ⟨hc, rfl⟩ | ⟨hc, g, n, d, i, x, hvI, hx, hxn, rfl⟩⟩
 ·have hr := HR.out
  rw [if_pos hc] at hr
  go_simp
  exact panic_end rfl ((HN0.out.step hb1).fail (R := (s, R)) (by rw [← hr]; exact hc) (by rw [← hr]))
 have hr := HR.out
 rw [if_neg (by rw [hc]; simp), if_neg (by omega), if_pos hk] at hr
 have HN1 := Lib.hid (HN0.out.step hb1)
 have hat := HG.out.at_ hx hxn
 rw [dirAt_at hat hx, dataAt_at hat hx] at hr
 have HR1 := Lib.hid hr
 obtain ⟨E, m, e, x0, x1, x2, x3, hE, hgl, hm⟩ := HN1.out.ino hvI hx
 have hds : x.dir = true → x.data.size = 0 := fun h => (HG.out.dirs x (List.mem_of_getElem? hx) h).1
 have d1 := HN1.out.doer.c1
 rw [hk] at d1
 have r12 := HN1.out.doer.r12
 have z12 := HN1.out.doer.fz 12
 have hqg : q ≠ g := fun e => by
  obtain ⟨g2, _, _, _, _, hv2, hz2, _⟩ := HN1.out.own.at_ hx
  obtain ⟨gg, _, cur, hvv, _, _, _, hgc, _⟩ := HN1.out.own.rowI.open_ (by have := (List.getElem?_eq_some_iff.1 hz2).1; omega)
  rw [hvI] at hvv
  injection hvv with e1 _ _
  injection e1 with e1
  injection e1 with e1
  subst e1
  exact blk_ne HN1.out.doer.cell hgc (by decide) e
 have HDS := Lib.hid hds
 obtain ⟨W, hW⟩ : ∃ W, w1.setCell ⟨q, 12, none⟩ (.bool x.dir) = W := ⟨_, rfl⟩
 have hDW : DoerAt W q p c 0 0 x.dir ⟨#[]⟩ (.slice none 0 0) := by rw [← hW]; exact HN1.out.doer.setDir _
 have hOW : Own2 B W p s zs vI vO vM := by rw [← hW]; exact HN1.out.doer.set_own HN1.out.own
 have hLW : Below B w W := by rw [← hW]; exact HN1.out.low.trans (low_set HN1.out.hq)
 have y1 : W.cell? ⟨g, i * 4 + 1, none⟩ = some (.bool x.dir) := by rw [← hW]; exact (World.cell?_setCell_other w1 ⟨q, 12, none⟩ ⟨g, i * 4 + 1, none⟩ _ (by simp [hqg, hqg.symm])).trans x1
 have y3 : W.cell? ⟨g, i * 4 + 3, none⟩ = some (.string x.data) := by rw [← hW]; exact (World.cell?_setCell_other w1 ⟨q, 12, none⟩ ⟨g, i * 4 + 3, none⟩ _ (by simp [hqg, hqg.symm])).trans x3
 have r11 := hDW.r11
 have z11 := hDW.fz 11
 have HDW := Lib.hid hDW
 have HOW := Lib.hid hOW
 have HLW := Lib.hid hLW
 have hq := HN1.out.hq
 obtain ⟨XD, hXD⟩ : ∃ XD, x.dir = XD := ⟨_, rfl⟩
 rw [hXD] at x1 y1 hW
 have HXD := Lib.hid hXD
 clear hr HR hb1 d6 hE hx hxn hvI hat hm hc hds hDW hOW hLW hXD
 cases XD
 ·go_wp2_with fail
  go_returns
  exact ⟨HLW.out.trans (low_set hq), .inr ⟨by show R.code = 0; rw [← HR1.out], rfl, ⟨zs, vI, vO, vM, HDW.out.set_own HOW.out⟩, .slice none 0 0, by show DoerAt _ q p c R.fd R.num R.dir R.data _; rw [← HR1.out]; exact HDW.out.setNum _, by show RowAt B _ _ 1 _ R.names.length _; rw [← HR1.out]; exact ⟨rfl, .inl ⟨none, rfl, rfl⟩⟩⟩⟩
 ·go_wp2_with fail
  go_returns
  exact ⟨HLW.out, .inr ⟨by show R.code = 0; rw [← HR1.out], rfl, ⟨zs, vI, vO, vM, HOW.out⟩, .slice none 0 0, by show DoerAt _ q p c R.fd R.num R.dir R.data _; rw [← HR1.out, HDS.out HXD.out]; exact HDW.out, by show RowAt B _ _ 1 _ R.names.length _; rw [← HR1.out]; exact ⟨rfl, .inl ⟨none, rfl, rfl⟩⟩⟩⟩
set_option maxRecDepth 100000 in
set_option maxHeartbeats 8000000 in
set_option maxRecDepth 100000 in
set_option maxHeartbeats 8000000 in
theorem mlinksof_any (B q p : Nat) (s : St) (c : Ca) (zs : List (Ino × Value)) (vI vO vM : Value) (w : World) (hN : Now B q p s c zs vI vO vM w w) (hg : Good s) (hp1 : c.path.size ≤ 140737488355328) (hk : c.kind = 14) :
  Calls Tryz.prog 94 #[.pointer (some ⟨q, 0, .none⟩)] w (Ran B q p c (s, looksV s c) w) := by
 obtain ⟨R, hR⟩ : ∃ R, looksV s c = R := ⟨_, rfl⟩
 rw [hR]
 unfold looksV at hR
 have HR := Lib.hid hR
 have HN0 := Lib.hid hN
 have HG := Lib.hid hg
 have d6 := hN.doer.c6
 clear hR hN hg
 go_enter Tryz.func94, Tryz.ntmps94
 go_wp2_with fail
 refine (mat_any B q p s c 0 0 false ⟨#[]⟩ (.slice none 0 0) zs vI vO vM c.path w HN0.out.doer HN0.out.own HG.out hp1).mono ?_
 rintro e1 w1 ⟨hb1, ⟨hc, rfl⟩ | ⟨hc, g, n, d, i, x, hvI, hx, hxn, rfl⟩⟩
 ·have hr := HR.out
  rw [if_pos hc] at hr
  go_simp
  exact panic_end rfl ((HN0.out.step hb1).fail (R := (s, R)) (by rw [← hr]; exact hc) (by rw [← hr]))
 have hr := HR.out
 rw [if_neg (by rw [hc]; simp), if_neg (by omega), if_neg (by omega)] at hr
 have HN1 := Lib.hid (HN0.out.step hb1)
 have hat := HG.out.at_ hx hxn
 rw [dirAt_at hat hx, ← hxn] at hr
 have HR1 := Lib.hid hr
 obtain ⟨E, m, e, x0, x1, x2, x3, hE, hgl, hm⟩ := HN1.out.ino hvI hx
 have d1 := HN1.out.doer.c1
 rw [hk] at d1
 have d0 := HN1.out.doer.c0
 have hqg : q ≠ g := fun e => by
  obtain ⟨g2, _, _, _, _, hv2, hz2, _⟩ := HN1.out.own.at_ hx
  obtain ⟨gg, _, cur, hvv, _, _, _, hgc, _⟩ := HN1.out.own.rowI.open_ (by have := (List.getElem?_eq_some_iff.1 hz2).1; omega)
  rw [hvI] at hvv
  injection hvv with e1 _ _
  injection e1 with e1
  injection e1 with e1
  subst e1
  exact blk_ne HN1.out.doer.cell hgc (by decide) e
 have hqp := HN1.out.ne
 obtain ⟨A, nn, cc, F, mm, dd, M, k2, e2, hA, hE2, hM, rfl, rfl, rfl, hSt⟩ := HN1.out.own.stAt
 have s0 := HN1.out.own.s0
 have s1 := HN1.out.own.s1
 have s2 := HN1.out.own.s2
 rw [hA] at s0
 rw [hE2] at s1
 rw [hM] at s2
 have hq1 := HN1.out.doer.lt
 have hp1' := HN1.out.own.lt
 have HST := Lib.hid hSt
 obtain ⟨XN, hXN⟩ : ∃ XN, x.num = XN := ⟨_, rfl⟩
 rw [hXN] at x0
 have HXN := Lib.hid hXN
 obtain ⟨LK, hLK⟩ : ∃ LK, linkI s.inos XN = LK := ⟨_, rfl⟩
 have HLK := Lib.hid hLK
 clear hr HR hb1 d6 hE hx hxn hvI hat hm hc hA hE2 hM hSt hXN hLK
 cases hd : x.dir
 rotate_left
 ·have hr := HR1.out
  rw [if_pos hd] at hr
  rw [hd] at x1
  go_wp2_with fail
  refine (throw_yes _ _).mono ?_
  rintro e3 w3 ⟨rfl, rfl⟩
  go_wp2_with fail
  exact panic_end rfl (HN1.out.fail (R := (s, R)) (by rw [← hr]; simp) (by rw [← hr]))
 have hr := HR1.out
 rw [if_neg (by rw [hd]; simp), HXN.out, HLK.out] at hr
 have HR2 := Lib.hid hr
 rw [hd] at x1
 have z11 := HN1.out.doer.fz 11
 have r11 := HN1.out.doer.r11
 have hlk := fun (X : Ext w1) => mlinks_any (.agg #[.slice A s.inos.length cc, .slice F s.opn.length dd, .slice M s.made.length e2]) s XN X.w (HST.out.below X.bel)
 rw [HLK.out] at hlk
 have HLC := Lib.hid hlk
 have hX := @Ext.cell w1
 clear hr hd hlk x2 x3
 go_wp2_with fail
 refine (throw_no _ _).mono ?_
 rintro e3 w3 ⟨rfl, rfl⟩
 go_wp2_with fail
 refine wp_region_ext_tail 15 (by kernel_rfl) (by kernel_rfl) ?_
 simp only [List.take_succ_cons, List.take_zero, List.drop_succ_cons, List.drop_zero]
 repeat (go_big_quiet_step (first | (go_at_call 56; rename_i X; exact Calls.ext_of (HLC.out X))))
 refine wpQuiet_nil ?_
 intro X
 generalize hZe : X.w = w5
 have hb5' : Below w1.heap.size w1 w5 := by rw [← hZe]; exact X.bel
 have r5 := (hb5'.cell (p := ⟨q, 11, none⟩) hq1).trans r11
 have z5 : w5.frozen? ⟨q, 11, none⟩ = false := (hb5'.frozen (p := ⟨q, 11, none⟩) hq1).trans z11
 have HN5 := Lib.hid (HN1.out.step hb5')
 clear hX hZe X hb5'
 go_wp2_with fail
 go_returns
 exact ⟨HN5.out.low.trans (low_set HN5.out.hq), .inr ⟨by show R.code = 0; rw [← HR2.out], rfl, ⟨zs, vI, vO, vM, HN5.out.doer.set_own HN5.out.own⟩, .slice none 0 0, by show DoerAt _ q p c R.fd R.num R.dir R.data _; rw [← HR2.out]; exact HN5.out.doer.setNum _, by show RowAt B _ _ 1 _ R.names.length _; rw [← HR2.out]; exact ⟨rfl, .inl ⟨none, rfl, rfl⟩⟩⟩⟩
end Go.Proofs.YtilkhmhgjbhfnaaGreatDoor
