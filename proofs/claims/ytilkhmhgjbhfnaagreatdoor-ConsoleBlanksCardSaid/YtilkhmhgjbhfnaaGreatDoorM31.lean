/- Parts of the proof, side by side: MoWrite, MoLink, MoRemove, MoThrough. -/
import Derived.Test.YtilkhmhgjbhfnaaGreatDoorM30
import Derived.Deep.RegionLaw
import Derived.Test.YtilkhmhgjbhfnaaGreatDoorM23
import Derived.Test.YtilkhmhgjbhfnaaGreatDoorM25
import Derived.Test.YtilkhmhgjbhfnaaGreatDoorM13
import Derived.Test.YtilkhmhgjbhfnaaGreatDoorM14
set_option linter.unusedVariables false
set_option linter.unusedSimpArgs false
namespace Go.Proofs.YtilkhmhgjbhfnaaGreatDoor
open Go.RowKit
set_option maxRecDepth 100000 in
set_option maxHeartbeats 16000000 in
theorem mwrite_any (B q p : Nat) (s : St) (c : Ca) (zs : List (Ino × Value)) (vI vO vM : Value) (w : World) (hN : Now B q p s c zs vI vO vM w w) (hg : Good s) (hk : c.kind = 5) (hds : c.data.size ≤ 140737488355328) :
  Calls Tryz.prog 90 #[.pointer (some ⟨q, 0, .none⟩)] w (Ran B q p c (byFdV s c) w) := by
 obtain ⟨R, hR⟩ : ∃ R, byFdV s c = R := ⟨_, rfl⟩
 have hsz := fd_sized hg c
 rw [hR] at hsz ⊢
 unfold byFdV at hR
 have HSZ := Lib.hid hsz
 have HR := Lib.hid hR
 have HN0 := Lib.hid hN
 have HG := Lib.hid hg
 clear hR hN hg hsz
 go_enter Tryz.func90, Tryz.ntmps90
 go_wp2_with fail
 refine (mfile_any B q p s c 0 0 false ⟨#[]⟩ (.slice none 0 0) zs vI vO vM w HN0.out.doer HN0.out.own HG.out).mono ?_
 rintro e1 w1 ⟨hb1, ⟨h0, rfl⟩ | ⟨h0, g, n, d, i, x, k, hvI, hx, hxn, hxd, hfp, rfl⟩⟩
 ·have hr := HR.out
  rw [if_pos h0] at hr
  go_simp
  exact panic_end rfl ((HN0.out.step hb1).fail (by rw [← hr]; simp) (by rw [← hr]))
 have hr := HR.out
 rw [if_neg h0, if_neg (by omega), if_neg (by omega), if_pos hk] at hr
 have HN1 := Lib.hid (HN0.out.step hb1)
 have hat := HG.out.at_ hx hxn
 rw [dataAt_at hat hx, setData_of hat hx] at hr
 have HRF := Lib.hid hr
 have hdat := (HG.out.files x (List.mem_of_getElem? hx) hxd).2
 obtain ⟨E, m, e, x0, x1, x2, x3, hE, hgl, hm⟩ := HN1.out.ino hvI hx
 have d1 := HN1.out.doer.c1
 rw [hk] at d1
 have d4 := HN1.out.doer.c4
 have d8 := HN1.out.doer.c8
 have hq1 := HN1.out.doer.lt
 have hHX := Lib.hid hx
 have HVI := Lib.hid hvI
 obtain ⟨DT, hDT⟩ : ∃ DT, c.data = DT := ⟨_, rfl⟩
 obtain ⟨OF, hOF⟩ : ∃ OF, c.off = OF := ⟨_, rfl⟩
 rw [hDT] at d8 hds
 rw [hOF] at d4
 have HDT := Lib.hid hDT
 have HOF := Lib.hid hOF
 have hfail : OF < 0 ∨ 256 < OF ∨ 256 < DT.size → Ran B q p c R w (.panicked (faultP 9)) w1 := fun h => by
  have hr := HRF.out
  rw [HDT.out, HOF.out, if_pos h] at hr
  exact HN1.out.fail (by rw [← hr]; simp) (by rw [← hr])
 have HFAIL := Lib.hid hfail
 have hqg : q ≠ g := fun e => by
  obtain ⟨g2, _, _, _, _, hv2, hz2, _⟩ := HN1.out.own.at_ hx
  obtain ⟨gg, _, cur, hvv, _, _, _, hgc, _⟩ := HN1.out.own.rowI.open_ (by have := (List.getElem?_eq_some_iff.1 hz2).1; omega)
  rw [hvI] at hvv
  injection hvv with e1 _ _
  injection e1 with e1
  injection e1 with e1
  subst e1
  exact blk_ne HN1.out.doer.cell hgc (by decide) e
 obtain ⟨g2, c2, E2, m2, e2, hv2, hz, _, _, _, _, _, _, _, xf, _⟩ := HN1.out.own.at_ hx
 have x3f : w1.frozen? ⟨g, i * 4 + 3, none⟩ = false := by
  have hgg : g2 = g := by rw [hvI] at hv2; injection hv2 with e1 _ _; injection e1 with e1; injection e1 with e1; exact e1.symm
  rw [← hgg]
  exact xf _
 have HZ := Lib.hid hz
 clear hr HR hb1 hE hm hat hxn h0 hfp hvI hx hDT hOF hfail hv2 hz xf
 go_wp2_with fail
 refine (in_any OF w1).mono ?_
 rintro e2 w2 ⟨rfl, rfl⟩
 by_cases hin : 0 ≤ OF ∧ OF ≤ 256
 rotate_left
 ·rw [decide_eq_false hin]
  have HIN := Lib.hid hin
  clear hin
  go_wp2_with fail
  refine (throw_yes _ _).mono ?_
  rintro e3 w3 ⟨rfl, rfl⟩
  go_wp2_with fail
  exact panic_end rfl (HFAIL.out (by have := HIN.out; omega))
 rw [decide_eq_true hin]
 have HIN := Lib.hid hin
 clear hin
 go_wp2_with fail
 refine (in_any (DT.size : Int) w1).mono ?_
 rintro e2 w2 ⟨rfl, rfl⟩
 by_cases hin2 : 0 ≤ (DT.size : Int) ∧ (DT.size : Int) ≤ 256
 rotate_left
 ·rw [decide_eq_false hin2]
  have HIN2 := Lib.hid hin2
  clear hin2
  go_wp2_with fail
  refine (throw_yes _ _).mono ?_
  rintro e3 w3 ⟨rfl, rfl⟩
  go_wp2_with fail
  exact panic_end rfl (HFAIL.out (by have := HIN2.out; omega))
 rw [decide_eq_true hin2]
 have hin := HIN.out
 have hr := HRF.out
 rw [HDT.out, HOF.out, if_neg (by omega)] at hr
 obtain ⟨oo, rfl⟩ : ∃ oo : Nat, OF = (oo : Int) := ⟨OF.toNat, by omega⟩
 have HR3 := Lib.hid hr
 obtain ⟨DS, hDS⟩ : ∃ DS, DT.size = DS := ⟨_, rfl⟩
 have ho256 : oo ≤ 256 := by omega
 have hd256 : DT.size ≤ 256 := by omega
 have dw : IntKind.i64.wrap ((oo : Int) + (DT.size : Int)) = (oo : Int) + (DT.size : Int) := by rw [IntKind.wrap_i64]; omega
 clear hin hin2 hr HFAIL HIN hDS
 go_wp2_with fail
 refine (throw_no _ _).mono ?_
 rintro e3 w3 ⟨rfl, rfl⟩
 go_wp2_with fail
 by_cases hbig : 256 < (oo : Int) + (DT.size : Int)
 ·have hr := HR3.out
  rw [if_pos hbig] at hr
  have q1 : decide ((256 : Int) < (oo : Int) + (DT.size : Int)) = true := decide_eq_true hbig
  have HRB := Lib.hid hr
  clear hr hbig
  refine wp_region_quiet_tail 13 (by kernel_rfl) (by kernel_rfl) ?_
  simp only [List.take_succ_cons, List.take_zero, List.drop_succ_cons, List.drop_zero]
  repeat (go_big_quiet_step (fail))
  refine wpQuiet_nil ?_
  go_wp2_with fail
  refine (throw_yes _ _).mono ?_
  rintro e3 w3 ⟨rfl, rfl⟩
  go_wp2_with fail
  exact panic_end rfl ((HN1.out.step (Cv.drewN_below (Below.refl _ _) 1)).fail (by rw [← HRB.out]; simp) (by rw [← HRB.out]))
 have hr := HR3.out
 rw [if_neg hbig] at hr
 have q1 : decide ((256 : Int) < (oo : Int) + (DT.size : Int)) = false := decide_eq_false hbig
 obtain ⟨NT, hNT, hlay⟩ : ∃ NT, ((({ s with inos := s.inos.set i { x with data := NT } } : St), ({ num := (DT.size : Int) } : Re)) = R) ∧ ∀ w, Calls Tryz.prog 144 #[.string x.data, .int .i64 (oo : Int), .string DT] w fun e w' => e = .returned (.string NT) ∧ Below w.heap.size w w' := by
  by_cases h0 : DT.size = 0
  ·refine ⟨x.data, ?_, fun w => (lay_none x.data oo DT w h0).mono (by rintro e w' ⟨rfl, rfl⟩; exact ⟨rfl, Below.refl _ _⟩)⟩
   rw [if_pos h0] at hr
   rw [← hr, h0]
   have hself : s.inos.set i { x with data := x.data } = s.inos := by
    apply List.ext_getElem?
    intro j
    rw [List.getElem?_set]
    by_cases e : i = j
    ·subst e
     rw [if_pos rfl, if_pos (List.getElem?_eq_some_iff.1 hHX.out).1, hHX.out]
    ·rw [if_neg e]
   rw [hself]
   rfl
  ·rw [if_neg h0, Int.toNat_natCast] at hr
   exact ⟨_, hr, fun w => lay_any x.data oo DT w h0 (by omega) (by omega) (by omega)⟩
 have hs := HSZ.out
 rw [← hNT] at hs
 have HS := Lib.hid hs
 have HNT := Lib.hid hNT
 have HLAY := Lib.hid hlay
 have hdr : Below w1.heap.size w1 w1.drew := Cv.drewN_below (Below.refl _ _) 1
 clear hr hbig HR3 hs hNT hlay
 refine wp_region_quiet_tail 13 (by kernel_rfl) (by kernel_rfl) ?_
 simp only [List.take_succ_cons, List.take_zero, List.drop_succ_cons, List.drop_zero]
 repeat (go_big_quiet_step (fail))
 refine wpQuiet_nil ?_
 go_wp2_with fail
 refine (throw_no _ _).mono ?_
 rintro e3 w3 ⟨rfl, rfl⟩
 generalize hW : w1.drew = w2 at *
 have HN2 := Lib.hid (HN1.out.step hdr)
 have f3 := (hdr.cell (p := ⟨g, i * 4 + 3, none⟩) hgl).trans x3
 have f3f : w2.frozen? ⟨g, i * 4 + 3, none⟩ = false := (hdr.frozen (p := ⟨g, i * 4 + 3, none⟩) hgl).trans x3f
 have e4 := (hdr.cell (p := ⟨q, 4, none⟩) hq1).trans d4
 have e8 := (hdr.cell (p := ⟨q, 8, none⟩) hq1).trans d8
 have hq2 : q < w2.heap.size := HN2.out.doer.lt
 have hg2 : g < w2.heap.size := Nat.lt_of_lt_of_le hgl hdr.size
 clear hW hdr x0 x1 x2 x3 d1 d4 d8 x3f
 go_wp2_with fail
 go_region_law (go_simp; go_at_call 144; (refine (HLAY.out w2.drew).mono ?_; rintro e5 w5 ⟨rfl, hb5⟩; have hb5' : Below w2.heap.size w2 w5 := (Cv.drewN_below (Below.refl w2.heap.size w2) 1).trans hb5; have q4 := (hb5'.cell (p := ⟨q, 4, none⟩) hq2).trans e4; have q8 := (hb5'.cell (p := ⟨q, 8, none⟩) hq2).trans e8; have y3 := (hb5'.cell (p := ⟨g, i * 4 + 3, none⟩) hg2).trans f3; have yf : w5.frozen? ⟨g, i * 4 + 3, none⟩ = false := (hb5'.frozen (p := ⟨g, i * 4 + 3, none⟩) hg2).trans f3f; have k4 : (w5.setCell ⟨g, i * 4 + 3, none⟩ (.string NT)).cell? ⟨q, 4, none⟩ = some (.int .i64 (oo : Int)) := (World.cell?_setCell_other w5 ⟨g, i * 4 + 3, none⟩ ⟨q, 4, none⟩ _ (by simp [hqg, hqg.symm])).trans q4; have k8 : (w5.setCell ⟨g, i * 4 + 3, none⟩ (.string NT)).cell? ⟨q, 8, none⟩ = some (.string DT) := (World.cell?_setCell_other w5 ⟨g, i * 4 + 3, none⟩ ⟨q, 8, none⟩ _ (by simp [hqg, hqg.symm])).trans q8))
 all_goals (
  have HN5 := Lib.hid (HN2.out.step hb5')
  have hfin := HN5.out.own.setB HN5.out.hB' HZ.out (d := NT) (by have h := HS.out; exact h) HVI.out
  obtain ⟨W, hW⟩ : ∃ W, w5.setCell ⟨g, i * 4 + 3, none⟩ (.string NT) = W := ⟨_, rfl⟩
  rw [hW] at hfin k8 ⊢
  have hDW := HN5.out.doer.turns HN5.out.ne hfin.2
  have g11 := hDW.r11
  have z11 := hDW.fz 11
  have HFIN := Lib.hid hfin
  have HDW := Lib.hid hDW
  clear hb5 hb5' hfin hW hDW k4
  go_wp2_with fail
  go_returns
  exact ⟨(HN5.out.low.trans HFIN.out.2.below).trans (low_set HN5.out.hq), .inr ⟨by rw [← HNT.out], rfl, ⟨_, _, _, _, by rw [← HNT.out]; exact HDW.out.set_own HFIN.out.1⟩, .slice none 0 0, by rw [← HNT.out]; exact HDW.out.setNum _, by rw [← HNT.out]; exact ⟨rfl, .inl ⟨none, rfl, rfl⟩⟩⟩⟩)
end Go.Proofs.YtilkhmhgjbhfnaaGreatDoor
namespace Go.Proofs.YtilkhmhgjbhfnaaGreatDoor
open Go.RowKit
set_option maxRecDepth 100000 in
set_option maxHeartbeats 8000000 in
theorem mlink_any (B q p : Nat) (s : St) (c : Ca) (zs : List (Ino × Value)) (vI vO vM : Value) (w : World) (hN : Now B q p s c zs vI vO vM w w) (hg : Good s) (hp1 : c.path.size ≤ 140737488355328) (hp2 : c.path2.size ≤ 140737488355328) :
  Calls Tryz.prog 91 #[.pointer (some ⟨q, 0, .none⟩)] w (Ran B q p c (linkV s c) w) := by
 obtain ⟨R, hR⟩ : ∃ R, linkV s c = R := ⟨_, rfl⟩
 have hsz := link_sized hg c
 rw [hR] at hsz ⊢
 unfold linkV at hR
 have HR := Lib.hid hR
 have HSZ := Lib.hid hsz
 have HN0 := Lib.hid hN
 have HG := Lib.hid hg
 have d6 := hN.doer.c6
 clear hR hN hg hsz
 go_enter Tryz.func91, Tryz.ntmps91
 go_wp2_with fail
 refine (mat_any B q p s c 0 0 false ⟨#[]⟩ (.slice none 0 0) zs vI vO vM c.path w HN0.out.doer HN0.out.own HG.out hp1).mono ?_
 rintro e1 w1 ⟨hb1, ⟨hc, rfl⟩ | ⟨hc, g, n, d, i, x, hvI, hx, hxn, rfl⟩⟩
 ·have hr := HR.out
  rw [if_pos hc] at hr
  go_simp
  exact panic_end rfl ((HN0.out.step hb1).fail (by rw [← hr]; exact hc) (by rw [← hr]))
 have hr := HR.out
 rw [if_neg (by rw [hc]; simp)] at hr
 have HN1 := Lib.hid (HN0.out.step hb1)
 have hat := HG.out.at_ hx hxn
 rw [dirAt_at hat hx] at hr
 have HR1 := Lib.hid hr
 obtain ⟨E, m, e, x0, x1, x2, x3, hE, hgl, hm⟩ := HN1.out.ino hvI hx
 have HX := Lib.hid hx
 have HXN := Lib.hid hxn
 have HVI := Lib.hid hvI
 clear hr hb1 d6 hE hx hxn hvI hat HR hm
 cases hd : x.dir
 rotate_left
 ·have hr := HR1.out
  rw [if_pos hd] at hr
  rw [hd] at x1
  go_wp2_with fail
  refine (throw_yes _ _).mono ?_
  rintro e3 w3 ⟨rfl, rfl⟩
  go_wp2_with fail
  exact panic_end rfl (HN1.out.fail (by rw [← hr]; simp) (by rw [← hr]))
 have hr := HR1.out
 rw [if_neg (by rw [hd]; simp)] at hr
 have HR2 := Lib.hid hr
 rw [hd] at x1
 have d7 := HN1.out.doer.c7
 clear hr HR1 hd
 go_wp2_with fail
 refine (throw_no _ _).mono ?_
 rintro e3 w3 ⟨rfl, rfl⟩
 go_wp2_with fail
 refine (mparent_any B q p s c 0 0 false ⟨#[]⟩ (.slice none 0 0) zs vI vO vM c.path2 w1 HN1.out.doer HN1.out.own HG.out hp2).mono ?_
 rintro e4 w4 ⟨hb4, ⟨hc4, rfl⟩ | ⟨hc4, g', n', d', j, y, hvI', hy, hyn, hyd, rfl⟩⟩
 ·have hr := HR2.out
  rw [if_pos hc4] at hr
  go_simp
  exact panic_end rfl ((HN1.out.step hb4).fail (by rw [← hr]; exact hc4) (by rw [← hr]))
 have hgg : g' = g := by have h := HVI.out; rw [hvI'] at h; injection h with e1 _ _; injection e1 with e1; injection e1 with e1
 subst hgg
 obtain ⟨NM, hNM⟩ : ∃ NM, (parentV s.inos c.path2).2.1 = NM := ⟨_, rfl⟩
 have hnms : NM.size ≤ 140737488355328 := by rw [← hNM]; have := parentV_size s.inos c.path2; omega
 have hr := HR2.out
 rw [if_neg (by rw [hc4]; simp), hNM] at hr
 rw [hNM]
 have hatj := HG.out.at_ hy hyn
 rw [entV_at hatj hy, fullV_at hatj hy, setEnts_at hatj hy, ← HXN.out] at hr
 have HR3 := Lib.hid hr
 have HN4 := Lib.hid (HN1.out.step hb4)
 have x04 := (hb4.cell (p := ⟨g', i * 4, none⟩) hgl).trans x0
 obtain ⟨E4, m4, e4', y0, y1, y2, y3, hE4, hgl4, hm4⟩ := HN4.out.ino HVI.out hy
 have HY := Lib.hid hy
 have hmem := List.mem_of_getElem? hy
 have hlen : x.ents.length ≤ 32 := HG.out.ents_len (List.mem_of_getElem? HX.out)
 have hleny : y.ents.length ≤ 32 := HG.out.ents_len hmem
 have hm32 : m4 ≤ 1000000 := by omega
 have HE4 := Lib.hid hE4
 have HRE := Lib.hid (HG.out.riseE hmem)
 have HTX := Lib.hid (HG.out.text hmem)
 have HMEM := Lib.hid hmem
 clear hr HR2 hb4 hNM hE4 hy hyn hatj x0 x1 x2 x3 hmem d7 hm4 hc4 hvI'
 go_wp2_with fail
 refine (mentry_any y.ents E4 m4 e4' NM _ HE4.out (by omega) HRE.out).mono ?_
 rintro e5 w5 ⟨k, b, rfl, hb5, hpos⟩
 have HN5 := Lib.hid (HN4.out.step hb5)
 have y25 := (hb5.cell (p := ⟨g', j * 4 + 2, none⟩) hgl4).trans y2
 have x05 := (hb5.cell (p := ⟨g', i * 4, none⟩) hgl4).trans x04
 have HE5 := Lib.hid (HE4.out.below hb5)
 have hgl5 : g' < w5.heap.size := Nat.lt_of_lt_of_le hgl4 hb5.size
 rcases HG.out.entIs HMEM.out hpos with ⟨rfl, hz⟩ | ⟨rfl, hz, en, hen, henn, hennm⟩
 rotate_left
 ·have hr := HR3.out
  rw [if_pos hz] at hr
  clear hb5 hpos x04 y0 y1 y2 y3 hz hen henn hennm
  go_wp2_with fail
  refine (throw_yes _ _).mono ?_
  rintro e3 w3 ⟨rfl, rfl⟩
  go_wp2_with fail
  exact panic_end rfl (HN5.out.fail (by rw [← hr]; simp) (by rw [← hr]))
 have hr := HR3.out
 rw [if_neg (by rw [hz]; simp)] at hr
 have HR4 := Lib.hid hr
 have hno : ∀ e ∈ y.ents, e.name ≠ NM := fun e he hn => by
  obtain ⟨j', hj'⟩ := List.getElem?_of_mem he
  have hh : ∃ e, y.ents[k]? = some e ∧ e.name = NM := by
   have : k = j' := by
    rcases Nat.lt_trichotomy k j' with h | h | h
    ·cases hk : y.ents[k]? with
     | none =>
      have h2 := (List.getElem?_eq_some_iff.1 hj').1
      rw [List.getElem?_eq_none_iff] at hk
      omega
     | some z =>
      have h2 := HRE.out k j' z e h hk hj'
      rw [hn, hpos.hi k z (Nat.le_refl _) hk] at h2
      cases h2
    ·exact h
    ·have h1 := hpos.lo j' e h hj'
     rw [hn, ltN_irrefl] at h1
     cases h1
   subst this
   exact ⟨e, hj', hn⟩
  have := hpos.of_ hh
  cases this
 have HNO := Lib.hid hno
 clear hr HR3 hb5 hpos x04 y0 y1 y2 y3 hz hno
 go_wp2_with fail
 refine (throw_no _ _).mono ?_
 rintro e3 w3 ⟨rfl, rfl⟩
 go_wp2_with fail
 refine (mfull_any g' (j * 4) y.ents E4 m4 e4' NM ⟨#[]⟩ w5 y25 HE5.out (by omega) HTX.out hnms).mono ?_
 rintro e6 w6 ⟨rfl, hb6⟩
 have HN6 := Lib.hid (HN5.out.step hb6)
 have x06 := (hb6.cell (p := ⟨g', i * 4, none⟩) hgl5).trans x05
 obtain ⟨FB, hFB⟩ : ∃ FB, decide (4 ≤ fullE y.ents NM ⟨#[]⟩) = FB := ⟨_, rfl⟩
 have hr := HR4.out
 rw [show txt [] = ⟨#[]⟩ from rfl, hFB] at hr
 rw [hFB]
 have HR5 := Lib.hid hr
 clear hr HR4 hb6 hFB x05 y25
 cases FB
 rotate_left
 ·have hr := HR5.out
  rw [if_pos rfl] at hr
  go_wp2_with fail
  refine (throw_yes _ _).mono ?_
  rintro e3 w3 ⟨rfl, rfl⟩
  go_wp2_with fail
  exact panic_end rfl (HN6.out.fail (by rw [← hr]; simp) (by rw [← hr]))
 have hr := HR5.out
 rw [if_neg (by simp)] at hr
 have HR6 := Lib.hid hr
 have hs := HSZ.out
 rw [← hr] at hs
 have HS := Lib.hid hs
 clear hr HR5 hs
 go_wp2_with fail
 refine (throw_no _ _).mono ?_
 rintro e3 w3 ⟨rfl, rfl⟩
 go_wp2_with fail
 refine (mput_any B p s zs vI vO vM j y NM x.num g' n d w6 HN6.out.own HN6.out.hB' HY.out HVI.out HRE.out HNO.out (by omega) HS.out).mono ?_
 rintro e7 w7 ⟨rfl, ht, zs', ho⟩
 go_wp2_with fail
 go_returns
 exact HN6.out.done (by rw [← HR6.out]) rfl ht ⟨zs', vI, vO, vM, by rw [← HR6.out]; exact ho⟩
end Go.Proofs.YtilkhmhgjbhfnaaGreatDoor
namespace Go.Proofs.YtilkhmhgjbhfnaaGreatDoor
open Go.RowKit
def removeV (s : St) (c : Ca) : St × Re :=
 if (parentV s.inos c.path).2.2 ≠ 0 then (s, { code := (parentV s.inos c.path).2.2 })
 else if entV s.inos (parentV s.inos c.path).1 (parentV s.inos c.path).2.1 = 0 then (s, { code := 1 })
 else if c.kind = 9 ∧ dirAt s.inos (entV s.inos (parentV s.inos c.path).1 (parentV s.inos c.path).2.1) = true then (s, { code := 8 })
 else if c.kind = 10 ∧ dirAt s.inos (entV s.inos (parentV s.inos c.path).1 (parentV s.inos c.path).2.1) = false then (s, { code := 7 })
 else if c.kind = 10 ∧ entsOf s.inos (entV s.inos (parentV s.inos c.path).1 (parentV s.inos c.path).2.1) ≠ [] then (s, { code := 3 })
 else (sweepV { s with inos := setEnts s.inos (parentV s.inos c.path).1 fun es => dropE es (parentV s.inos c.path).2.1 } (entV s.inos (parentV s.inos c.path).1 (parentV s.inos c.path).2.1), {})
theorem namesV_remove (s : St) (c : Ca) (hk : c.kind = 9 ∨ c.kind = 10) : namesV s c = removeV s c := by
 unfold namesV removeV
 rw [if_neg (by omega)]
 split
 ·rfl
 ·split
  ·rfl
  ·rw [if_neg (by omega)]
set_option maxRecDepth 100000 in
set_option maxHeartbeats 16000000 in
theorem mremove_any (B q p : Nat) (s : St) (c : Ca) (zs : List (Ino × Value)) (vI vO vM : Value) (w : World) (hN : Now B q p s c zs vI vO vM w w) (hg : Good s) (hp1 : c.path.size ≤ 140737488355328) (hk : c.kind = 9 ∨ c.kind = 10) :
  Calls Tryz.prog 92 #[.pointer (some ⟨q, 0, .none⟩)] w (Ran B q p c (removeV s c) w) := by
 obtain ⟨R, hR⟩ : ∃ R, removeV s c = R := ⟨_, rfl⟩
 have hsz := names_sized hg c
 rw [namesV_remove s c hk] at hsz
 have hsd := (Small.dropE hg.small (parentV s.inos c.path).1 (parentV s.inos c.path).2.1).sized (by omega) (by omega) (by omega)
 rw [hR] at hsz ⊢
 unfold removeV at hR
 have HR := Lib.hid hR
 have HSZ := Lib.hid hsz
 have HSD := Lib.hid hsd
 have HN0 := Lib.hid hN
 have HG := Lib.hid hg
 have d6 := hN.doer.c6
 clear hR hN hg hsz hsd
 go_enter Tryz.func92, Tryz.ntmps92
 go_wp2_with fail
 refine (mparent_any B q p s c 0 0 false ⟨#[]⟩ (.slice none 0 0) zs vI vO vM c.path w HN0.out.doer HN0.out.own HG.out hp1).mono ?_
 rintro e1 w1 ⟨hb1, ⟨hc, rfl⟩ | ⟨hc, g, n, d, i, x, hvI, hx, hxn, hxd, rfl⟩⟩
 ·have hr := HR.out
  rw [if_pos hc] at hr
  go_simp
  exact panic_end rfl ((HN0.out.step hb1).fail (by rw [← hr]; exact hc) (by rw [← hr]))
 obtain ⟨NM, hNM⟩ : ∃ NM, (parentV s.inos c.path).2.1 = NM := ⟨_, rfl⟩
 have hat := HG.out.at_ hx hxn
 have hr := HR.out
 rw [if_neg (by rw [hc]; simp), hNM, entV_at hat hx, setEnts_at hat hx] at hr
 have hsd := HSD.out
 rw [hNM, setEnts_at hat hx] at hsd
 rw [hNM]
 have HR1 := Lib.hid hr
 have HSD1 := Lib.hid hsd
 have HN1 := Lib.hid (HN0.out.step hb1)
 have hmem := List.mem_of_getElem? hx
 have hlen : x.ents.length ≤ 32 := HG.out.ents_len hmem
 have HX := Lib.hid hx
 have HRE := Lib.hid (HG.out.riseE hmem)
 have HMEM := Lib.hid hmem
 obtain ⟨EN, hEN⟩ : ∃ EN, entG x.ents NM = EN := ⟨_, rfl⟩
 have HEN := Lib.hid hEN
 clear hr hsd hb1 d6 hat HR HSD hmem hNM hc hEN
 by_cases hz : EN = 0
 ·have hr := HR1.out
  rw [HEN.out, if_pos hz] at hr
  have hno := entG_zero x.ents NM (fun e he => (HG.out.entNum HMEM.out he).1) (by rw [HEN.out, hz])
  go_wp2_with fail
  refine (mtake_no B p s zs vI vO vM i x NM g n d w1 HN1.out.own HX.out hvI HRE.out hno (by omega)).mono ?_
  rintro e2 w2 ⟨rfl, hb2⟩
  go_simp
  exact panic_end rfl ((HN1.out.step hb2).fail (by rw [← hr]; simp) (by rw [← hr]))
 have hr := HR1.out
 rw [HEN.out, if_neg hz] at hr
 have HR2 := Lib.hid hr
 obtain ⟨j, en, hj, hjn, hje⟩ := entG_some x.ents NM (by rw [HEN.out]; exact hz)
 rw [HEN.out] at hje
 have hem := List.mem_of_getElem? hj
 obtain ⟨k, y, hk0, hy, hyn, hatk⟩ := HG.out.ent HX.out hxd hem
 have hki := HG.out.ent_ne HX.out hxd hem hy hyn
 have hyE : y.num = EN := by rw [hyn, hje]
 rw [hje] at hatk
 rw [dirAt_at hatk hy, entsOf_at hatk hy] at hr
 have HR3 := Lib.hid hr
 have hpos := EnPos.of_name HRE.out hj hjn
 have HPOS := Lib.hid hpos
 have HJ := Lib.hid hj
 have HY := Lib.hid hy
 have HYN := Lib.hid hyn
 have HYE := Lib.hid hyE
 have HJE := Lib.hid hje
 have HKI := Lib.hid hki
 clear hr HR1 HR2 hpos hatk hyn hyE hje hki
 go_wp2_with fail
 refine (mtake_any B p s zs vI vO vM i x en NM g n d w1 HN1.out.own HN1.out.hB' HX.out hvI HRE.out hem hjn (by omega) HSD1.out).mono ?_
 rintro e2 w2 ⟨rfl, ht2, zs2, ho2⟩
 rw [HEN.out]
 obtain ⟨S2, hS2⟩ : ∃ S2 : St, ({ s with inos := s.inos.set i { x with ents := dropE x.ents NM } } : St) = S2 := ⟨_, rfl⟩
 rw [hS2] at ho2
 have hri : RiseI S2.inos := by rw [← hS2]; exact HG.out.riseI.set HX.out rfl
 have hy2 : S2.inos[k]? = some y := by rw [← hS2]; show (s.inos.set i _)[k]? = _; rw [get_set_ne HKI.out]; exact HY.out
 have hat2 : atV S2.inos EN = (k : Int) := by rw [← HYE.out]; exact atV_of_rise hri hy2 rfl
 have hD2 := HN1.out.doer.turns HN1.out.ne ht2
 have hB2 : B ≤ w2.heap.size := Nat.le_trans HN1.out.hB' ht2.below.size
 have d02 := hD2.c0
 have d12 := hD2.c1
 have s02 := ho2.s0
 obtain ⟨g2, c2, E2, m2, e2, hv2, hz2, hgl2, _, hkl2, y0, y1, y2, _, _, _, hE2⟩ := ho2.at_ hy2
 have hgg : g2 = g := by rw [hvI] at hv2; injection hv2 with e1 _ _; injection e1 with e1; injection e1 with e1; exact e1.symm
 subst hgg
 rw [hvI] at s02
 have hnl : n = S2.inos.length := by rw [hvI] at hv2; injection hv2 with _ e1 _
 have HHS2 := Lib.hid hS2
 have HML := Lib.hid hE2.1
 have HNL := Lib.hid hnl
 have HO2 := Lib.hid ho2
 have HD2 := Lib.hid hD2
 have HT2 := Lib.hid ht2
 have HRI := Lib.hid hri
 have HY2 := Lib.hid hy2
 have HAT2 := Lib.hid hat2
 have hq2 := hD2.lt
 have hp2 := ho2.lt
 clear hS2 ho2 ht2 hri hy2 hat2 hD2 hv2 hz2 hE2
 go_wp2_with fail
 refine (mfind_any p S2 EN w2 HO2.out.ptr HRI.out).mono ?_
 rintro e3 w3 ⟨rfl, hb3⟩
 rw [HAT2.out]
 have d03 := (hb3.cell (p := ⟨q, 0, none⟩) hq2).trans d02
 have d13 := (hb3.cell (p := ⟨q, 1, none⟩) hq2).trans d12
 have s03 := (hb3.cell (p := ⟨p, 0, none⟩) hp2).trans s02
 have y13 := (hb3.cell (p := ⟨g2, k * 4 + 1, none⟩) hgl2).trans y1
 have y23 := (hb3.cell (p := ⟨g2, k * 4 + 2, none⟩) hgl2).trans y2
 have HO3 := Lib.hid (HO2.out.below hb3)
 have HD3 := Lib.hid (HD2.out.below hb3)
 have hB3 : B ≤ w3.heap.size := Nat.le_trans hB2 hb3.size
 have HT3 := Lib.hid (HT2.out.trans (Turns.of_below (B := B) (p := p) hb3 hB2))
 have k0 : (0 : Int) ≤ (k : Int) := by omega
 have k1 : (k : Int) < (n : Int) := by omega
 have hq3 := HD3.out.lt
 have hp3 := HO3.out.lt
 clear hb3 d02 d12 s02 y0 y1 y2
 have hfail : ∀ (C : Int) (hc : C ≠ 0) (h : R = (s, { code := C })), Ran B q p c R w (.panicked (faultP C)) w3 := fun C hc h => ⟨HN1.out.low.trans HT3.out.below, .inl ⟨by rw [h]; exact hc, by rw [h]⟩⟩
 have HFAIL := Lib.hid hfail
 clear hfail
 rcases hk with hk | hk
 ·rw [hk] at d13
  cases hyd : y.dir
  rotate_left
  ·have hr := HR3.out
   rw [if_pos ⟨hk, hyd⟩] at hr
   rw [hyd] at y13
   go_wp2_with fail
   refine (throw_yes _ _).mono ?_
   rintro e4 w4 ⟨rfl, rfl⟩
   go_wp2_with fail
   exact panic_end rfl (HFAIL.out 8 (by decide) hr.symm)
  have hr := HR3.out
  rw [if_neg (by rw [hyd]; simp), if_neg (by rw [hk]; simp), if_neg (by rw [hk]; simp), HHS2.out] at hr
  have hs := HSZ.out
  rw [← hr] at hs
  have hsx : Sized (sweepV S2 y.num) := by rw [HYE.out]; exact hs
  have HSX := Lib.hid hsx
  have HR4 := Lib.hid hr
  have HYD := Lib.hid hyd
  rw [hyd] at y13
  clear hr hs hsx hyd y23
  go_wp2_with fail
  refine (throw_no _ _).mono ?_
  rintro e4 w4 ⟨rfl, rfl⟩
  go_wp2_with fail
  have htid := mtidy_any B q p S2 c 0 0 false ⟨#[]⟩ (.slice none 0 0) zs2 vI vO vM k y w3 HD3.out HO3.out hB3 HRI.out HY2.out HYD.out HSX.out
  rw [HYE.out] at htid
  refine htid.mono ?_
  rintro e5 w5 ⟨rfl, ht5, zs5, vI5, ho5⟩
  go_wp2_with fail
  go_returns
  exact HN1.out.done (by rw [← HR4.out]) rfl (HT3.out.trans ht5) ⟨zs5, vI5, vO, vM, by rw [← HR4.out]; exact ho5⟩
 ·rw [hk] at d13
  cases hyd : y.dir
  ·have hr := HR3.out
   rw [if_neg (by rw [hk]; simp), if_pos ⟨hk, hyd⟩] at hr
   rw [hyd] at y13
   go_wp2_with fail
   refine (throw_yes _ _).mono ?_
   rintro e4 w4 ⟨rfl, rfl⟩
   go_wp2_with fail
   exact panic_end rfl (HFAIL.out 7 (by decide) hr.symm)
  have hr := HR3.out
  rw [if_neg (by rw [hk]; simp), if_neg (by rw [hyd]; simp)] at hr
  have HR4 := Lib.hid hr
  have HYD := Lib.hid hyd
  rw [hyd] at y13
  clear hr hyd
  by_cases hm0 : m2 = 0
  rotate_left
  ·have hr := HR4.out
   rw [if_pos ⟨hk, fun h => hm0 (by rw [← HML.out, h]; rfl)⟩] at hr
   have hm1 : decide ((0 : Int) < (m2 : Int)) = true := by rw [decide_eq_true_eq]; omega
   have hm3 : 0 < m2 := by omega
   go_wp2_with fail
   refine (throw_no _ _).mono ?_
   rintro e4 w4 ⟨rfl, rfl⟩
   go_wp2_with fail
   refine (throw_yes _ _).mono ?_
   rintro e4 w4 ⟨rfl, rfl⟩
   go_wp2_with fail
   exact panic_end rfl (HFAIL.out 3 (by decide) hr.symm)
  subst hm0
  have hr := HR4.out
  have hnil : y.ents = [] := List.length_eq_zero_iff.1 HML.out
  rw [if_neg (fun h => h.2 hnil)] at hr
  have hrm := HG.out.rmdir HX.out hxd HPOS.out HJ.out HY.out HYN.out HYD.out
  rw [HJE.out] at hrm
  rw [hrm] at hr
  have hdp : dropI S2.inos EN = (zs2.take k ++ zs2.drop (k + 1)).map Prod.fst := by
   have h := dropI_pos S2.inos k y HRI.out HY2.out
   rw [HYE.out] at h
   rw [h, List.map_append, List.map_take, List.map_drop, HO2.out.inos]
  have hr2 : ({ S2 with inos := (zs2.take k ++ zs2.drop (k + 1)).map Prod.fst }, {}) = R := by
   rw [← hr, ← hdp, ← HHS2.out]
  have hs := HSZ.out
  rw [← hr2] at hs
  have HS := Lib.hid hs
  have HRF := Lib.hid hr2
  have hzl : zs2.length = n := by rw [HNL.out, ← HO2.out.inos, List.length_map]
  have HZL := Lib.hid hzl
  have hkz : k < n := by omega
  have hrow : RowAt B w3 65 4 (.slice (some ⟨g2, 0, none⟩) n d) n (zs2.flatMap inoV) := by
   have h := HO3.out.rowI
   rwa [hzl, hvI] at h
  have HROW : Hid (RowAt B w3.drew 65 4 (.slice (some ⟨g2, 0, none⟩) n d) n (zs2.flatMap inoV)) := hrow
  have fp : ∀ j, w3.frozen? ⟨p, j, none⟩ = false := fun j => frozen_of_row w3 p j _ _ HO3.out.cell
  have hone := one_ino zs2 HO3.out.shape
  have hnQ : some q ≠ rowBlk (.slice (some ⟨g2, 0, none⟩) n d) := fun e => by
   rw [← hvI] at e
   obtain ⟨c1, h1⟩ := HO3.out.bI e.symm
   exact blk_ne HD3.out.cell h1 (by decide) rfl
  have hnP : some p ≠ rowBlk (.slice (some ⟨g2, 0, none⟩) n d) := fun e => by
   rw [← hvI] at e
   obtain ⟨c1, h1⟩ := HO3.out.bI e.symm
   exact blk_ne HO3.out.cell h1 (by decide) rfl
  have kw : IntKind.i64.wrap ((k : Int) + 1) = (k : Int) + 1 := by
   have := HO3.out.sized.big
   have := HNL.out
   rw [IntKind.wrap_i64]; omega
  have HVI := Lib.hid hvI
  clear hr hrm hdp hr2 hs hzl hrow hvI hnil hnl HR4 HFAIL HSD1 HRE HMEM HPOS HY HKI HEN HX HAT2 HY2 HRI HD2 HYN HJ HJE
  go_wp2_with fail
  refine (throw_no _ _).mono ?_
  rintro e4 w4 ⟨rfl, rfl⟩
  go_wp2_with fail
  refine (throw_no _ _).mono ?_
  rintro e4 w4 ⟨rfl, rfl⟩
  go_wp2_with fail
  go_region_with (first
   | (go_at_call 141; (refine (delI_any B n k (.slice (some ⟨g2, 0, none⟩) n d) (zs2.flatMap inoV) w3.drew HROW.out hkz hone).mono ?_; rintro e6 w6 ⟨v', rfl, hrow', hgr, hbl⟩; obtain ⟨A', c9, rfl, hok'⟩ := hrow'.slice; have q6 : w6.cell? ⟨q, 0, none⟩ = some (.pointer (some ⟨p, 0, none⟩)) := (World.cell?_of_block (a := ⟨q, 0, none⟩) (hgr.block q hq3 hnQ)).trans d03; have p6 : w6.cell? ⟨p, 0, none⟩ = some (.slice (some ⟨g2, 0, none⟩) n d) := (World.cell?_of_block (a := ⟨p, 0, none⟩) (hgr.block p hp3 hnP)).trans s03; have f6 : w6.frozen? ⟨p, 0, none⟩ = false := (World.frozen?_of_block (a := ⟨p, 0, none⟩) (hgr.block p hp3 hnP)).trans (fp 0))))
  all_goals (
   have hflat : (zs2.flatMap inoV).take (k * 4) ++ (zs2.flatMap inoV).drop ((k + 1) * 4) = (zs2.take k ++ zs2.drop (k + 1)).flatMap inoV := by
    rw [flat_take inoV 4 (fun _ => rfl), flat_drop inoV 4 (fun _ => rfl), List.flatMap_append]
   have hpl : (zs2.take k ++ zs2.drop (k + 1)).length = n - 1 := by rw [List.length_append, List.length_take, List.length_drop, HZL.out]; omega
   rw [hflat, ← hpl] at hrow'
   have hgr2 := rw_drew hgr
   rw [← HVI.out] at hgr2
   have hfin := HO3.out.setI hB3 hgr2 hrow' (fun y hy => HO3.out.ents y (by rcases List.mem_append.1 hy with h | h; exact List.mem_of_mem_take h; exact List.mem_of_mem_drop h)) (HO3.out.apart.take_drop k) HS.out
   rw [hpl] at hfin
   have HFIN := Lib.hid hfin
   clear hfin hrow' hgr hgr2 hbl hflat
   go_wp2_with fail
   go_returns
   exact HN1.out.done (by rw [← HRF.out]) rfl (HT3.out.trans HFIN.out.2) ⟨_, _, vO, vM, by rw [← HRF.out]; exact HFIN.out.1⟩)
theorem NmAt.take {w : World} {A : Option Addr} {n : Nat} {ts : List (List UInt8)} (h : NmAt w A n ts) {r : Nat} (hr : r ≤ n) : NmAt w A r (ts.take r) := by
 refine ⟨by rw [List.length_take, h.1]; omega, fun h0 => ?_⟩
 obtain ⟨g, off, hA, hg, hc⟩ := h.2 (by omega)
 refine ⟨g, off, hA, hg, fun j hj => ?_⟩
 rw [hc j (by omega)]
 congr 2
 rw [List.getD_eq_getElem?_getD, List.getD_eq_getElem?_getD, List.getElem?_take, if_pos hj]
set_option maxRecDepth 100000 in
set_option maxHeartbeats 8000000 in
theorem mthrough_any (B q p : Nat) (s : St) (c : Ca) (fd num : Int) (dir : Bool) (data : ByteArray) (nv : Value) (zs : List (Ino × Value)) (vI vO vM : Value) (path : ByteArray) (NS : List (List UInt8)) (NU : Int) (w : World) (hD : DoerAt w q p c fd num dir data nv) (hO : Own2 B w p s zs vI vO vM) (hg : Good s) (hs : path.size ≤ 140737488355328) (h0 : (parseL path.data.toList).2 = 0) (hNS : (parseL path.data.toList).1 = NS) (hc : (walkG s.inos NS.dropLast 1).2 = 0) :
  Calls Tryz.prog 147 #[.pointer (some ⟨q, 0, .none⟩), .string path, .int .i64 NU] w fun e w' => e = .returned (.bool (throughV s.inos NS NU)) ∧ Below w.heap.size w w' := by
 have hq := hD.lt
 have d0 := hD.c0
 have hlen : NS.length ≤ 4 := by rw [← hNS]; exact parse_len _
 obtain ⟨TV, hTV⟩ : ∃ TV, throughV s.inos NS NU = TV := ⟨_, rfl⟩
 rw [hTV]
 have HTV := Lib.hid hTV
 have HO := Lib.hid hO
 have HG := Lib.hid hg
 have HNS := Lib.hid hNS
 have HC := Lib.hid hc
 obtain ⟨m, hm⟩ : ∃ m, NS.length = m := ⟨_, rfl⟩
 have HM := Lib.hid hm
 have hm4 : m ≤ 4 := by omega
 have hp := hO.lt
 clear hO hg hD hTV hNS hc hlen hm
 go_enter Tryz.func147, Tryz.ntmps147
 go_wp2_with fail
 refine (mparse_ok path _ hs h0).mono ?_
 rintro e5 w5 ⟨A5, c5, rfl, hc5, hn5, hb5⟩
 rw [HNS.out] at hc5 hn5 ⊢
 rw [HM.out] at hc5 hn5 ⊢
 have HB5 := Lib.hid hb5
 have HO5 := Lib.hid (HO.out.below hb5)
 have d5 := (hb5.cell (p := ⟨q, 0, none⟩) hq).trans d0
 have hq5 : q < w5.heap.size := Nat.lt_of_lt_of_le hq hb5.size
 have hp5 := HO5.out.lt
 have HN5 := Lib.hid hn5
 clear hb5 hn5 d0
 go_wp2_with fail
 go_loopw [15] (fun j wr => ∃ r : Nat, j = .int .i64 r ∧ r ≤ m ∧ Below w5.heap.size w5 wr ∧ ∀ r', r' < r → stepP s.inos NS r' ≠ NU) (fun j _ => m - (intOf j).toNat)
 case atStart => exact ⟨0, rfl, by omega, Below.refl _ _, fun r' h => by omega⟩
 case round =>
  obtain ⟨r, rfl, hr, hbel, hno⟩ := hrel
  have HB := Lib.hid hbel
  have HNO := Lib.hid hno
  have dr := (hbel.cell (p := ⟨q, 0, none⟩) hq5).trans d5
  have HOr := Lib.hid (HO5.out.below hbel)
  have HNr := Lib.hid (HN5.out.below hbel)
  have hqr : q < wr.heap.size := Nat.lt_of_lt_of_le hq5 hbel.size
  clear hbel hno
  by_cases hlt : r < m
  ·have hcr := walk_prefix HG.out (NS := NS) (NS.length - 1 - r) r (by have := HM.out; omega) HC.out
   have hpl := walk_place HG.out (NS.take r) hcr
   obtain ⟨i, x, hk, hx, hxn⟩ := hpl
   obtain ⟨KP, hKP⟩ : ∃ KP, placeG s.inos (walkG s.inos (NS.take r) 1) = KP := ⟨_, rfl⟩
   have HK := Lib.hid hKP
   have HCR := Lib.hid hcr
   have HX := Lib.hid hx
   have hki : KP = (i : Int) := by rw [← hKP, hk]
   have hxs : x.num = stepP s.inos NS r := hxn
   have HXS := Lib.hid hxs
   have HKI := Lib.hid hki
   have HTK := Lib.hid (HNr.out.take (r := r) (by omega))
   have r0 : (0 : Int) ≤ (r : Int) := by omega
   have r1 : (r : Int) ≤ (c5 : Int) := by omega
   have r2 : r ≤ c5 := by omega
   have r3 : (r : Int) < (m : Int) := by omega
   have hnn : A5 ≠ none := fun h => by
    obtain ⟨g, off, hA, _⟩ := HNr.out.2 (by omega)
    rw [h] at hA
    cases hA
   obtain ⟨ad, rfl⟩ : ∃ ad, A5 = some ad := by
    cases A5 with
    | none => exact absurd rfl hnn
    | some ad => exact ⟨ad, rfl⟩
   obtain ⟨gA, oA, sA⟩ := ad
   clear hcr hk hx hKP hki hxs hxn hnn
   go_wp2_with fail
   go_region_held3 (fun w' => w'.cell? ⟨q, 0, none⟩ = some (.pointer (some ⟨p, 0, none⟩)))
    (first | go_keep | (rw [hb6.cell (by simp; omega)]; simp [*]))
    (first
     | (go_at_call 185; refine (mwalk_any p s (some ⟨gA, oA, sA⟩) r c5 (NS.take r) _ (HOr.out.ptr.below (Cv.drewN_below (Below.refl _ _) 1)) HG.out (HTK.out.below (Cv.drewN_below (Below.refl _ _) 1)) (by omega)).mono ?_; rintro e6 w6 ⟨rfl, hb6, _⟩; rw [HK.out, HCR.out]))
   have hb7 : Below wr.heap.size wr w6 := Cv.next (Cv.drewN_below (Below.refl _ _) 1) hb6
   have HB7 := Lib.hid (Cv.next HB.out hb7)
   have HO7 := Lib.hid (HOr.out.below hb7)
   have d7 := (hb7.cell (p := ⟨q, 0, none⟩) hqr).trans dr
   have p7 := HO7.out.s0
   obtain ⟨g, cc, E, m2, d2, hv, _, hgl, _, hil, x0, _⟩ := HO7.out.at_ HX.out
   rw [hv] at p7
   rw [HKI.out]
   have i0 : (0 : Int) ≤ (i : Int) := by omega
   have i1 : (i : Int) < (s.inos.length : Int) := by omega
   clear hb6 hb7 hv
   by_cases he : x.num = NU
   ·have qe : (x.num == NU) = true := by rw [beq_iff_eq]; exact he
    have ht : TV = true := by
     rw [← HTV.out]
     unfold throughV
     rw [List.any_eq_true]
     exact ⟨r, List.mem_range.2 (by have := HM.out; omega), by rw [← HXS.out]; exact qe⟩
    subst ht
    clear he
    go_wp2_with fail
    go_ret
    exact ⟨rfl, Cv.next HB5.out HB7.out⟩
   ·have qe : (x.num == NU) = false := by rw [beq_eq_false_iff_ne]; exact he
    have HE := Lib.hid he
    clear he
    go_wp2_with fail
    go_roundw
    case rel => exact ⟨r + 1, by go_num, by omega, HB7.out, fun r' hr' => by
     by_cases e : r' = r
     ·rw [e, ← HXS.out]; exact HE.out
     ·exact HNO.out r' (by omega)⟩
    case measure => simp [intOf]; omega
  ·have hrm : r = m := by omega
   subst hrm
   have hf : TV = false := by
    rw [← HTV.out]
    unfold throughV
    rw [Bool.eq_false_iff]
    intro h
    rw [List.any_eq_true] at h
    obtain ⟨r', h1, h2⟩ := h
    rw [List.mem_range] at h1
    rw [beq_iff_eq] at h2
    exact HNO.out r' (by have := HM.out; omega) h2
   subst hf
   have q9 : decide ((r : Int) < (r : Int)) = false := by rw [decide_eq_false_iff_not]; omega
   go_wp2_with fail
   go_ret
   exact ⟨rfl, Cv.next HB5.out HB.out⟩
end Go.Proofs.YtilkhmhgjbhfnaaGreatDoor
