/- The model's run of Close. -/
import Derived.Test.YtndcloohcfhejaaGreatM19
import Derived.Test.YtndcloohcfhejaaGreatM21
import Derived.Test.YtndcloohcfhejaaGreatM22
import Derived.Test.YtndcloohcfhejaaGreatMoOpenD
import Derived.Test.YtndcloohcfhejaaGreatM12
import Derived.Deep.RegionLaw
set_option linter.unusedVariables false
set_option linter.unusedSimpArgs false
namespace Go.Proofs.YtndcloohcfhejaaGreat
open Go.RowKit
theorem dropD_none : ∀ (l : List Ds) (core fd : Int), (∀ x ∈ l, ¬ (x.core = core ∧ x.fd = fd)) → dropD l core fd = l
 | [], _, _, _ => rfl
 | y :: ys, core, fd, hl => by
  unfold dropD
  rw [if_neg (hl y (by simp)), dropD_none ys core fd (fun x hx => hl x (by simp [hx]))]
theorem RiseD.tail {e : Ds} {t : List Ds} (h : RiseD (e :: t)) : RiseD t := fun i j x y hij hx hy => h (i + 1) (j + 1) x y (by omega) (by simpa using hx) (by simpa using hy)
theorem dropD_pos : ∀ (ds : List Ds) (k : Nat) (d : Ds), RiseD ds → ds[k]? = some d → dropD ds d.core d.fd = ds.take k ++ ds.drop (k + 1)
 | [], k, d, hr, h => by simp at h
 | e :: t, 0, d, hr, h => by
  have : e = d := by simpa using h
  subst this
  unfold dropD
  rw [if_pos ⟨rfl, rfl⟩, dropD_none t e.core e.fd (fun y hy e2 => ?_)]
  ·rfl
  ·obtain ⟨j, hj⟩ := List.getElem?_of_mem hy
   have h1 := hr 0 (j + 1) e y (by omega) rfl (by simpa using hj)
   unfold ltD at h1
   omega
 | e :: t, k + 1, d, hr, h => by
  have hd : t[k]? = some d := by simpa using h
  have h1 := hr 0 (k + 1) e d (by omega) rfl h
  unfold ltD at h1
  unfold dropD
  rw [if_neg (by omega), dropD_pos t k d hr.tail hd]
  rfl
set_option maxRecDepth 100000 in
set_option maxHeartbeats 16000000 in
theorem mrun_3 (B q p : Nat) (s : St) (c : Ca) (zs : List (Ino × Value)) (vI vO vM : Value) (w : World) (hN : Now B q p s c zs vI vO vM w w) (hg : Good s) (hk : c.kind = 3) :
  Calls Tryz.prog 34 #[.pointer (some ⟨q, 0, .none⟩)] w (Ran B q p c (byFdV s c) w) := by
 obtain ⟨R, hR⟩ : ∃ R, byFdV s c = R := ⟨_, rfl⟩
 have hsz := fd_sized hg c
 rw [hR] at hsz ⊢
 unfold byFdV at hR
 have d1 := hN.doer.c1
 rw [hk] at d1
 have HN := Lib.hid hN
 have HR := Lib.hid hR
 have HG := Lib.hid hg
 have HK := Lib.hid hk
 have HSZ := Lib.hid hsz
 clear hN hk hR hg hsz
 go_enter Tryz.func34, Tryz.ntmps34
 go_wp2_with fail
 refine (mfile_any B q p s c 0 0 false ⟨#[]⟩ (.slice none 0 0) zs vI vO vM w HN.out.doer HN.out.own HG.out).mono ?_
 rintro e1 w1 ⟨hb1, ⟨h0, rfl⟩ | ⟨h0, g, n, d, i, x, k, hvI, hx, hxn, hxd, hfp, rfl⟩⟩
 ·have hr := HR.out
  rw [if_pos h0] at hr
  go_simp
  exact panic_end rfl ((HN.out.step hb1).fail (by rw [← hr]; simp) (by rw [← hr]))
 have hr := HR.out
 rw [if_neg h0, if_pos HK.out, ← hxn] at hr
 have HN1 := Lib.hid (HN.out.step hb1)
 obtain ⟨y, hy, hyc, hyf, _⟩ := fdP_some _ _ _ _ hfp
 have hdp := dropD_pos s.opn k y HG.out.riseD hy
 rw [hyc, hyf] at hdp
 obtain ⟨ds, hds⟩ : ∃ ds, dropD s.opn c.core c.fd = ds := ⟨_, rfl⟩
 rw [hds] at hr hdp
 obtain ⟨S2, hS2⟩ : ∃ S2 : St, ({ s with opn := ds } : St) = S2 := ⟨_, rfl⟩
 rw [hS2] at hr
 have hs := HSZ.out
 rw [← hr] at hs
 have HS := Lib.hid hs
 have HRF := Lib.hid hr
 have hso : Sized { s with opn := ds } := ((Small.opn HG.out.small ds (by
  rw [hdp, List.length_append, List.length_take, List.length_drop]
  have := HG.out.opn_len
  omega)).sized (by omega) (by omega) (by omega))
 obtain ⟨AO, cO, hvO, _, hOD⟩ := HN1.out.own.rowO.descs
 obtain ⟨ML, hML⟩ : ∃ ML, s.opn.length = ML := ⟨_, rfl⟩
 have s11 := HN1.out.own.s1
 rw [hvO, hML] at s11
 have d01 := HN1.out.doer.c0
 have hkm : k < ML := by have := (List.getElem?_eq_some_iff.1 hy).1; omega
 have hml : ML ≤ 32 := by have := HG.out.opn_len; omega
 have hrow : RowAt B w1.drew 79 3 (.slice AO ML cO) ML (s.opn.flatMap dsV) := by
  have h := HN1.out.own.rowO
  rw [hvO, hML] at h
  exact h
 have hq1 := HN1.out.doer.lt
 have hp1 := HN1.out.own.lt
 have hqp := HN1.out.ne
 have hnQ : some q ≠ rowBlk (.slice AO ML cO) := fun e => by
  obtain ⟨_, _, c1, h1⟩ := hrow.blk q e.symm
  exact blk_ne HN1.out.doer.cell h1 (by decide) rfl
 have hnP : some p ≠ rowBlk (.slice AO ML cO) := fun e => by
  obtain ⟨_, _, c1, h1⟩ := hrow.blk p e.symm
  exact blk_ne HN1.out.own.cell h1 (by decide) rfl
 have hflat : (s.opn.flatMap dsV).take (k * 3) ++ (s.opn.flatMap dsV).drop ((k + 1) * 3) = ds.flatMap dsV := by
  rw [flat_take dsV 3 (fun _ => rfl), flat_drop dsV 3 (fun _ => rfl), hdp, List.flatMap_append]
 have hpl : ds.length = ML - 1 := by rw [hdp, List.length_append, List.length_take, List.length_drop]; omega
 have fp : w1.frozen? ⟨p, 1, none⟩ = false := frozen_of_row w1 p 1 _ _ HN1.out.own.cell
 have kw : IntKind.i64.wrap ((k : Int) + 1) = (k : Int) + 1 := by rw [IntKind.wrap_i64]; omega
 have HROW := Lib.hid hrow
 have HFL := Lib.hid hflat
 have HPL := Lib.hid hpl
 have HSO := Lib.hid hso
 have HS2 := Lib.hid hS2
 have HVO : Hid (vO = .slice AO ML cO) := by rw [hvO, hML]; exact rfl
 have HX := Lib.hid hx
 have HXD := Lib.hid hxd
 have HVI := Lib.hid hvI
 clear hr hs hb1 hdp hds hS2 hso hvO hOD hML hrow hflat hpl hy hyc hyf hfp h0 hx hxn hxd hvI d1
 go_wp2_with fail
 go_region_law (go_simp; go_at_call 50; (refine (delD_any B ML k (.slice AO ML cO) (s.opn.flatMap dsV) w1.drew HROW.out hkm (one_ds _)).mono ?_; rintro e6 w6 ⟨v', rfl, hrow', hgr, hbl⟩; obtain ⟨A', c9, rfl, hok'⟩ := hrow'.slice; have q6 : w6.cell? ⟨q, 0, none⟩ = some (.pointer (some ⟨p, 0, none⟩)) := (World.cell?_of_block (a := ⟨q, 0, none⟩) (hgr.block q hq1 hnQ)).trans d01; have p6 : w6.cell? ⟨p, 1, none⟩ = some (.slice AO ML cO) := (World.cell?_of_block (a := ⟨p, 1, none⟩) (hgr.block p hp1 hnP)).trans s11; have f6 : w6.frozen? ⟨p, 1, none⟩ = false := (World.frozen?_of_block (a := ⟨p, 1, none⟩) (hgr.block p hp1 hnP)).trans fp; have q9 : (w6.setCell ⟨p, 1, none⟩ (.slice A' (ML - 1) c9)).cell? ⟨q, 0, none⟩ = some (.pointer (some ⟨p, 0, none⟩)) := (World.cell?_setCell_other w6 ⟨p, 1, none⟩ ⟨q, 0, none⟩ _ (by simp [hqp, hqp.symm])).trans q6))
 all_goals (
  rw [HFL.out] at hrow'
  rw [← HPL.out] at hrow' hbl
  have hgr2 := rw_drew hgr
  rw [← HVO.out] at hgr2
  have hfin := HN1.out.own.setO HN1.out.hB' hgr2 hrow' HSO.out
  rw [HPL.out] at hfin
  obtain ⟨W, hW⟩ : ∃ W, w6.setCell ⟨p, 1, none⟩ (.slice A' (ML - 1) c9) = W := ⟨_, rfl⟩
  rw [hW] at hfin ⊢
  rw [HS2.out] at hfin
  have hDW := HN1.out.doer.turns HN1.out.ne hfin.2
  have hBW : B ≤ W.heap.size := Nat.le_trans HN1.out.hB' hfin.2.below.size
  have hx2 : S2.inos[i]? = some x := by rw [← HS2.out]; exact HX.out
  have hri : RiseI S2.inos := by rw [← HS2.out]; exact HG.out.riseI
  obtain ⟨g2, c2, E2, m2, e2, hv2, _, _, _, _, y0, _⟩ := hfin.1.at_ hx2
  have hgg : g2 = g := by have h := HVI.out; rw [hv2] at h; injection h with e1 _ _; injection e1 with e1; injection e1 with e1
  subst hgg
  have htid := mtidy_any B q p S2 c 0 0 false ⟨#[]⟩ (.slice none 0 0) zs vI (.slice A' (ML - 1) c9) vM i x W hDW hfin.1 hBW hri hx2 HXD.out HS.out
  have HFIN := Lib.hid hfin
  have HTID := Lib.hid htid
  clear hfin hrow' hgr hgr2 hbl hW hDW htid hx2 hri hv2 q9
  go_wp2_with fail
  refine HTID.out.mono ?_
  rintro e7 w7 ⟨rfl, ht7, zs7, vI7, ho7⟩
  go_wp2_with fail
  go_returns
  exact HN1.out.done (by rw [← HRF.out]) rfl (HFIN.out.2.trans ht7) ⟨zs7, vI7, _, vM, by rw [← HRF.out]; exact ho7⟩)
end Go.Proofs.YtndcloohcfhejaaGreat
