/- Parts of the proof, side by side: MoClose, MoInsI, MoNew. -/
import Derived.Test.YtilkhmhgjbhfnaaGreatDoorM23
import Derived.Test.YtilkhmhgjbhfnaaGreatDoorM25
import Derived.Test.YtilkhmhgjbhfnaaGreatDoorM14
import Derived.Test.YtilkhmhgjbhfnaaGreatDoorM27
import Derived.Test.YtilkhmhgjbhfnaaGreatDoorM10
import Derived.Deep.RegionLaw
import Derived.Test.YtilkhmhgjbhfnaaGreatDoorM11
import Derived.Test.YtilkhmhgjbhfnaaGreatDoorM03
import Derived.Test.YtilkhmhgjbhfnaaGreatDoorM05
import Derived.Test.YtilkhmhgjbhfnaaGreatDoorM13
set_option linter.unusedVariables false
set_option linter.unusedSimpArgs false
namespace Go.Proofs.YtilkhmhgjbhfnaaGreatDoor
open Go.RowKit
theorem dropD_none : ∀ (l : List Ds) (core fd : Int), (∀ x ∈ l, ¬ (x.core = core ∧ x.fd = fd)) → dropD l core fd = l
 | [], _, _, _ => rfl
 | y :: ys, core, fd, hl => by
  unfold dropD
  rw [if_neg (hl y (by simp)), dropD_none ys core fd (fun x hx => hl x (by simp [hx]))]
theorem RiseD.tail {e : Ds} {t : List Ds} (h : RiseD (e :: t)) : RiseD t := fun i j x y hij hx hy => h (i + 1) (j + 1) x y (by omega) (by simpa using hx) (by simpa using hy)
theorem dropD_pos : ∀ (ds : List Ds) (k : Nat) (d : Ds), RiseD ds → ds[k]? = some d → dropD ds d.core d.fd = ds.take k ++ ds.drop (k + 1)
 | [], k, d, hr, h => by simp at h
 | e :: t, 0, d, hr, h => by
  have : e = d := by simpa using h
  subst this
  unfold dropD
  rw [if_pos ⟨rfl, rfl⟩, dropD_none t e.core e.fd (fun y hy e2 => ?_)]
  ·rfl
  ·obtain ⟨j, hj⟩ := List.getElem?_of_mem hy
   have h1 := hr 0 (j + 1) e y (by omega) rfl (by simpa using hj)
   unfold ltD at h1
   omega
 | e :: t, k + 1, d, hr, h => by
  have hd : t[k]? = some d := by simpa using h
  have h1 := hr 0 (k + 1) e d (by omega) rfl h
  unfold ltD at h1
  unfold dropD
  rw [if_neg (by omega), dropD_pos t k d hr.tail hd]
  rfl
set_option maxRecDepth 100000 in
set_option maxHeartbeats 16000000 in
theorem mrun_3 (B q p : Nat) (s : St) (c : Ca) (zs : List (Ino × Value)) (vI vO vM : Value) (w : World) (hN : Now B q p s c zs vI vO vM w w) (hg : Good s) (hk : c.kind = 3) :
  Calls Tryz.prog 65 #[.pointer (some ⟨q, 0, .none⟩)] w (Ran B q p c (byFdV s c) w) := by
 obtain ⟨R, hR⟩ : ∃ R, byFdV s c = R := ⟨_, rfl⟩
 have hsz := fd_sized hg c
 rw [hR] at hsz ⊢
 unfold byFdV at hR
 have d1 := hN.doer.c1
 rw [hk] at d1
 have HN := Lib.hid hN
 have HR := Lib.hid hR
 have HG := Lib.hid hg
 have HK := Lib.hid hk
 have HSZ := Lib.hid hsz
 clear hN hk hR hg hsz
 go_enter Tryz.func65, Tryz.ntmps65
 go_wp2_with fail
 refine (mfile_any B q p s c 0 0 false ⟨#[]⟩ (.slice none 0 0) zs vI vO vM w HN.out.doer HN.out.own HG.out).mono ?_
 rintro e1 w1 ⟨hb1, ⟨h0, rfl⟩ | ⟨h0, g, n, d, i, x, k, hvI, hx, hxn, hxd, hfp, rfl⟩⟩
 ·have hr := HR.out
  rw [if_pos h0] at hr
  go_simp
  exact panic_end rfl ((HN.out.step hb1).fail (by rw [← hr]; simp) (by rw [← hr]))
 have hr := HR.out
 rw [if_neg h0, if_pos HK.out, ← hxn] at hr
 have HN1 := Lib.hid (HN.out.step hb1)
 obtain ⟨y, hy, hyc, hyf, _⟩ := fdP_some _ _ _ _ hfp
 have hdp := dropD_pos s.opn k y HG.out.riseD hy
 rw [hyc, hyf] at hdp
 obtain ⟨ds, hds⟩ : ∃ ds, dropD s.opn c.core c.fd = ds := ⟨_, rfl⟩
 rw [hds] at hr hdp
 obtain ⟨S2, hS2⟩ : ∃ S2 : St, ({ s with opn := ds } : St) = S2 := ⟨_, rfl⟩
 rw [hS2] at hr
 have hs := HSZ.out
 rw [← hr] at hs
 have HS := Lib.hid hs
 have HRF := Lib.hid hr
 have hso : Sized { s with opn := ds } := ((Small.opn HG.out.small ds (by
  rw [hdp, List.length_append, List.length_take, List.length_drop]
  have := HG.out.opn_len
  omega)).sized (by omega) (by omega) (by omega))
 obtain ⟨AO, cO, hvO, _, hOD⟩ := HN1.out.own.rowO.descs
 obtain ⟨ML, hML⟩ : ∃ ML, s.opn.length = ML := ⟨_, rfl⟩
 have s11 := HN1.out.own.s1
 rw [hvO, hML] at s11
 have d01 := HN1.out.doer.c0
 have hkm : k < ML := by have := (List.getElem?_eq_some_iff.1 hy).1; omega
 have hml : ML ≤ 32 := by have := HG.out.opn_len; omega
 have hrow : RowAt B w1.drew 97 3 (.slice AO ML cO) ML (s.opn.flatMap dsV) := by
  have h := HN1.out.own.rowO
  rw [hvO, hML] at h
  exact h
 have hq1 := HN1.out.doer.lt
 have hp1 := HN1.out.own.lt
 have hqp := HN1.out.ne
 have hnQ : some q ≠ rowBlk (.slice AO ML cO) := fun e => by
  obtain ⟨_, _, c1, h1⟩ := hrow.blk q e.symm
  exact blk_ne HN1.out.doer.cell h1 (by decide) rfl
 have hnP : some p ≠ rowBlk (.slice AO ML cO) := fun e => by
  obtain ⟨_, _, c1, h1⟩ := hrow.blk p e.symm
  exact blk_ne HN1.out.own.cell h1 (by decide) rfl
 have hflat : (s.opn.flatMap dsV).take (k * 3) ++ (s.opn.flatMap dsV).drop ((k + 1) * 3) = ds.flatMap dsV := by
  rw [flat_take dsV 3 (fun _ => rfl), flat_drop dsV 3 (fun _ => rfl), hdp, List.flatMap_append]
 have hpl : ds.length = ML - 1 := by rw [hdp, List.length_append, List.length_take, List.length_drop]; omega
 have fp : w1.frozen? ⟨p, 1, none⟩ = false := frozen_of_row w1 p 1 _ _ HN1.out.own.cell
 have kw : IntKind.i64.wrap ((k : Int) + 1) = (k : Int) + 1 := by rw [IntKind.wrap_i64]; omega
 have HROW := Lib.hid hrow
 have HFL := Lib.hid hflat
 have HPL := Lib.hid hpl
 have HSO := Lib.hid hso
 have HS2 := Lib.hid hS2
 have HVO : Hid (vO = .slice AO ML cO) := by rw [hvO, hML]; exact rfl
 have HX := Lib.hid hx
 have HXD := Lib.hid hxd
 have HVI := Lib.hid hvI
 clear hr hs hb1 hdp hds hS2 hso hvO hOD hML hrow hflat hpl hy hyc hyf hfp h0 hx hxn hxd hvI d1
 go_wp2_with fail
 go_region_law (go_simp; go_at_call 88; (refine (delD_any B ML k (.slice AO ML cO) (s.opn.flatMap dsV) w1.drew HROW.out hkm (one_ds _)).mono ?_; rintro e6 w6 ⟨v', rfl, hrow', hgr, hbl⟩; obtain ⟨A', c9, rfl, hok'⟩ := hrow'.slice; have q6 : w6.cell? ⟨q, 0, none⟩ = some (.pointer (some ⟨p, 0, none⟩)) := (World.cell?_of_block (a := ⟨q, 0, none⟩) (hgr.block q hq1 hnQ)).trans d01; have p6 : w6.cell? ⟨p, 1, none⟩ = some (.slice AO ML cO) := (World.cell?_of_block (a := ⟨p, 1, none⟩) (hgr.block p hp1 hnP)).trans s11; have f6 : w6.frozen? ⟨p, 1, none⟩ = false := (World.frozen?_of_block (a := ⟨p, 1, none⟩) (hgr.block p hp1 hnP)).trans fp; have q9 : (w6.setCell ⟨p, 1, none⟩ (.slice A' (ML - 1) c9)).cell? ⟨q, 0, none⟩ = some (.pointer (some ⟨p, 0, none⟩)) := (World.cell?_setCell_other w6 ⟨p, 1, none⟩ ⟨q, 0, none⟩ _ (by simp [hqp, hqp.symm])).trans q6))
 all_goals (
  rw [HFL.out] at hrow'
  rw [← HPL.out] at hrow' hbl
  have hgr2 := rw_drew hgr
  rw [← HVO.out] at hgr2
  have hfin := HN1.out.own.setO HN1.out.hB' hgr2 hrow' HSO.out
  rw [HPL.out] at hfin
  obtain ⟨W, hW⟩ : ∃ W, w6.setCell ⟨p, 1, none⟩ (.slice A' (ML - 1) c9) = W := ⟨_, rfl⟩
  rw [hW] at hfin ⊢
  rw [HS2.out] at hfin
  have hDW := HN1.out.doer.turns HN1.out.ne hfin.2
  have hBW : B ≤ W.heap.size := Nat.le_trans HN1.out.hB' hfin.2.below.size
  have hx2 : S2.inos[i]? = some x := by rw [← HS2.out]; exact HX.out
  have hri : RiseI S2.inos := by rw [← HS2.out]; exact HG.out.riseI
  obtain ⟨g2, c2, E2, m2, e2, hv2, _, _, _, _, y0, _⟩ := hfin.1.at_ hx2
  have hgg : g2 = g := by have h := HVI.out; rw [hv2] at h; injection h with e1 _ _; injection e1 with e1; injection e1 with e1
  subst hgg
  have htid := mtidy_any B q p S2 c 0 0 false ⟨#[]⟩ (.slice none 0 0) zs vI (.slice A' (ML - 1) c9) vM i x W hDW hfin.1 hBW hri hx2 HXD.out HS.out
  have HFIN := Lib.hid hfin
  have HTID := Lib.hid htid
  clear hfin hrow' hgr hgr2 hbl hW hDW htid hx2 hri hv2 q9
  go_wp2_with fail
  refine HTID.out.mono ?_
  rintro e7 w7 ⟨rfl, ht7, zs7, vI7, ho7⟩
  go_wp2_with fail
  go_returns
  exact HN1.out.done (by rw [← HRF.out]) rfl (HFIN.out.2.trans ht7) ⟨zs7, vI7, _, vM, by rw [← HRF.out]; exact ho7⟩)
set_option maxHeartbeats 4000000 in
set_option maxRecDepth 100000 in
theorem insI_shift (g n c i vb : Nat) (cur : Array Value) (x xs seg : List Value) (w : World) (hg : w.heap[g]? = some (.cells cur 65 (0, 0))) (hsz : cur.size = c * 4) (hi : i < n) (hroom : n + 1 ≤ c) (hcm : c ≤ maxLen) (hvb : vb ≠ g) (hxl : x.length = 4)
  (hv : w.heap[vb]? = some (.cells x.toArray 65 (0, 0))) (hxs : cur.toList.take (n * 4) = xs) (h1c : ∀ v ∈ xs, v.oneCell' = true) (h1x : ∀ v ∈ x, v.oneCell' = true) (hseg : seg = xs.drop (i * 4)) :
  Calls Tryz.prog 135 #[.slice (some ⟨g, 0, none⟩) n c, .int .i64 i, .slice (some ⟨vb, 0, none⟩) 1 1] w fun e w' =>
   e = .returned (.slice (some ⟨g, 0, none⟩) (n + 1) c) ∧ w' = w.drew.setRow g (layV (layV cur.toList ((i + 1) * 4) seg) (i * 4) x).toArray := by
 obtain ⟨i0, hi0, hz0, hz1, hz2⟩ := info_parts infoIno
 have hc63 : c ≤ 9223372036854775807 := by unfold maxLen at hcm; omega
 have hsize : (Tryz.prog.info? 65).map (·.size) = some 4 := by rw [hi0]; simp [hz1]
 have hsl : seg.length = (n - i) * 4 := by rw [hseg, ← hxs, List.length_drop, List.length_take, Array.length_toList, hsz]; omega
 have hov : ∀ lb cb, (callFunc 190 #[.slice (some ⟨vb, 0, none⟩) 1 1, .slice (some ⟨g, (i + 1) * 4, none⟩) lb cb]).run Tryz.prog w = .ok (.value (.bool false)) w := fun lb cb => by
  rw [run_callFunc_extern Tryz.func190 (by kernel_rfl) (by kernel_rfl) (by kernel_rfl) (e := Extern.SlicesOverlaps.overlaps #[27, 27] #[4]) (by kernel_rfl),
   Lib.run_overlaps_apart w 27 4 65 Tryz.underlying27 4 (fun w => by simp [Go.sizeOf, typeInfo, hi0, hz1]) ⟨vb, 0, none⟩ ⟨g, (i + 1) * 4, none⟩ 1 1 lb cb hvb 65 65 4 (c * 4) (by simp [World.shape?, hv, hxl]) (by simp [World.shape?, hg, hsz]) (by omega) (by simp [World.frozen?, hv]) (by simp [World.frozen?, hv])]
  rfl
 have hw1 : IntKind.i64.wrap ((i : Int) + (1 : Int)) = ((i + 1 : Nat) : Int) := by rw [IntKind.wrap_i64]; omega
 have hw2 : IntKind.i64.wrap ((n : Int) + (1 : Int)) = ((n + 1 : Nat) : Int) := by rw [IntKind.wrap_i64]; omega
 have hz3 : ¬ ((i : Int) = (n : Int)) := by omega
 have hb2 : ¬ (c = i + 1) := by omega
 have hb4 : ¬ (c = i) := by omega
 have hin : i ≤ n := by omega
 have hin1 : i ≤ n + 1 := by omega
 have hin2 : i + 1 ≤ n + 1 := by omega
 have hin3 : n + 1 ≤ c := by omega
 have hnc : n ≤ c := by omega
 have hp1 : (0 : Int) ≤ (i : Int) + 1 := by omega
 have hp2 : (i : Int) + 1 ≤ (n : Int) + 1 := by omega
 have hp3 : (i : Int) ≤ (n : Int) + 1 := by omega
 have mixed : Tryz.prog.follows Departure.mixedOrders = true := by kernel_rfl
 have hcp1 : ∀ ty dc sc, (Builtin.copy_ #[27, 27] ty #[.slice (some ⟨g, (i + 1) * 4, none⟩) (n - i) dc, .slice (some ⟨g, i * 4, none⟩) (n + 1 - i) sc]).run Tryz.prog w.drew = .ok (goInt (Nat.min (n + 1 - i) (n - i))) (w.drew.setRow g (layV cur.toList ((i + 1) * 4) seg).toArray) := fun ty dc sc => by
  exact run_copy_rowK w.drew _ _ ty 65 4 g ((i + 1) * 4) (n - i) dc ⟨g, i * 4, none⟩ (n + 1 - i) sc cur 65 seg Tryz.underlying27 hsize hg (by rw [hsl]; simp only [Nat.min_def]; split <;> omega)
   (row_cells hg _ _ (fun j v hj => by
    rw [hseg, ← hxs, List.getElem?_drop, List.getElem?_take] at hj
    split at hj
    ·simpa using hj
    ·cases hj)) (by rw [hsl, hsz]; omega) (fun v hv => h1c v (by rw [hseg] at hv; exact List.mem_of_mem_drop hv))
 obtain ⟨C1, hC1⟩ : ∃ C1, C1 = (layV cur.toList ((i + 1) * 4) seg).toArray := ⟨_, rfl⟩
 have hC1s : C1.size = c * 4 := by rw [hC1, layV_size (by rw [hsl, hsz]; omega), hsz]
 have hC1l : layV cur.toList ((i + 1) * 4) seg = C1.toList := by rw [hC1]
 rw [← hC1] at hcp1
 rw [hC1l]
 obtain ⟨W1, hW1⟩ : ∃ W1, W1 = w.drew.setRow g C1 := ⟨_, rfl⟩
 have hg1 : W1.heap[g]? = some (.cells C1 65 (0, 0)) := by rw [hW1]; exact setRow_heap w.drew g cur _ _ _ hg
 have hv1 : W1.heap[vb]? = some (.cells x.toArray 65 (0, 0)) := by rw [hW1, setRow_other w.drew g vb _ hvb]; exact hv
 have hcp2 : ∀ ty dc, (Builtin.copy_ #[27, 27] ty #[.slice (some ⟨g, i * 4, none⟩) (n + 1 - i) dc, .slice (some ⟨vb, 0, none⟩) 1 1]).run Tryz.prog W1 = .ok (goInt (Nat.min 1 (n + 1 - i))) (W1.setRow g (layV C1.toList (i * 4) x).toArray) := fun ty dc => by
  exact run_copy_rowK W1 _ _ ty 65 4 g (i * 4) (n + 1 - i) dc ⟨vb, 0, none⟩ 1 1 C1 65 x Tryz.underlying27 hsize hg1 (by rw [hxl]; simp only [Nat.min_def]; split <;> omega)
   (row_cells hv1 _ _ (fun j v hj => by rw [Nat.zero_add, List.getElem?_toArray]; exact hj)) (by rw [hxl, hC1s]; omega) h1x
 rw [← hW1] at hcp1
 have hfin : W1.setRow g (layV C1.toList (i * 4) x).toArray = w.drew.setRow g (layV C1.toList (i * 4) x).toArray := by rw [hW1, setRow_setRow]
 have HOV := Lib.hid hov
 have HF := Lib.hid hfin
 have HC1 := Lib.hid hcp1
 have HC2 := Lib.hid hcp2
 clear hg1 hv1 hC1 hC1s hC1l hW1 hcp1 hcp2 hfin hseg hsl hsz hg hv h1c h1x hcm hxs
 go_enter Tryz.func135, Tryz.ntmps135
 go_wp2_with (simp only [HOV.out])
 go_region_law_o (refine step_copy_runI rfl _ _ 27 27 rfl (.slice (some ⟨g, (i + 1) * 4, none⟩) (n - i) (c - (i + 1))) (.slice (some ⟨g, i * 4, none⟩) (n + 1 - i) (c - i)) (by simp [Act.eval, Act.put]) (by simp [Act.eval, Act.put]) (HC1.out 3 (c - (i + 1)) (c - i)) ?_)
 go_wp2_with (simp only [HC2.out])
 go_ret
 exact ⟨rfl, HF.out⟩
set_option maxHeartbeats 4000000 in
set_option maxRecDepth 100000 in
theorem insI_grow (g n c i vb : Nat) (cur : Array Value) (x xs seg : List Value) (w : World) (hg : w.heap[g]? = some (.cells cur 65 (0, 0))) (hsz : cur.size = c * 4) (hi : i < n) (hnc : n ≤ c) (hroom : c < n + 1) (hn40 : n + 1 ≤ 1099511627776) (hxl : x.length = 4)
  (hv : w.heap[vb]? = some (.cells x.toArray 65 (0, 0))) (hxs : cur.toList.take (n * 4) = xs) (h1c : ∀ v ∈ xs, v.oneCell' = true) (h1x : ∀ v ∈ x, v.oneCell' = true) (hseg : seg = xs.drop (i * 4)) :
  Calls Tryz.prog 135 #[.slice (some ⟨g, 0, none⟩) n c, .int .i64 i, .slice (some ⟨vb, 0, none⟩) 1 1] w fun e w' =>
   e = .returned (.slice (some ⟨w.heap.size, 0, none⟩) (n + 1) (grownCap w (n + 1) c 65)) ∧ w.grownBy w' none ∧ ∃ cur', w'.heap[w.heap.size]? = some (.cells cur' 65 (0, 0)) ∧ cur'.size = grownCap w (n + 1) c 65 * 4 ∧ cur'.toList.take ((n + 1) * 4) = xs.take (i * 4) ++ x ++ seg := by
 obtain ⟨i0, hi0, hz0, hz1, hz2⟩ := info_parts infoIno
 have hsize : (Tryz.prog.info? 65).map (·.size) = some 4 := by rw [hi0]; simp [hz1]
 have hxsl : xs.length = n * 4 := by rw [← hxs, List.length_take, Array.length_toList, hsz]; omega
 have hsl : seg.length = (n - i) * 4 := by rw [hseg, List.length_drop, hxsl]; omega
 have hbw : g < w.heap.size := (Array.getElem?_eq_some_iff.1 hg).1
 have hvw : vb < w.heap.size := (Array.getElem?_eq_some_iff.1 hv).1
 have hvg : vb ≠ w.heap.size := by omega
 have hgg : g ≠ w.heap.size := by omega
 have hold : (Builtin.firstCells i0.size i (.slice (some ⟨g, 0, none⟩) i c)).run Tryz.prog w.drew = .ok (xs.take (i * 4)).toArray w.drew := by
  rw [hz1]
  refine run_firstCells_some w.drew 4 i ⟨g, 0, none⟩ i c (xs.take (i * 4)) (by rw [List.length_take]; omega) (row_cells hg 0 _ (fun j v hj => ?_))
  rw [List.getElem?_take] at hj
  split at hj
  ·rw [← hxs, List.getElem?_take] at hj
   split at hj
   ·rw [Nat.zero_add]; simpa using hj
   ·cases hj
  ·cases hj
 have hkk : (n : Int) + 1 - (i : Int) = ((n + 1 - i : Nat) : Int) := by omega
 have hik : i + (n + 1 - i) = n + 1 := by omega
 obtain ⟨G, hG⟩ : ∃ G, G = grownCap w (n + 1) c 65 := ⟨_, rfl⟩
 obtain ⟨Z, hZ⟩ : ∃ Z : Value, i0.zero = some Z ∧ Z.cells.size = 4 := ⟨_, hz0, rfl⟩
 obtain ⟨ROW, hROW⟩ : ∃ ROW : Array Value, ROW = (xs.take (i * 4)).toArray ++ Builtin.zeroCells Z.cells (n + 1 - i) ++ Builtin.zeroCells Z.cells (G - (n + 1)) := ⟨_, rfl⟩
 have hGn : n + 1 ≤ G := by rw [hG]; exact grownCap_ge w _ _ _
 have hGm : G ≤ maxLen := by rw [hG]; exact grownCap_le_maxLen w (n + 1) c _ (by unfold maxLen; omega)
 have hG63 : G ≤ 9223372036854775807 := by unfold maxLen at hGm; omega
 have hRs : ROW.size = G * 4 := by rw [hROW, Array.size_append, Array.size_append, List.size_toArray, size_zeroCells, size_zeroCells, hZ.2, List.length_take, hxsl]; omega
 have hRt : ROW.toList.take (i * 4) = xs.take (i * 4) := by
  rw [hROW, Array.toList_append, Array.toList_append, List.append_assoc]
  exact List.take_left' (by rw [List.length_take, hxsl]; omega)
 have hrz : ∀ ty, (Builtin.append_ #[27, 3] ty #[.slice (some ⟨g, 0, none⟩) i c, .int .i64 ((n : Int) + 1 - (i : Int))]).run Tryz.prog w = .ok (.slice (some ⟨w.heap.size, 0, none⟩) (n + 1) G) (w.drew.alloc (.cells ROW 65)) := fun ty => by
  have h := Lib.run_append_grow_zeros w 27 3 ty 65 i0 Z .i64 .i64 Tryz.underlying27 Tryz.underlying3 hi0 hZ.1 (some ⟨g, 0, none⟩) i c (xs.take (i * 4)) hold (n + 1 - i) (by omega) (by omega) (by omega) (by omega) (by rw [hz2]; omega) (by rw [hik]; exact growslice_fits hroom (by rw [hz2]; omega))
  rw [hik, ← hG, ← hROW] at h
  rw [hkk]
  exact h
 obtain ⟨N, hN⟩ : ∃ N, N = w.heap.size := ⟨_, rfl⟩
 obtain ⟨W1, hW1⟩ : ∃ W1, W1 = w.drew.alloc (.cells ROW 65) := ⟨_, rfl⟩
 have g1 : W1.heap[N]? = some (.cells ROW 65 (0, 0)) := by rw [hW1, hN]; exact Go.heap_alloc_new w.drew _
 have g1v : W1.heap[vb]? = some (.cells x.toArray 65 (0, 0)) := by rw [hW1, Go.heap_alloc_old w.drew _ hvw]; exact hv
 have g1g : W1.heap[g]? = some (.cells cur 65 (0, 0)) := by rw [hW1, Go.heap_alloc_old w.drew _ hbw]; exact hg
 have gr1 : w.grownBy W1 none := by rw [hW1]; exact ⟨rfl, rfl, rfl, by simp, fun b hb _ => Go.heap_alloc_old w.drew _ hb⟩
 have hcp1 : ∀ ty dc, (Builtin.copy_ #[27, 27] ty #[.slice (some ⟨N, i * 4, none⟩) (n + 1 - i) dc, .slice (some ⟨vb, 0, none⟩) 1 1]).run Tryz.prog W1 = .ok (goInt (Nat.min 1 (n + 1 - i))) (W1.setRow N (layV ROW.toList (i * 4) x).toArray) := fun ty dc =>
  run_copy_rowK W1 _ _ ty 65 4 N (i * 4) (n + 1 - i) dc ⟨vb, 0, none⟩ 1 1 ROW 65 x Tryz.underlying27 hsize g1 (by rw [hxl]; simp only [Nat.min_def]; split <;> omega)
   (row_cells g1v _ _ (fun j v hj => by rw [Nat.zero_add, List.getElem?_toArray]; exact hj)) (by rw [hxl, hRs]; omega) h1x
 obtain ⟨C1, hC1⟩ : ∃ C1, C1 = (layV ROW.toList (i * 4) x).toArray := ⟨_, rfl⟩
 have hC1s : C1.size = G * 4 := by rw [hC1, layV_size (by rw [hRs, hxl]; omega), hRs]
 rw [← hC1] at hcp1
 obtain ⟨W2, hW2⟩ : ∃ W2, W2 = W1.setRow N C1 := ⟨_, rfl⟩
 rw [← hW2] at hcp1
 have g2 : W2.heap[N]? = some (.cells C1 65 (0, 0)) := by rw [hW2]; exact setRow_heap W1 N ROW _ _ _ g1
 have g2g : W2.heap[g]? = some (.cells cur 65 (0, 0)) := by rw [hW2, setRow_other W1 N g _ (by omega)]; exact g1g
 have gr2 : w.grownBy W2 none := by
  rw [hW2]
  exact ⟨gr1.os, gr1.tape, gr1.output, by rw [World.setRow]; simp; exact gr1.size, fun b hb _ => (setRow_other W1 N b _ (by omega)).trans (gr1.block b hb (by simp))⟩
 have hcp2 : ∀ ty dc sc, (Builtin.copy_ #[27, 27] ty #[.slice (some ⟨N, (i + 1) * 4, none⟩) (n - i) dc, .slice (some ⟨g, i * 4, none⟩) (n - i) sc]).run Tryz.prog W2.drew = .ok (goInt (Nat.min (n - i) (n - i))) (W2.drew.setRow N (layV C1.toList ((i + 1) * 4) seg).toArray) := fun ty dc sc =>
  run_copy_rowK W2.drew _ _ ty 65 4 N ((i + 1) * 4) (n - i) dc ⟨g, i * 4, none⟩ (n - i) sc C1 65 seg Tryz.underlying27 hsize g2 (by rw [hsl]; simp only [Nat.min_def]; split <;> omega)
   (row_cells (w := W2.drew) g2g _ _ (fun j v hj => by
    rw [hseg, ← hxs, List.getElem?_drop, List.getElem?_take] at hj
    split at hj
    ·simpa using hj
    ·cases hj)) (by rw [hsl, hC1s]; omega) (fun v hv => h1c v (by rw [hseg] at hv; exact List.mem_of_mem_drop hv))
 have fin : W2.drew.grownBy (W2.drew.setRow N (layV C1.toList ((i + 1) * 4) seg).toArray) (some N) := rw_setRow
 have hfin : w.grownBy (W2.drew.setRow N (layV C1.toList ((i + 1) * 4) seg).toArray) none := ⟨fin.os.trans gr2.os, fin.tape.trans gr2.tape, fin.output.trans gr2.output, Nat.le_trans gr2.size fin.size, fun b hb _ => (setRow_other W2.drew N b _ (by omega)).trans (gr2.block b hb (by simp))⟩
 have hcell : (W2.drew.setRow N (layV C1.toList ((i + 1) * 4) seg).toArray).heap[N]? = some (.cells (layV C1.toList ((i + 1) * 4) seg).toArray 65 (0, 0)) := setRow_heap W2.drew N C1 _ _ _ g2
 have hcs : (layV C1.toList ((i + 1) * 4) seg).toArray.size = G * 4 := by rw [layV_size (by rw [hsl, hC1s]; omega), hC1s]
 have hct : (layV C1.toList ((i + 1) * 4) seg).toArray.toList.take ((n + 1) * 4) = xs.take (i * 4) ++ x ++ seg := by
  have h := ins_grow (l := ROW.toList) (x := x) (D := seg) hRt (by rw [hxl, hsl, Array.length_toList, hRs]; omega)
  rw [hxl, hsl, show i * 4 + 4 = (i + 1) * 4 by omega, show (i + 1) * 4 + (n - i) * 4 = (n + 1) * 4 by omega] at h
  rw [hC1]
  exact h
 rw [← hW1, ← hN] at hrz
 rw [← hN, ← hG]
 obtain ⟨W3, hW3⟩ : ∃ W3, W3 = W2.drew.setRow N (layV C1.toList ((i + 1) * 4) seg).toArray := ⟨_, rfl⟩
 rw [← hW3] at hcp2 hfin hcell
 obtain ⟨C3, hC3⟩ : ∃ C3, C3 = (layV C1.toList ((i + 1) * 4) seg).toArray := ⟨_, rfl⟩
 rw [← hC3] at hcell hcs hct
 have hw1 : IntKind.i64.wrap ((i : Int) + (1 : Int)) = ((i + 1 : Nat) : Int) := by rw [IntKind.wrap_i64]; omega
 have hw2 : IntKind.i64.wrap ((n : Int) + (1 : Int)) = ((n + 1 : Nat) : Int) := by rw [IntKind.wrap_i64]; omega
 have hz3 : ¬ ((i : Int) = (n : Int)) := by omega
 have hzc : (c : Int) < (n : Int) + 1 := by omega
 have hb2 : ¬ (G = i + 1) := by omega
 have hb4 : ¬ (G = i) := by omega
 have hb5 : ¬ (c = i) := by omega
 have hin : i ≤ n := by omega
 have hin1 : i ≤ n + 1 := by omega
 have hin2 : i + 1 ≤ n + 1 := by omega
 have hp1 : (0 : Int) ≤ (i : Int) + 1 := by omega
 have hp2 : (i : Int) + 1 ≤ (n : Int) + 1 := by omega
 have hp3 : (i : Int) ≤ (n : Int) + 1 := by omega
 have mixed : Tryz.prog.follows Departure.mixedOrders = true := by kernel_rfl
 have HR := Lib.hid hrz
 have HC1 := Lib.hid hcp1
 have HC2 := Lib.hid hcp2
 have HFIN := Lib.hid hfin
 have HCELL := Lib.hid hcell
 have HCS := Lib.hid hcs
 have HCT := Lib.hid hct
 clear hrz hcp1 hcp2 hfin hcell hcs hct hC3 hW3 fin gr2 g2g g2 hW2 hC1s hC1 gr1 g1g g1v g1 hW1 hN hRt hRs hGm hROW hZ hG hik hkk hold hsl hxsl hseg hsz hg hv h1c h1x hxs hbw hvw hvg hgg
 go_enter Tryz.func135, Tryz.ntmps135
 go_wp2_with (first | (at_builtin; refine Lib.wpList_append_run _ rfl _ _ _ _ rfl _ _ rfl rfl _ _ (HR.out _) ?_) | simp only [HC1.out])
 go_region_law_o (refine step_copy_runI rfl _ _ 27 27 rfl (.slice (some ⟨N, (i + 1) * 4, none⟩) (n - i) (G - (i + 1))) (.slice (some ⟨g, i * 4, none⟩) (n - i) (c - i)) (by simp [Act.eval, Act.put]) (by simp [Act.eval, Act.put]) (HC2.out 3 (G - (i + 1)) (c - i)) ?_)
 go_wp2_with fail
 go_ret
 exact ⟨rfl, HFIN.out, C3, HCELL.out, HCS.out, HCT.out⟩
set_option maxHeartbeats 4000000 in
set_option maxRecDepth 100000 in
theorem insI_end (v v' : Value) (n vb : Nat) (w w1 : World) (hv : ∃ A c, v = .slice A n c ∧ n ≤ c ∧ (A = none → c = 0)) (hr : ∀ ty, (Builtin.append_ #[27, 27] ty #[v, .slice (some ⟨vb, 0, none⟩) 1 1]).run Tryz.prog w = .ok v' w1) :
  Calls Tryz.prog 135 #[v, .int .i64 n, .slice (some ⟨vb, 0, none⟩) 1 1] w fun e w' => e = .returned v' ∧ w' = w1 := by
 obtain ⟨A, c, rfl, hnc, hA⟩ := hv
 have HR := Lib.hid hr
 clear hr
 go_enter Tryz.func135, Tryz.ntmps135
 cases A with
 | none =>
  have h0 := hA rfl
  subst h0
  have h1 : n = 0 := by omega
  subst h1
  go_wp2_with (at_builtin; refine Lib.wpList_append_run _ rfl _ _ _ _ rfl _ _ rfl rfl _ _ (HR.out _) ?_)
  go_ret
  exact ⟨rfl, rfl⟩
 | some a =>
  obtain ⟨ab, ao, asp⟩ := a
  clear hA
  go_wp2_with (at_builtin; refine Lib.wpList_append_run _ rfl _ _ _ _ rfl _ _ rfl rfl _ _ (HR.out _) ?_)
  all_goals (go_ret; exact ⟨rfl, rfl⟩)
theorem insI_any (B n i vb : Nat) (v : Value) (xs x : List Value) (w : World) (h : RowAt B w 65 4 v n xs) (hB : B ≤ w.heap.size) (hi : i ≤ n) (hn : n + 1 ≤ 1099511627776) (hxl : x.length = 4) (hv : w.heap[vb]? = some (.cells x.toArray 65 (0, 0))) (hvb : rowBlk v ≠ some vb) (h1x : ∀ v ∈ x, v.oneCell' = true) (h1 : ∀ u ∈ xs, u.oneCell' = true) :
  Calls Tryz.prog 135 #[v, .int .i64 i, .slice (some ⟨vb, 0, none⟩) 1 1] w fun e w' => ∃ v', e = .returned v' ∧ RowAt B w' 65 4 v' (n + 1) (xs.take (i * 4) ++ x ++ xs.drop (i * 4)) ∧ w.grownBy w' (rowBlk v) ∧ (rowBlk v' = rowBlk v ∨ ∃ b, rowBlk v' = some b ∧ w.heap.size ≤ b) := by
 obtain ⟨i0, hi0, hz0, hz1, hz2⟩ := info_parts infoIno
 by_cases he : i = n
 ·subst he
  have e1 : xs.take (i * 4) = xs := List.take_of_length_le (by rw [h.1]; exact Nat.le_refl _)
  have e2 : xs.drop (i * 4) = [] := List.drop_eq_nil_of_le (by rw [h.1]; exact Nat.le_refl _)
  rw [e1, e2, List.append_nil]
  obtain ⟨v', w1, hr, h2, h3, h4⟩ := row_append h hB 27 Tryz.underlying27 i0 hi0 _ hz0 hz1 rfl (by rw [hz2]; omega) hn ⟨vb, 0, none⟩ x hxl (row_cells hv 0 x (fun j u hj => by rw [Nat.zero_add, List.getElem?_toArray]; exact hj)) h1x 1
  refine (insI_end v v' i vb w w1 ?_ hr).mono ?_
  ·rcases h.2 with ⟨A, rfl, h0⟩ | ⟨g, cap, cur, rfl, _, _, _, hnc, _⟩
   ·subst h0
    exact ⟨A, 0, rfl, Nat.le_refl _, fun _ => rfl⟩
   ·exact ⟨_, cap, rfl, hnc, fun e => by cases e⟩
  ·rintro e w' ⟨rfl, rfl⟩
   exact ⟨v', rfl, h2, h3, h4⟩
 ·have hlt : i < n := by omega
  rcases h.2 with ⟨A, rfl, h0⟩ | ⟨g, cap, cur, rfl, hc, hBg, hg, hnc, hcm, hcs, htk⟩
  ·omega
  ·have hb : rowBlk (.slice (some ⟨g, 0, none⟩) n cap) = some g := by simp [rowBlk, Nat.ne_of_gt hc]
   have hlen : (xs.take (i * 4) ++ x ++ xs.drop (i * 4)).length = (n + 1) * 4 := by
    rw [List.length_append, List.length_append, List.length_take, List.length_drop, h.1, hxl]
    omega
   rw [hb]
   by_cases hroom : n + 1 ≤ cap
   ·refine (insI_shift g n cap i vb cur x xs (xs.drop (i * 4)) w hg hcs hlt hroom hcm (fun e => hvb (by rw [hb, e])) hxl hv htk h1 h1x rfl).mono ?_
    rintro e w' ⟨rfl, rfl⟩
    refine ⟨_, rfl, ⟨hlen, .inr ⟨g, cap, _, rfl, hc, hBg, setRow_heap w.drew g cur _ _ _ hg, hroom, hcm, ?_, ?_⟩⟩, rw_drew rw_setRow, .inl (by simp [rowBlk, Nat.ne_of_gt hc])⟩
    ·have hl : (xs.drop (i * 4)).length = (n - i) * 4 := by rw [List.length_drop, h.1]; omega
     have l1 := layV_len (l := cur.toList) (o := (i + 1) * 4) (vs := xs.drop (i * 4)) (by rw [hl, Array.length_toList, hcs]; omega)
     rw [List.size_toArray, layV_len (by rw [hxl, l1, Array.length_toList, hcs]; omega), l1, Array.length_toList, hcs]
    ·have hl : (xs.drop (i * 4)).length = (n - i) * 4 := by rw [List.length_drop, h.1]; omega
     have hA : cur.toList.take (i * 4) = xs.take (i * 4) := by rw [← htk, List.take_take, Nat.min_eq_left (by omega)]
     have q := ins_shift (l := cur.toList) (x := x) (D := xs.drop (i * 4)) hA (by rw [hxl, hl, Array.length_toList, hcs]; omega)
     rw [hxl, hl, show i * 4 + 4 = (i + 1) * 4 by omega, show (i + 1) * 4 + (n - i) * 4 = (n + 1) * 4 by omega] at q
     exact q
   ·refine (insI_grow g n cap i vb cur x xs (xs.drop (i * 4)) w hg hcs hlt hnc (by omega) hn hxl hv htk h1 h1x rfl).mono ?_
    rintro e w' ⟨rfl, hgr, cur', g1, g2, g3⟩
    have hG := grownCap_ge w (n + 1) cap 65
    refine ⟨_, rfl, ⟨hlen, .inr ⟨w.heap.size, _, cur', rfl, by omega, hB, g1, hG, grownCap_le_maxLen w (n + 1) cap _ (by unfold maxLen; omega), g2, g3⟩⟩, ⟨hgr.os, hgr.tape, hgr.output, hgr.size, fun k hk _ => hgr.block k hk (by simp)⟩, .inr ⟨w.heap.size, ?_, Nat.le_refl _⟩⟩
    simp only [rowBlk]
    rw [if_neg (by omega)]
theorem cmpc_any (x1 x2 x3 x4 : Value) (num a : Int) (w : World) (h1 : x1 = .int .i64 a) (ha : -1000000 ≤ a ∧ a ≤ 1000000) (hn : -1000000 ≤ num ∧ num ≤ 1000000) :
  Calls Tryz.prog 134 #[.agg #[x1, x2, x3, x4], .int .i64 num] w fun e w' => e = .returned (.int .i64 (a - num)) ∧ Below w.heap.size w w' := by
 subst h1
 have hw : IntKind.i64.wrap (a - num) = a - num := by rw [IntKind.wrap_i64]; omega
 go_enter Tryz.func134, Tryz.ntmps134
 go_wp2_with fail
 go_ret
 exact ⟨rfl, (Below.refl _ _).alloc (Nat.le_refl _) _⟩
theorem Good.fresh {s : St} (h : Good s) {core : Int} (h0 : 0 ≤ core) (h8 : core < 8) : ∀ x ∈ s.inos, x.num ≠ 2 + core + 8 * s.made.getD core.toNat 0 := by
 intro x hx he
 obtain ⟨i, hi⟩ := List.getElem?_of_mem hx
 obtain ⟨r, hr, hrn, _⟩ := h.root
 have hm0 : 0 ≤ s.made.getD core.toNat 0 := by
  rw [List.getD_eq_getElem?_getD]
  cases hq : s.made[core.toNat]? with
  | none => exact Int.le_refl _
  | some m => exact (h.mr m (List.mem_of_getElem? hq)).1
 rcases Nat.eq_zero_or_pos i with rfl | hp
 ·rw [hr] at hi
  cases hi
  omega
 ·have hg := h.given i x hp hi
  unfold givenV at hg
  rw [if_neg (by omega)] at hg
  rw [Bool.and_eq_true, decide_eq_true_eq, decide_eq_true_eq] at hg
  have e1 : (x.num - 2) % 8 = core := by omega
  have e2 : (x.num - 2) / 8 = s.made.getD core.toNat 0 := by omega
  rw [e1, e2] at hg
  omega
set_option maxRecDepth 100000 in
set_option maxHeartbeats 4000000 in
theorem bsearchC_any (is : List Ino) (A : Option Addr) (n c : Nat) (num : Int) (w : World) (hI : InosAt none w A n is) (hn : n ≤ 1099511627776) (hr : RiseI is) (hb : ∀ x ∈ is, -1000000 ≤ x.num ∧ x.num ≤ 1000000) (hnb : -1000000 ≤ num ∧ num ≤ 1000000) :
  Calls Tryz.prog 133 #[.slice A n c, .int .i64 num, .func (.func 134) #[] #[]] w fun e w' => ∃ i b, e = .returned (.tuple #[.int .i64 (i : Nat), .bool b]) ∧ Below w.heap.size w w' ∧ i ≤ is.length ∧ (∀ (k : Nat) (x : Ino), k < i → is[k]? = some x → x.num < num) ∧ (∀ (k : Nat) (x : Ino), i ≤ k → is[k]? = some x → num ≤ x.num) := by
 have HI := Lib.hid hI
 have HBD := Lib.hid hb
 go_enter Tryz.func133, Tryz.ntmps133
 clear hI hb
 go_wp2_with fail
 go_loopw [9, 10] (fun iv jv wr => ∃ i j : Nat, iv = .int .i64 i ∧ jv = .int .i64 j ∧ i ≤ j ∧ j ≤ n ∧ (∀ (k : Nat) (x : Ino), k < i → is[k]? = some x → x.num < num) ∧ (∀ (k : Nat) (x : Ino), j ≤ k → is[k]? = some x → num ≤ x.num) ∧ Below w.heap.size w wr) (fun iv jv _ => (intOf jv).toNat - (intOf iv).toNat)
 case atStart => exact ⟨0, n, rfl, rfl, by omega, by omega, fun k x hk => by omega, fun k x hk hx => by have := (List.getElem?_eq_some_iff.1 hx).1; have := HI.out.1; omega, Below.refl _ _⟩
 case round =>
  obtain ⟨i, j, rfl, rfl, hij, hjn, hlo, hhi, hbel⟩ := hrel
  have HB := Lib.hid hbel
  have HIr := Lib.hid (HI.out.below hbel)
  have HLO := Lib.hid hlo
  have HHI := Lib.hid hhi
  clear hbel hlo hhi
  by_cases hlt : i < j
  ·obtain ⟨h, hh⟩ : ∃ h, (i + j) / 2 = h := ⟨_, rfl⟩
   have hh1 : i ≤ h := by omega
   have hh2 : h < j := by omega
   obtain ⟨g, off, x, E, m, d, rfl, hg, hx, hd, hmem, c0, c1, c2, c3, hok, hE⟩ := HIr.out.get h (by omega)
   have HHH := Lib.hid hh
   have hx2 : is[h]? = some x := hx
   have HX := Lib.hid hx2
   have HRR := Lib.hid hr
   have HHH2 : Hid (h < j) := Lib.hid hh2
   clear hx2
   go_wp2_with fail
   refine (cmpc_any _ _ _ _ num x.num _ rfl (HBD.out x hmem) hnb).mono ?_
   rintro e5 w5 ⟨rfl, hb5⟩
   have e2 : ((i : Int) + (j : Int)) / 2 = (h : Int) := by have := HHH.out; omega
   rw [e2]
   obtain ⟨DD, hDD⟩ : ∃ DD, x.num - num = DD := ⟨_, rfl⟩
   rw [hDD]
   have HDD := Lib.hid hDD
   clear hDD
   have HB5 := Lib.hid (HB.out.trans (hb5.mono HB.out.size))
   clear hb5 c0 c1 c2 c3
   by_cases hc : x.num < num
   ·have q1 : decide (DD < 0) = true := by have := HDD.out; rw [decide_eq_true_eq]; omega
    go_wp2_with fail
    go_roundw
    case rel => exact ⟨h + 1, j, by go_num, rfl, by omega, hjn, fun k y hk hy => by
     by_cases e : k = h
     ·subst e
      have := HX.out
      rw [hy] at this
      cases this
      exact hc
     ·have := HRR.out k h y x (by omega) hy HX.out
      omega, HHI.out, HB5.out⟩
    case measure => simp [intOf]; omega
   ·have q1 : decide (DD < 0) = false := by have := HDD.out; rw [decide_eq_false_iff_not]; omega
    go_wp2_with fail
    go_roundw
    case rel => exact ⟨i, h, rfl, rfl, hh1, by omega, HLO.out, fun k y hk hy => by
     by_cases e : k = h
     ·subst e
      have := HX.out
      rw [hy] at this
      cases this
      omega
     ·have := HRR.out h k x y (by omega) HX.out hy
      omega, HB5.out⟩
    case measure => simp [intOf]; omega
  ·have eij : j = i := by omega
   subst eij
   by_cases hin : j < n
   ·obtain ⟨g, off, x, E, m, d, rfl, hg, hx, hd, hmem, c0, c1, c2, c3, hok, hE⟩ := HIr.out.get j hin
    have HX := Lib.hid hx
    have HRR := Lib.hid hr
    go_wp2_with fail
    refine (cmpc_any _ _ _ _ num x.num _ rfl (HBD.out x hmem) hnb).mono ?_
    rintro e5 w5 ⟨rfl, hb5⟩
    have HB5 := Lib.hid (HB.out.trans (hb5.mono HB.out.size))
    clear hb5 c0 c1 c2 c3
    obtain ⟨DD, hDD⟩ : ∃ DD, (x.num - num == 0) = DD := ⟨_, rfl⟩
    go_wp2_with fail
    all_goals (
     go_ret2
     exact ⟨j, _, rfl, HB5.out, by have := (List.getElem?_eq_some_iff.1 HX.out).1; omega, HLO.out, HHI.out⟩)
   ·have q1 : decide ((j : Int) < (n : Int)) = false := by rw [decide_eq_false_iff_not]; omega
    clear hlt
    go_wp2_with fail
    go_ret2
    exact ⟨j, false, rfl, HB.out, by have := HIr.out.1; omega, HLO.out, HHI.out⟩
end Go.Proofs.YtilkhmhgjbhfnaaGreatDoor
