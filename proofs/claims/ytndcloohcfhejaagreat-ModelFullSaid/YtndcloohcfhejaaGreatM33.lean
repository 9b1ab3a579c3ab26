/- Parts of the proof, side by side: MoTell, MoTellLinks, MoTellList, MoRunAll. -/
import Derived.Test.YtndcloohcfhejaaGreatM19
import Derived.Test.YtndcloohcfhejaaGreatM21
import Derived.Test.YtndcloohcfhejaaGreatM24
import Derived.Deep.RegionLaw
import Derived.Test.YtndcloohcfhejaaGreatM20
import Derived.Test.YtndcloohcfhejaaGreatMoClose
import Derived.Test.YtndcloohcfhejaaGreatMoCreate
import Derived.Test.YtndcloohcfhejaaGreatMoOpenD
import Derived.Test.YtndcloohcfhejaaGreatM29
import Derived.Test.YtndcloohcfhejaaGreatM30
import Derived.Test.YtndcloohcfhejaaGreatM31
import Derived.Test.YtndcloohcfhejaaGreatM32
set_option linter.unusedVariables false
set_option linter.unusedSimpArgs false
namespace Go.Proofs.YtndcloohcfhejaaGreat
open Go.RowKit
set_option maxRecDepth 100000 in
set_option maxHeartbeats 8000000 in
theorem mstat_any (B q p : Nat) (s : St) (c : Ca) (zs : List (Ino × Value)) (vI vO vM : Value) (w : World) (hN : Now B q p s c zs vI vO vM w w) (hg : Good s) (hp1 : c.path.size ≤ 140737488355328) (hk : c.kind = 13) :
  Calls Tryz.prog 65 #[.pointer (some ⟨q, 0, .none⟩)] w (Ran B q p c (s, looksV s c) w) := by
 obtain ⟨R, hR⟩ : ∃ R, looksV s c = R := ⟨_, rfl⟩
 rw [hR]
 unfold looksV at hR
 have HR := Lib.hid hR
 have HN0 := Lib.hid hN
 have HG := Lib.hid hg
 have d6 := hN.doer.c6
 clear hR hN hg
 go_enter Tryz.func65, Tryz.ntmps65
 go_wp2_with fail
 refine (mat_any B q p s c 0 0 false ⟨#[]⟩ (.slice none 0 0) zs vI vO vM c.path w HN0.out.doer HN0.out.own HG.out hp1).mono ?_
 rintro e1 w1 ⟨hb1, ⟨hc, rfl⟩ | ⟨hc, g, n, d, i, x, hvI, hx, hxn, rfl⟩⟩
 ·have hr := HR.out
  rw [if_pos hc] at hr
  go_simp
  exact panic_end rfl ((HN0.out.step hb1).fail (R := (s, R)) (by rw [← hr]; exact hc) (by rw [← hr]))
 have hr := HR.out
 rw [if_neg (by rw [hc]; simp), if_neg (by omega), if_pos hk] at hr
 have HN1 := Lib.hid (HN0.out.step hb1)
 have hat := HG.out.at_ hx hxn
 rw [dirAt_at hat hx, dataAt_at hat hx] at hr
 have HR1 := Lib.hid hr
 obtain ⟨E, m, e, x0, x1, x2, x3, hE, hgl, hm⟩ := HN1.out.ino hvI hx
 have hds : x.dir = true → x.data.size = 0 := fun h => (HG.out.dirs x (List.mem_of_getElem? hx) h).1
 have d1 := HN1.out.doer.c1
 rw [hk] at d1
 have r12 := HN1.out.doer.r12
 have z12 := HN1.out.doer.fz 12
 have hqg : q ≠ g := fun e => by
  obtain ⟨g2, _, _, _, _, hv2, hz2, _⟩ := HN1.out.own.at_ hx
  obtain ⟨gg, _, cur, hvv, _, _, _, hgc, _⟩ := HN1.out.own.rowI.open_ (by have := (List.getElem?_eq_some_iff.1 hz2).1; omega)
  rw [hvI] at hvv
  injection hvv with e1 _ _
  injection e1 with e1
  injection e1 with e1
  subst e1
  exact blk_ne HN1.out.doer.cell hgc (by decide) e
 have HDS := Lib.hid hds
 obtain ⟨W, hW⟩ : ∃ W, w1.setCell ⟨q, 12, none⟩ (.bool x.dir) = W := ⟨_, rfl⟩
 have hDW : DoerAt W q p c 0 0 x.dir ⟨#[]⟩ (.slice none 0 0) := by rw [← hW]; exact HN1.out.doer.setDir _
 have hOW : Own2 B W p s zs vI vO vM := by rw [← hW]; exact HN1.out.doer.set_own HN1.out.own
 have hLW : Below B w W := by rw [← hW]; exact HN1.out.low.trans (low_set HN1.out.hq)
 have y1 : W.cell? ⟨g, i * 4 + 1, none⟩ = some (.bool x.dir) := by rw [← hW]; exact (World.cell?_setCell_other w1 ⟨q, 12, none⟩ ⟨g, i * 4 + 1, none⟩ _ (by simp [hqg, hqg.symm])).trans x1
 have y3 : W.cell? ⟨g, i * 4 + 3, none⟩ = some (.string x.data) := by rw [← hW]; exact (World.cell?_setCell_other w1 ⟨q, 12, none⟩ ⟨g, i * 4 + 3, none⟩ _ (by simp [hqg, hqg.symm])).trans x3
 have r11 := hDW.r11
 have z11 := hDW.fz 11
 have HDW := Lib.hid hDW
 have HOW := Lib.hid hOW
 have HLW := Lib.hid hLW
 have hq := HN1.out.hq
 obtain ⟨XD, hXD⟩ : ∃ XD, x.dir = XD := ⟨_, rfl⟩
 rw [hXD] at x1 y1 hW
 have HXD := Lib.hid hXD
 clear hr HR hb1 d6 hE hx hxn hvI hat hm hc hds hDW hOW hLW hXD
 cases XD
 ·go_wp2_with fail
  go_returns
  exact ⟨HLW.out.trans (low_set hq), .inr ⟨by show R.code = 0; rw [← HR1.out], rfl, ⟨zs, vI, vO, vM, HDW.out.set_own HOW.out⟩, .slice none 0 0, by show DoerAt _ q p c R.fd R.num R.dir R.data _; rw [← HR1.out]; exact HDW.out.setNum _, by show RowAt B _ _ 1 _ R.names.length _; rw [← HR1.out]; exact ⟨rfl, .inl ⟨none, rfl, rfl⟩⟩⟩⟩
 ·go_wp2_with fail
  go_returns
  exact ⟨HLW.out, .inr ⟨by show R.code = 0; rw [← HR1.out], rfl, ⟨zs, vI, vO, vM, HOW.out⟩, .slice none 0 0, by show DoerAt _ q p c R.fd R.num R.dir R.data _; rw [← HR1.out, HDS.out HXD.out]; exact HDW.out, by show RowAt B _ _ 1 _ R.names.length _; rw [← HR1.out]; exact ⟨rfl, .inl ⟨none, rfl, rfl⟩⟩⟩⟩
end Go.Proofs.YtndcloohcfhejaaGreat
namespace Go.Proofs.YtndcloohcfhejaaGreat
open Go.RowKit
set_option maxRecDepth 100000 in
set_option maxHeartbeats 8000000 in
set_option maxRecDepth 100000 in
set_option maxHeartbeats 8000000 in
theorem mlinksof_any (B q p : Nat) (s : St) (c : Ca) (zs : List (Ino × Value)) (vI vO vM : Value) (w : World) (hN : Now B q p s c zs vI vO vM w w) (hg : Good s) (hp1 : c.path.size ≤ 140737488355328) (hk : c.kind = 14) :
  Calls Tryz.prog 65 #[.pointer (some ⟨q, 0, .none⟩)] w (Ran B q p c (s, looksV s c) w) := by
 obtain ⟨R, hR⟩ : ∃ R, looksV s c = R := ⟨_, rfl⟩
 rw [hR]
 unfold looksV at hR
 have HR := Lib.hid hR
 have HN0 := Lib.hid hN
 have HG := Lib.hid hg
 have d6 := hN.doer.c6
 clear hR hN hg
 go_enter Tryz.func65, Tryz.ntmps65
 go_wp2_with fail
 refine (mat_any B q p s c 0 0 false ⟨#[]⟩ (.slice none 0 0) zs vI vO vM c.path w HN0.out.doer HN0.out.own HG.out hp1).mono ?_
 rintro e1 w1 ⟨hb1, ⟨hc, rfl⟩ | ⟨hc, g, n, d, i, x, hvI, hx, hxn, rfl⟩⟩
 ·have hr := HR.out
  rw [if_pos hc] at hr
  go_simp
  exact panic_end rfl ((HN0.out.step hb1).fail (R := (s, R)) (by rw [← hr]; exact hc) (by rw [← hr]))
 have hr := HR.out
 rw [if_neg (by rw [hc]; simp), if_neg (by omega), if_neg (by omega)] at hr
 have HN1 := Lib.hid (HN0.out.step hb1)
 have hat := HG.out.at_ hx hxn
 rw [dirAt_at hat hx, ← hxn] at hr
 have HR1 := Lib.hid hr
 obtain ⟨E, m, e, x0, x1, x2, x3, hE, hgl, hm⟩ := HN1.out.ino hvI hx
 have d1 := HN1.out.doer.c1
 rw [hk] at d1
 have d0 := HN1.out.doer.c0
 have hqg : q ≠ g := fun e => by
  obtain ⟨g2, _, _, _, _, hv2, hz2, _⟩ := HN1.out.own.at_ hx
  obtain ⟨gg, _, cur, hvv, _, _, _, hgc, _⟩ := HN1.out.own.rowI.open_ (by have := (List.getElem?_eq_some_iff.1 hz2).1; omega)
  rw [hvI] at hvv
  injection hvv with e1 _ _
  injection e1 with e1
  injection e1 with e1
  subst e1
  exact blk_ne HN1.out.doer.cell hgc (by decide) e
 have hqp := HN1.out.ne
 obtain ⟨A, nn, cc, F, mm, dd, M, k2, e2, hA, hE2, hM, rfl, rfl, rfl, hSt⟩ := HN1.out.own.stAt
 have s0 := HN1.out.own.s0
 have s1 := HN1.out.own.s1
 have s2 := HN1.out.own.s2
 rw [hA] at s0
 rw [hE2] at s1
 rw [hM] at s2
 have hq1 := HN1.out.doer.lt
 have hp1' := HN1.out.own.lt
 have HST := Lib.hid hSt
 obtain ⟨XN, hXN⟩ : ∃ XN, x.num = XN := ⟨_, rfl⟩
 rw [hXN] at x0
 have HXN := Lib.hid hXN
 obtain ⟨LK, hLK⟩ : ∃ LK, linkI s.inos XN = LK := ⟨_, rfl⟩
 have HLK := Lib.hid hLK
 clear hr HR hb1 d6 hE hx hxn hvI hat hm hc hA hE2 hM hSt hXN hLK
 cases hd : x.dir
 rotate_left
 ·have hr := HR1.out
  rw [if_pos hd] at hr
  rw [hd] at x1
  go_wp2_with fail
  refine (throw_yes _ _).mono ?_
  rintro e3 w3 ⟨rfl, rfl⟩
  go_wp2_with fail
  exact panic_end rfl (HN1.out.fail (R := (s, R)) (by rw [← hr]; simp) (by rw [← hr]))
 have hr := HR1.out
 rw [if_neg (by rw [hd]; simp), HXN.out, HLK.out] at hr
 have HR2 := Lib.hid hr
 rw [hd] at x1
 have z11 := HN1.out.doer.fz 11
 have r11 := HN1.out.doer.r11
 have hlk := fun (X : Ext w1) => mlinks_any (.agg #[.slice A s.inos.length cc, .slice F s.opn.length dd, .slice M s.made.length e2]) s XN X.w (HST.out.below X.bel)
 rw [HLK.out] at hlk
 have HLC := Lib.hid hlk
 have hX : ∀ (X : Ext w1) (p : Addr), (w1.cell? p).isSome = true → X.w.cell? p = w1.cell? p := fun X p h => X.cell p h
 clear hr hd hlk x2 x3
 go_wp2_with fail
 refine (throw_no _ _).mono ?_
 rintro e3 w3 ⟨rfl, rfl⟩
 go_wp2_with fail
 refine wp_region_ext_tail 15 (by kernel_rfl) (by kernel_rfl) ?_
 simp only [List.take_succ_cons, List.take_zero, List.drop_succ_cons, List.drop_zero]
 repeat (go_big_quiet_step (first | (go_at_call 29; rename_i X; exact Calls.ext_of (HLC.out X))))
 refine wpQuiet_nil ?_
 intro X
 generalize hZe : X.w = w5
 have hb5' : Below w1.heap.size w1 w5 := by rw [← hZe]; exact X.bel
 have r5 := (hb5'.cell (p := ⟨q, 11, none⟩) hq1).trans r11
 have z5 : w5.frozen? ⟨q, 11, none⟩ = false := (hb5'.frozen (p := ⟨q, 11, none⟩) hq1).trans z11
 have HN5 := Lib.hid (HN1.out.step hb5')
 clear hX hZe X hb5'
 go_wp2_with fail
 go_returns
 exact ⟨HN5.out.low.trans (low_set HN5.out.hq), .inr ⟨by show R.code = 0; rw [← HR2.out], rfl, ⟨zs, vI, vO, vM, HN5.out.doer.set_own HN5.out.own⟩, .slice none 0 0, by show DoerAt _ q p c R.fd R.num R.dir R.data _; rw [← HR2.out]; exact HN5.out.doer.setNum _, by show RowAt B _ _ 1 _ R.names.length _; rw [← HR2.out]; exact ⟨rfl, .inl ⟨none, rfl, rfl⟩⟩⟩⟩
end Go.Proofs.YtndcloohcfhejaaGreat
namespace Go.Proofs.YtndcloohcfhejaaGreat
open Go.RowKit
theorem infoStrT : (Tryz.prog.info? 9).map (fun i => (i.zero, i.size, i.bytes)) = some (some (.string ⟨#[]⟩), 1, 16) := by kernel_rfl
theorem DoerAt.kept {w w' : World} {q p : Nat} {c : Ca} {fd num : Int} {dir : Bool} {data : ByteArray} {nv : Value} {r : Option Nat} (h : DoerAt w q p c fd num dir data nv) (hg : w.grownBy w' r) (hr : r ≠ some q) : DoerAt w' q p c fd num dir data nv := ⟨(hg.block q h.lt (fun e => hr e.symm)).trans h.cell⟩
theorem Own2.row_str {B B2 : Nat} {w w' : World} {p : Nat} {s : St} {zs : List (Ino × Value)} {vI vO vM nv : Value} {n : Nat} {xs : List Value} (h : Own2 B w p s zs vI vO vM) (hn : RowAt B2 w 9 1 nv n xs) (hg : w.grownBy w' (rowBlk nv)) : Own2 B w' p s zs vI vO vM := by
 cases hb : rowBlk nv with
 | none =>
  rw [hb] at hg
  exact ⟨h.hp, (hg.block p h.lt (by simp)).trans h.cell, h.inos, h.rowI.kept hg (by simp), fun z hz => (h.ents z hz).kept hg (by simp), h.apart, h.rowO.kept hg (by simp), h.rowM.kept hg (by simp), h.sized⟩
 | some b =>
  rw [hb] at hg
  obtain ⟨_, _, cur, hc⟩ := hn.blk b hb
  exact h.other hg hc (by decide) (by decide) (by decide) (by decide) (by decide)
theorem box_en2 (w : World) (nm : ByteArray) (num : Int) : ∃ W, w.alloc (.cells #[.string nm, .int .i64 num] 77) = W ∧ W.cell? ⟨w.heap.size, 0, none⟩ = some (.string nm) ∧ Below w.heap.size w W ∧ w.heap.size < W.heap.size := by
 refine ⟨_, rfl, ?_, (Below.refl _ _).alloc (Nat.le_refl _) _, by simp⟩
 rw [cell_of_row _ _ _ _ _ (0, 0) (Go.heap_alloc_new w _)]
 rfl
theorem take_one {α : Type} {l : List α} {k : Nat} {e : α} (h : l[k]? = some e) : l.take (k + 1) = l.take k ++ [e] := by
 rw [List.take_add_one, h]
 rfl
set_option maxRecDepth 100000 in
set_option maxHeartbeats 16000000 in
theorem mlist_any (B q p : Nat) (s : St) (c : Ca) (zs : List (Ino × Value)) (vI vO vM : Value) (w : World) (hN : Now B q p s c zs vI vO vM w w) (hg : Good s) (hp1 : c.path.size ≤ 140737488355328) (hk : c.kind = 12) :
  Calls Tryz.prog 65 #[.pointer (some ⟨q, 0, .none⟩)] w (Ran B q p c (s, looksV s c) w) := by
 obtain ⟨R, hR⟩ : ∃ R, looksV s c = R := ⟨_, rfl⟩
 rw [hR]
 unfold looksV at hR
 have HR := Lib.hid hR
 have HN0 := Lib.hid hN
 have HG := Lib.hid hg
 have d6 := hN.doer.c6
 clear hR hN hg
 go_enter Tryz.func65, Tryz.ntmps65
 go_wp2_with fail
 refine (mat_any B q p s c 0 0 false ⟨#[]⟩ (.slice none 0 0) zs vI vO vM c.path w HN0.out.doer HN0.out.own HG.out hp1).mono ?_
 rintro e1 w1 ⟨hb1, ⟨hc, rfl⟩ | ⟨hc, g, n, d, i, x, hvI, hx, hxn, rfl⟩⟩
 ·have hr := HR.out
  rw [if_pos hc] at hr
  go_simp
  exact panic_end rfl ((HN0.out.step hb1).fail (R := (s, R)) (by rw [← hr]; exact hc) (by rw [← hr]))
 have hr := HR.out
 rw [if_neg (by rw [hc]; simp), if_pos hk] at hr
 have HN1 := Lib.hid (HN0.out.step hb1)
 have hat := HG.out.at_ hx hxn
 rw [dirAt_at hat hx, entsOf_at hat hx] at hr
 have HR1 := Lib.hid hr
 obtain ⟨g', c', E, m, d2, hv, hz, hg, hBg, hil, x0, x1, x2, x3, hfz, hmd, hE⟩ := HN1.out.own.at_ hx
 have hgg : g' = g := by rw [hvI] at hv; injection hv with e1 _ _; injection e1 with e1; injection e1 with e1; exact e1.symm
 subst hgg
 have hm : m = x.ents.length := hE.1.symm
 have d1 := HN1.out.doer.c1
 rw [hk] at d1
 have hl32 : x.ents.length ≤ 32 := HG.out.ents_len (List.mem_of_getElem? hx)
 have hnm : ∀ e ∈ x.ents, e.name.size ≤ 140737488355328 := HG.out.text (List.mem_of_getElem? hx)
 have HZ := Lib.hid hz
 have HNM := Lib.hid hnm
 cases hd : x.dir
 ·have hr := HR1.out
  rw [if_pos hd] at hr
  rw [hd] at x1
  clear hb1 hE hx hxn hvI hat hc hnm hv hz hfz hmd x0 x2 x3 hd HR
  go_wp2_with fail
  refine (throw_yes _ _).mono ?_
  rintro e3 w3 ⟨rfl, rfl⟩
  go_wp2_with fail
  exact panic_end rfl (HN1.out.fail (R := (s, R)) (by rw [← hr]; simp) (by rw [← hr]))
 have hr := HR1.out
 rw [if_neg (by rw [hd]; simp)] at hr
 have HR2 := Lib.hid hr
 rw [hd] at x1
 have HM := Lib.hid hm
 have hm32 : m ≤ 32 := by omega
 have hq0 := HN1.out.hq
 have hB1 := HN1.out.hB'
 clear hr hb1 hE hx hxn hvI hat hc hnm hv hz hfz hmd x0 x3 hd HR HR1 hm d6
 go_wp2_with fail
 refine (throw_no _ _).mono ?_
 rintro e3 w3 ⟨rfl, rfl⟩
 go_wp2_with fail
 obtain ⟨bi, hbi, hbz0, hbz1, hbz2⟩ := info_parts infoStrT
 go_loopw [50] (fun j wr => ∃ (k : Nat) (nv : Value), j = .int .i64 k ∧ k ≤ m ∧ Below B w wr ∧ B ≤ wr.heap.size ∧ Own2 B wr p s zs vI vO vM ∧ DoerAt wr q p c 0 0 false ⟨#[]⟩ nv ∧ RowAt B wr 9 1 nv k ((x.ents.take k).map fun e => bstrV e.name)) (fun j _ => m - (intOf j).toNat)
 case atStart => exact ⟨0, _, rfl, by omega, HN1.out.low, hB1, HN1.out.own, HN1.out.doer, rfl, .inl ⟨none, rfl, rfl⟩⟩
 case round =>
  obtain ⟨k, nv, rfl, hk, hbel, hBw, hO, hD, hrow⟩ := hrel
  have hO' := hO
  by_cases hlt : k < m
  ·obtain ⟨E', c9, hE9, hok9, hE⟩ := (hO.ents _ (List.mem_of_getElem? HZ.out)).ents
   have hEE : E = E' ∧ m = x.ents.length := by injection hE9 with e1 e2 e3; exact ⟨e1, HM.out⟩
   rw [← hEE.1, ← hEE.2] at hE
   obtain ⟨g3, off3, e, rfl, hg3, he, hd3, hmem3, f0, f1⟩ := hE.get k hlt
   have k0 : (0 : Int) ≤ (k : Int) := by omega
   have k1 : (k : Int) < (m : Int) := by omega
   obtain ⟨V, hV, v0, hal, hlt3⟩ := box_en2 wr e.name e.num
   obtain ⟨U, hU⟩ : ∃ U, V.drew.alloc (.cells #[.string e.name] 9) = U := ⟨_, rfl⟩
   have hVU : Below V.heap.size V U := by rw [← hU]; exact (Cv.drewN_below (Below.refl _ _) 1).alloc (Nat.le_refl _) _
   have hal2 : Below wr.heap.size wr U := Cv.next hal hVU
   have hUs : U.heap.size = V.heap.size + 1 := by rw [← hU]; simp
   obtain ⟨A9, cp9, rfl, _⟩ := hrow.slice
   have hrowU : RowAt B U 9 1 (.slice A9 k cp9) k ((x.ents.take k).map fun e => bstrV e.name) := hrow.kept (r := none) (rw_none hal2) (fun b _ => by simp)
   have hnb : U.heap[V.heap.size]? = some (.cells #[.string e.name] 9 (0, 0)) := by rw [← hU]; exact Go.heap_alloc_new V.drew _
   obtain ⟨v', w6, happ, hrow', hgr, hbl⟩ := row_append (P := Tryz.prog) hrowU (Nat.le_trans hBw hal2.size) 29 Tryz.underlying29 bi hbi _ hbz0 hbz1 rfl (by rw [hbz2]; omega) (by omega) ⟨V.heap.size, 0, none⟩ [.string e.name] rfl (row_cells hnb 0 _ (fun j u hj => by
    rw [Nat.zero_add]
    cases j with
    | zero => simpa using hj
    | succ j => simp at hj)) (by intro u hu; simp at hu; subst hu; rfl) 1
   obtain ⟨A8, cp8, rfl, _⟩ := hrow'.slice
   have hDV : DoerAt V q p c 0 0 false ⟨#[]⟩ (.slice A9 k cp9) := hD.below hal
   have hDU : DoerAt U q p c 0 0 false ⟨#[]⟩ (.slice A9 k cp9) := hDV.below hVU
   have hqr : rowBlk (.slice A9 k cp9) ≠ some q := fun h9 => by
    obtain ⟨_, _, c1, h1⟩ := hrowU.blk q h9
    exact blk_ne hDU.cell h1 (by decide) rfl
   have hD6 : DoerAt w6 q p c 0 0 false ⟨#[]⟩ (.slice A9 k cp9) := hDU.kept hgr hqr
   have hO6 : Own2 B w6 p s zs vI vO vM := (hO.below hal2).row_str hrowU hgr
   have hb6 : Below B w w6 := hbel.trans ((hal2.mono hBw).trans (rw_below hgr (Nat.le_trans hBw hal2.size) (fun b hb => (hrowU.blk b hb).1)))
   have hs6 : B ≤ w6.heap.size := Nat.le_trans (Nat.le_trans hBw hal2.size) hgr.size
   have r14 := hDV.r14
   have z14 := hDV.fz 14
   have r6 := hD6.r14
   have z6 := hD6.fz 14
   have hqV := hDV.lt
   have hqw : q ≠ wr.heap.size := Nat.ne_of_lt hD.lt
   have k6 : w6.cell? ⟨wr.heap.size, 0, none⟩ = some (.string e.name) := by
    refine (World.cell?_of_block (a := ⟨wr.heap.size, 0, none⟩) (hgr.block wr.heap.size (by rw [hUs]; omega) (fun h9 => ?_))).trans ((hVU.cell (p := ⟨wr.heap.size, 0, none⟩) hlt3).trans v0)
    obtain ⟨_, h8, _⟩ := hrow.blk wr.heap.size h9.symm
    omega
   have htk : x.ents.take (k + 1) = x.ents.take k ++ [e] := take_one he
   have HD6 := Lib.hid hD6
   have HO6 := Lib.hid hO6
   have HB6 := Lib.hid hb6
   have HROW := Lib.hid hrow'
   have HTK := Lib.hid htk
   rw [← hU] at happ
   have HAP := Lib.hid happ
   clear hE hE9 hEE he hd3 hmem3 hal hVU hal2 hrow hrowU hnb hgr hbl hDV hDU hD hO hO' hbel hD6 hO6 hb6 hrow' htk happ hU hUs
   go_wp2_with fail
   go_region_law (refine step_append_runI rfl (.tmp 59) (.tmp 62) 29 rfl (.slice A9 k cp9) (.slice (some ⟨V.heap.size, 0, none⟩) 1 1) (by simp [Act.eval, Act.put]) (by simp [Act.eval, Act.put]) (HAP.out 29) ?_)
   all_goals (
    go_wp2_with fail
    go_roundw
    case rel =>
     refine ⟨k + 1, _, by go_num, by omega, HB6.out.trans (low_set hq0), by simpa [World.setCell] using hs6, HD6.out.set_own HO6.out, HD6.out.setNames _, ?_⟩
     rw [HTK.out, List.map_append]
     exact HROW.out.kept grown_set (fun b hb h9 => by
      obtain ⟨_, _, c1, h1⟩ := HROW.out.blk b hb
      injection h9 with h9
      subst h9
      exact blk_ne HD6.out.cell h1 (by decide) rfl)
    case measure => simp [intOf]; omega)
  ·have q9 : decide ((k : Int) < (m : Int)) = false := by rw [decide_eq_false_iff_not]; omega
   have hkm : k = x.ents.length := by have := HM.out; omega
   have hrow2 : RowAt B wr 9 1 nv R.names.length (R.names.map bstrV) := by
    rw [← HR2.out]
    show RowAt B wr 9 1 nv (x.ents.map (·.name)).length ((x.ents.map (·.name)).map bstrV)
    rw [List.length_map, List.map_map, ← hkm]
    rw [hkm, List.take_length] at hrow
    rw [hkm]
    exact hrow
   have HROW := Lib.hid hrow2
   have HO := Lib.hid hO
   have HD := Lib.hid hD
   have HB := Lib.hid hbel
   clear hrow hrow2 hO hO' hD hbel hkm
   go_wp2_with fail
   go_returns
   exact ⟨HB.out, .inr ⟨by show R.code = 0; rw [← HR2.out], rfl, ⟨zs, vI, vO, vM, HO.out⟩, nv, by show DoerAt _ q p c R.fd R.num R.dir R.data _; rw [← HR2.out]; exact HD.out, HROW.out⟩⟩
theorem make1V_fail (s : St) (c : Ca) (h : (make1V s c).2.code ≠ 0) : make1V s c = (s, { code := (make1V s c).2.code }) := by
 unfold make1V at h ⊢
 split
 ·rfl
 ·split
  ·rfl
  ·split
   ·rfl
   ·rename_i h1 h2 h3
    rw [if_neg h1, if_neg h2, if_neg h3] at h
    exact absurd rfl h
theorem openedV_fail (s : St) (c : Ca) (want : Int) (h : (openedV s c want).2.1.code ≠ 0) : ((openedV s c want).1, (openedV s c want).2.1) = (s, { code := (openedV s c want).2.1.code }) := by
 unfold openedV at h ⊢
 split
 ·rfl
 ·rename_i h1
  rw [if_neg h1] at h
  split
  ·rfl
  ·rename_i h2
   rw [if_neg h2] at h
   split
   ·rfl
   ·rename_i h3
    rw [if_neg h3] at h
    split
    ·rename_i h4
     rw [if_pos h4] at h
     split
     ·rename_i h5
      rw [if_pos h5] at h
      all_goals exact absurd rfl h
     ·rename_i h5
      rw [if_neg h5] at h
      all_goals exact absurd rfl h
    ·rename_i h4
     rw [if_neg h4] at h
     exact absurd rfl h
theorem byFdV_fail (s : St) (c : Ca) (h : (byFdV s c).2.code ≠ 0) : byFdV s c = (s, { code := (byFdV s c).2.code }) := by
 obtain ⟨R, hR⟩ : ∃ R, byFdV s c = R := ⟨_, rfl⟩
 rw [hR] at h ⊢
 unfold byFdV at hR
 repeat' (first | (subst hR; first | rfl | exact absurd rfl h) | split at hR)
theorem linkV_fail (s : St) (c : Ca) (h : (linkV s c).2.code ≠ 0) : linkV s c = (s, { code := (linkV s c).2.code }) := by
 obtain ⟨R, hR⟩ : ∃ R, linkV s c = R := ⟨_, rfl⟩
 rw [hR] at h ⊢
 unfold linkV at hR
 repeat' (first | (subst hR; first | rfl | exact absurd rfl h) | split at hR)
theorem renameV_fail (s : St) (c : Ca) (dir : Int) (name : ByteArray) (num : Int) (h : (renameV s c dir name num).2.code ≠ 0) : renameV s c dir name num = (s, { code := (renameV s c dir name num).2.code }) := by
 obtain ⟨R, hR⟩ : ∃ R, renameV s c dir name num = R := ⟨_, rfl⟩
 rw [hR] at h ⊢
 unfold renameV at hR
 obtain ⟨but, hb⟩ : ∃ but, (if (parentV s.inos c.path2).1 = dir then name else txt []) = but := ⟨_, rfl⟩
 rw [hb] at hR
 repeat' (first | (subst hR; first | rfl | exact absurd rfl h) | split at hR)
theorem namesV_fail (s : St) (c : Ca) (h : (namesV s c).2.code ≠ 0) : namesV s c = (s, { code := (namesV s c).2.code }) := by
 obtain ⟨R, hR⟩ : ∃ R, namesV s c = R := ⟨_, rfl⟩
 rw [hR] at h ⊢
 unfold namesV at hR
 split at hR
 ·subst hR; exact linkV_fail s c h
 ·split at hR
  ·subst hR; rfl
  ·split at hR
   ·subst hR; rfl
   ·split at hR
    ·subst hR; exact renameV_fail s c _ _ _ h
    ·repeat' (first | (subst hR; first | rfl | exact absurd rfl h) | split at hR)
theorem looksV_fail (s : St) (c : Ca) (h : (looksV s c).code ≠ 0) : looksV s c = { code := (looksV s c).code } := by
 obtain ⟨R, hR⟩ : ∃ R, looksV s c = R := ⟨_, rfl⟩
 rw [hR] at h ⊢
 unfold looksV at hR
 repeat' (first | (subst hR; first | rfl | exact absurd rfl h) | split at hR)
theorem doF_fail (s : St) (c : Ca) (want : Int) (h : (doF s c want).2.1.code ≠ 0) : ((doF s c want).1, (doF s c want).2.1) = (s, { code := (doF s c want).2.1.code }) := by
 unfold doF at h ⊢
 split
 ·rfl
 ·rename_i h1
  rw [if_neg h1] at h
  split
  ·rename_i h2
   rw [if_pos h2] at h
   exact make1V_fail s c h
  ·rename_i h2
   rw [if_neg h2] at h
   split
   ·rename_i h3
    rw [if_pos h3] at h
    exact openedV_fail s c want h
   ·rename_i h3
    rw [if_neg h3] at h
    split
    ·rename_i h4
     rw [if_pos h4] at h
     exact byFdV_fail s c h
    ·rename_i h4
     rw [if_neg h4] at h
     split
     ·rename_i h5
      rw [if_pos h5] at h
      exact namesV_fail s c h
     ·rename_i h5
      rw [if_neg h5] at h
      split
      ·rename_i h6
       rw [if_pos h6] at h
       have := looksV_fail s c h
       exact congrArg (fun r => (s, r)) this
      ·rename_i h6
       rw [if_neg h6] at h
       all_goals exact absurd rfl h
theorem doV_fail (s : St) (c : Ca) (h : (doV s c).2.code ≠ 0) : doV s c = (s, { code := (doV s c).2.code }) := doF_fail s c (-1) h
theorem namesV_link (s : St) (c : Ca) (hk : c.kind = 8) : namesV s c = linkV s c := by unfold namesV; rw [if_pos hk]
theorem mrun_all (B q p : Nat) (s : St) (c : Ca) (zs : List (Ino × Value)) (vI vO vM : Value) (w : World) (hN : Now B q p s c zs vI vO vM w w) (hg : Good s) (hp1 : c.path.size ≤ 140737488355328) (hp2 : c.path2.size ≤ 140737488355328) (hds : c.data.size ≤ 140737488355328)
  (hk0 : 0 ≤ c.kind) (hk1 : c.kind ≤ 16) (hc0 : 0 ≤ c.core) (hc1 : c.core < (s.made.length : Int)) :
  Calls Tryz.prog 34 #[.pointer (some ⟨q, 0, .none⟩)] w (Ran B q p c (doV s c) w) := by
 have hm := (good_iff s).2 hg
 have h0 : ¬ (mayV s = false ∨ c.core < 0 ∨ (s.made.length : Int) ≤ c.core ∨ c.kind < 0 ∨ 16 < c.kind) := by
  rw [hm]
  simp
  omega
 have hdo : doV s c = if c.kind ≤ 1 then make1V s c else if c.kind = 2 then ((openedV s c (-1)).1, (openedV s c (-1)).2.1) else if c.kind ≤ 7 ∨ c.kind = 15 then byFdV s c else if c.kind ≤ 11 then namesV s c else if c.kind ≤ 14 then (s, looksV s c) else (s, {}) := by
  unfold doV doF
  rw [if_neg h0]
  repeat' (first | rfl | split)
 have hkk : c.kind = 0 ∨ c.kind = 1 ∨ c.kind = 2 ∨ c.kind = 3 ∨ c.kind = 4 ∨ c.kind = 5 ∨ c.kind = 6 ∨ c.kind = 7 ∨ c.kind = 8 ∨ c.kind = 9 ∨ c.kind = 10 ∨ c.kind = 11 ∨ c.kind = 12 ∨ c.kind = 13 ∨ c.kind = 14 ∨ c.kind = 15 ∨ c.kind = 16 := by omega
 have hco : c.core = ((c.core.toNat : Nat) : Int) := by omega
 rcases hkk with hk | hk | hk | hk | hk | hk | hk | hk | hk | hk | hk | hk | hk | hk | hk | hk | hk
 ·rw [hdo, if_pos (by omega)]
  exact mrun_0 B q p s c zs vI vO vM _ w hN hk (mcreate_any B q p s c c.core.toNat zs vI vO vM w hN hg hp1 hco (by omega) (.inl hk))
 ·rw [hdo, if_pos (by omega)]
  exact mrun_1 B q p s c zs vI vO vM _ w hN hk (mcreate_any B q p s c c.core.toNat zs vI vO vM w hN hg hp1 hco (by omega) (.inr hk))
 ·rw [hdo, if_neg (by omega), if_pos hk]
  exact mrun_2 B q p s c zs vI vO vM _ w hN hk (mopen_any B q p s c zs vI vO vM w hN hg hp1)
 ·rw [hdo, if_neg (by omega), if_neg (by omega), if_pos (by omega)]
  exact mrun_3 B q p s c zs vI vO vM w hN hg hk
 ·rw [hdo, if_neg (by omega), if_neg (by omega), if_pos (by omega)]
  exact mrun_4 B q p s c zs vI vO vM _ w hN hk (mread_any B q p s c zs vI vO vM w hN hg hk)
 ·rw [hdo, if_neg (by omega), if_neg (by omega), if_pos (by omega)]
  exact mrun_5 B q p s c zs vI vO vM _ w hN hk (mwrite_any B q p s c zs vI vO vM w hN hg hk hds)
 ·rw [hdo, if_neg (by omega), if_neg (by omega), if_pos (by omega)]
  exact mrun_6 B q p s c zs vI vO vM _ w hN hk (mtrunc_any B q p s c zs vI vO vM w hN hg hk)
 ·rw [hdo, if_neg (by omega), if_neg (by omega), if_pos (by omega)]
  exact mrun_7 B q p s c zs vI vO vM _ w hN hk (msize_any B q p s c zs vI vO vM w hN hg hk)
 ·rw [hdo, if_neg (by omega), if_neg (by omega), if_neg (by omega), if_pos (by omega), namesV_link s c hk]
  exact mrun_8 B q p s c zs vI vO vM _ w hN hk (mlink_any B q p s c zs vI vO vM w hN hg hp1 hp2)
 ·rw [hdo, if_neg (by omega), if_neg (by omega), if_neg (by omega), if_pos (by omega), namesV_remove s c (.inl hk)]
  exact mrun_9 B q p s c zs vI vO vM _ w hN hk (mremove_any B q p s c zs vI vO vM w hN hg hp1 (.inl hk))
 ·rw [hdo, if_neg (by omega), if_neg (by omega), if_neg (by omega), if_pos (by omega), namesV_remove s c (.inr hk)]
  exact mrun_10 B q p s c zs vI vO vM _ w hN hk (mremove_any B q p s c zs vI vO vM w hN hg hp1 (.inr hk))
 ·rw [hdo, if_neg (by omega), if_neg (by omega), if_neg (by omega), if_pos (by omega), namesV_rename s c hk]
  exact mrun_11 B q p s c zs vI vO vM _ w hN hk (mrename_any B q p s c zs vI vO vM w hN hg hp1 hp2 hk)
 ·rw [hdo, if_neg (by omega), if_neg (by omega), if_neg (by omega), if_neg (by omega), if_pos (by omega)]
  exact mrun_12 B q p s c zs vI vO vM _ w hN hk (mlist_any B q p s c zs vI vO vM w hN hg hp1 hk)
 ·rw [hdo, if_neg (by omega), if_neg (by omega), if_neg (by omega), if_neg (by omega), if_pos (by omega)]
  exact mrun_13 B q p s c zs vI vO vM _ w hN hk (mstat_any B q p s c zs vI vO vM w hN hg hp1 hk)
 ·rw [hdo, if_neg (by omega), if_neg (by omega), if_neg (by omega), if_neg (by omega), if_pos (by omega)]
  exact mrun_14 B q p s c zs vI vO vM _ w hN hk (mlinksof_any B q p s c zs vI vO vM w hN hg hp1 hk)
 ·rw [hdo, if_neg (by omega), if_neg (by omega), if_pos (by omega)]
  exact mrun_15 B q p s c zs vI vO vM w hN hg hk
 ·rw [hdo, if_neg (by omega), if_neg (by omega), if_neg (by omega), if_neg (by omega), if_neg (by omega)]
  exact mrun_16 B q p s c zs vI vO vM w hN hk
end Go.Proofs.YtndcloohcfhejaaGreat
