/- Parts of the proof, side by side: MoTellList, MoRunAll, LaClone. -/
import Derived.Test.YtilkhmhgjbhfnaaGreatDoorM23
import Derived.Test.YtilkhmhgjbhfnaaGreatDoorM25
import Derived.Deep.RegionLaw
import Derived.Test.YtilkhmhgjbhfnaaGreatDoorM24
import Derived.Test.YtilkhmhgjbhfnaaGreatDoorM28
import Derived.Test.YtilkhmhgjbhfnaaGreatDoorMoCreate
import Derived.Test.YtilkhmhgjbhfnaaGreatDoorM27
import Derived.Test.YtilkhmhgjbhfnaaGreatDoorM30
import Derived.Test.YtilkhmhgjbhfnaaGreatDoorM31
import Derived.Test.YtilkhmhgjbhfnaaGreatDoorM32
import Derived.Test.YtilkhmhgjbhfnaaGreatDoorM03
import Derived.Test.YtilkhmhgjbhfnaaGreatDoorM06
set_option linter.unusedVariables false
set_option linter.unusedSimpArgs false
namespace Go.Proofs.YtilkhmhgjbhfnaaGreatDoor
open Go.RowKit
theorem infoStrT : (Tryz.prog.info? 9).map (fun i => (i.zero, i.size, i.bytes)) = some (some (.string ⟨#[]⟩), 1, 16) := by kernel_rfl
theorem DoerAt.kept {w w' : World} {q p : Nat} {c : Ca} {fd num : Int} {dir : Bool} {data : ByteArray} {nv : Value} {r : Option Nat} (h : DoerAt w q p c fd num dir data nv) (hg : w.grownBy w' r) (hr : r ≠ some q) : DoerAt w' q p c fd num dir data nv := ⟨(hg.block q h.lt (fun e => hr e.symm)).trans h.cell⟩
theorem Own2.row_str {B B2 : Nat} {w w' : World} {p : Nat} {s : St} {zs : List (Ino × Value)} {vI vO vM nv : Value} {n : Nat} {xs : List Value} (h : Own2 B w p s zs vI vO vM) (hn : RowAt B2 w 9 1 nv n xs) (hg : w.grownBy w' (rowBlk nv)) : Own2 B w' p s zs vI vO vM := by
 cases hb : rowBlk nv with
 | none =>
  rw [hb] at hg
  exact ⟨h.hp, (hg.block p h.lt (by simp)).trans h.cell, h.inos, h.rowI.kept hg (by simp), fun z hz => (h.ents z hz).kept hg (by simp), h.apart, h.rowO.kept hg (by simp), h.rowM.kept hg (by simp), h.sized⟩
 | some b =>
  rw [hb] at hg
  obtain ⟨_, _, cur, hc⟩ := hn.blk b hb
  exact h.other hg hc (by decide) (by decide) (by decide) (by decide) (by decide)
theorem box_en2 (w : World) (nm : ByteArray) (num : Int) : ∃ W, w.alloc (.cells #[.string nm, .int .i64 num] 131) = W ∧ W.cell? ⟨w.heap.size, 0, none⟩ = some (.string nm) ∧ Below w.heap.size w W ∧ w.heap.size < W.heap.size := by
 refine ⟨_, rfl, ?_, (Below.refl _ _).alloc (Nat.le_refl _) _, by simp⟩
 rw [cell_of_row _ _ _ _ _ (0, 0) (Go.heap_alloc_new w _)]
 rfl
theorem take_one {α : Type} {l : List α} {k : Nat} {e : α} (h : l[k]? = some e) : l.take (k + 1) = l.take k ++ [e] := by
 rw [List.take_add_one, h]
 rfl
set_option maxRecDepth 100000 in
set_option maxHeartbeats 16000000 in
theorem mlist_any (B q p : Nat) (s : St) (c : Ca) (zs : List (Ino × Value)) (vI vO vM : Value) (w : World) (hN : Now B q p s c zs vI vO vM w w) (hg : Good s) (hp1 : c.path.size ≤ 140737488355328) (hk : c.kind = 12) :
  Calls Tryz.prog 94 #[.pointer (some ⟨q, 0, .none⟩)] w (Ran B q p c (s, looksV s c) w) := by
 obtain ⟨R, hR⟩ : ∃ R, looksV s c = R := ⟨_, rfl⟩
 rw [hR]
 unfold looksV at hR
 have HR := Lib.hid hR
 have HN0 := Lib.hid hN
 have HG := Lib.hid hg
 have d6 := hN.doer.c6
 clear hR hN hg
 go_enter Tryz.func94, Tryz.ntmps94
 go_wp2_with fail
 refine (mat_any B q p s c 0 0 false ⟨#[]⟩ (.slice none 0 0) zs vI vO vM c.path w HN0.out.doer HN0.out.own HG.out hp1).mono ?_
 rintro e1 w1 ⟨hb1, ⟨hc, rfl⟩ | ⟨hc, g, n, d, i, x, hvI, hx, hxn, rfl⟩⟩
 ·have hr := HR.out
  rw [if_pos hc] at hr
  go_simp
  exact panic_end rfl ((HN0.out.step hb1).fail (R := (s, R)) (by rw [← hr]; exact hc) (by rw [← hr]))
 have hr := HR.out
 rw [if_neg (by rw [hc]; simp), if_pos hk] at hr
 have HN1 := Lib.hid (HN0.out.step hb1)
 have hat := HG.out.at_ hx hxn
 rw [dirAt_at hat hx, entsOf_at hat hx] at hr
 have HR1 := Lib.hid hr
 obtain ⟨g', c', E, m, d2, hv, hz, hg, hBg, hil, x0, x1, x2, x3, hfz, hmd, hE⟩ := HN1.out.own.at_ hx
 have hgg : g' = g := by rw [hvI] at hv; injection hv with e1 _ _; injection e1 with e1; injection e1 with e1; exact e1.symm
 subst hgg
 have hm : m = x.ents.length := hE.1.symm
 have d1 := HN1.out.doer.c1
 rw [hk] at d1
 have hl32 : x.ents.length ≤ 32 := HG.out.ents_len (List.mem_of_getElem? hx)
 have hnm : ∀ e ∈ x.ents, e.name.size ≤ 140737488355328 := HG.out.text (List.mem_of_getElem? hx)
 have HZ := Lib.hid hz
 have HNM := Lib.hid hnm
 cases hd : x.dir
 ·have hr := HR1.out
  rw [if_pos hd] at hr
  rw [hd] at x1
  clear hb1 hE hx hxn hvI hat hc hnm hv hz hfz hmd x0 x2 x3 hd HR
  go_wp2_with fail
  refine (throw_yes _ _).mono ?_
  rintro e3 w3 ⟨rfl, rfl⟩
  go_wp2_with fail
  exact panic_end rfl (HN1.out.fail (R := (s, R)) (by rw [← hr]; simp) (by rw [← hr]))
 have hr := HR1.out
 rw [if_neg (by rw [hd]; simp)] at hr
 have HR2 := Lib.hid hr
 rw [hd] at x1
 have HM := Lib.hid hm
 have hm32 : m ≤ 32 := by omega
 have hq0 := HN1.out.hq
 have hB1 := HN1.out.hB'
 clear hr hb1 hE hx hxn hvI hat hc hnm hv hz hfz hmd x0 x3 hd HR HR1 hm d6
 go_wp2_with fail
 refine (throw_no _ _).mono ?_
 rintro e3 w3 ⟨rfl, rfl⟩
 go_wp2_with fail
 obtain ⟨bi, hbi, hbz0, hbz1, hbz2⟩ := info_parts infoStrT
 go_loopw [50] (fun j wr => ∃ (k : Nat) (nv : Value), j = .int .i64 k ∧ k ≤ m ∧ Below B w wr ∧ B ≤ wr.heap.size ∧ Own2 B wr p s zs vI vO vM ∧ DoerAt wr q p c 0 0 false ⟨#[]⟩ nv ∧ RowAt B wr 9 1 nv k ((x.ents.take k).map fun e => bstrV e.name)) (fun j _ => m - (intOf j).toNat)
 case atStart => exact ⟨0, _, rfl, by omega, HN1.out.low, hB1, HN1.out.own, HN1.out.doer, rfl, .inl ⟨none, rfl, rfl⟩⟩
 case round =>
  obtain ⟨k, nv, rfl, hk, hbel, hBw, hO, hD, hrow⟩ := hrel
  have hO' := hO
  by_cases hlt : k < m
  ·obtain ⟨E', c9, hE9, hok9, hE⟩ := (hO.ents _ (List.mem_of_getElem? HZ.out)).ents
   have hEE : E = E' ∧ m = x.ents.length := by injection hE9 with e1 e2 e3; exact ⟨e1, HM.out⟩
   rw [← hEE.1, ← hEE.2] at hE
   obtain ⟨g3, off3, e, rfl, hg3, he, hd3, hmem3, f0, f1⟩ := hE.get k hlt
   have k0 : (0 : Int) ≤ (k : Int) := by omega
   have k1 : (k : Int) < (m : Int) := by omega
   obtain ⟨V, hV, v0, hal, hlt3⟩ := box_en2 wr e.name e.num
   obtain ⟨U, hU⟩ : ∃ U, V.drew.alloc (.cells #[.string e.name] 9) = U := ⟨_, rfl⟩
   have hVU : Below V.heap.size V U := by rw [← hU]; exact (Cv.drewN_below (Below.refl _ _) 1).alloc (Nat.le_refl _) _
   have hal2 : Below wr.heap.size wr U := Cv.next hal hVU
   have hUs : U.heap.size = V.heap.size + 1 := by rw [← hU]; simp
   obtain ⟨A9, cp9, rfl, _⟩ := hrow.slice
   have hrowU : RowAt B U 9 1 (.slice A9 k cp9) k ((x.ents.take k).map fun e => bstrV e.name) := hrow.kept (r := none) (rw_none hal2) (fun b _ => by simp)
   have hnb : U.heap[V.heap.size]? = some (.cells #[.string e.name] 9 (0, 0)) := by rw [← hU]; exact Go.heap_alloc_new V.drew _
   obtain ⟨v', w6, happ, hrow', hgr, hbl⟩ := row_append (P := Tryz.prog) hrowU (Nat.le_trans hBw hal2.size) 46 Tryz.underlying46 bi hbi _ hbz0 hbz1 rfl (by rw [hbz2]; omega) (by omega) ⟨V.heap.size, 0, none⟩ [.string e.name] rfl (row_cells hnb 0 _ (fun j u hj => by
    rw [Nat.zero_add]
    cases j with
    | zero => simpa using hj
    | succ j => simp at hj)) (by intro u hu; simp at hu; subst hu; rfl) 1
   obtain ⟨A8, cp8, rfl, _⟩ := hrow'.slice
   have hDV : DoerAt V q p c 0 0 false ⟨#[]⟩ (.slice A9 k cp9) := hD.below hal
   have hDU : DoerAt U q p c 0 0 false ⟨#[]⟩ (.slice A9 k cp9) := hDV.below hVU
   have hqr : rowBlk (.slice A9 k cp9) ≠ some q := fun h9 => by
    obtain ⟨_, _, c1, h1⟩ := hrowU.blk q h9
    exact blk_ne hDU.cell h1 (by decide) rfl
   have hD6 : DoerAt w6 q p c 0 0 false ⟨#[]⟩ (.slice A9 k cp9) := hDU.kept hgr hqr
   have hO6 : Own2 B w6 p s zs vI vO vM := (hO.below hal2).row_str hrowU hgr
   have hb6 : Below B w w6 := hbel.trans ((hal2.mono hBw).trans (rw_below hgr (Nat.le_trans hBw hal2.size) (fun b hb => (hrowU.blk b hb).1)))
   have hs6 : B ≤ w6.heap.size := Nat.le_trans (Nat.le_trans hBw hal2.size) hgr.size
   have r14 := hDV.r14
   have z14 := hDV.fz 14
   have r6 := hD6.r14
   have z6 := hD6.fz 14
   have hqV := hDV.lt
   have hqw : q ≠ wr.heap.size := Nat.ne_of_lt hD.lt
   have k6 : w6.cell? ⟨wr.heap.size, 0, none⟩ = some (.string e.name) := by
    refine (World.cell?_of_block (a := ⟨wr.heap.size, 0, none⟩) (hgr.block wr.heap.size (by rw [hUs]; omega) (fun h9 => ?_))).trans ((hVU.cell (p := ⟨wr.heap.size, 0, none⟩) hlt3).trans v0)
    obtain ⟨_, h8, _⟩ := hrow.blk wr.heap.size h9.symm
    omega
   have htk : x.ents.take (k + 1) = x.ents.take k ++ [e] := take_one he
   have HD6 := Lib.hid hD6
   have HO6 := Lib.hid hO6
   have HB6 := Lib.hid hb6
   have HROW := Lib.hid hrow'
   have HTK := Lib.hid htk
   rw [← hU] at happ
   have HAP := Lib.hid happ
   clear hE hE9 hEE he hd3 hmem3 hal hVU hal2 hrow hrowU hnb hgr hbl hDV hDU hD hO hO' hbel hD6 hO6 hb6 hrow' htk happ hU hUs
   go_wp2_with fail
   go_region_law (refine step_append_runI rfl (.tmp 59) (.tmp 62) 46 rfl (.slice A9 k cp9) (.slice (some ⟨V.heap.size, 0, none⟩) 1 1) (by simp [Act.eval, Act.put]) (by simp [Act.eval, Act.put]) (HAP.out 46) ?_)
   all_goals (
    go_wp2_with fail
    go_roundw
    case rel =>
     refine ⟨k + 1, _, by go_num, by omega, HB6.out.trans (low_set hq0), by simpa [World.setCell] using hs6, HD6.out.set_own HO6.out, HD6.out.setNames _, ?_⟩
     rw [HTK.out, List.map_append]
     exact HROW.out.kept grown_set (fun b hb h9 => by
      obtain ⟨_, _, c1, h1⟩ := HROW.out.blk b hb
      injection h9 with h9
      subst h9
      exact blk_ne HD6.out.cell h1 (by decide) rfl)
    case measure => simp [intOf]; omega)
  ·have q9 : decide ((k : Int) < (m : Int)) = false := by rw [decide_eq_false_iff_not]; omega
   have hkm : k = x.ents.length := by have := HM.out; omega
   have hrow2 : RowAt B wr 9 1 nv R.names.length (R.names.map bstrV) := by
    rw [← HR2.out]
    show RowAt B wr 9 1 nv (x.ents.map (·.name)).length ((x.ents.map (·.name)).map bstrV)
    rw [List.length_map, List.map_map, ← hkm]
    rw [hkm, List.take_length] at hrow
    rw [hkm]
    exact hrow
   have HROW := Lib.hid hrow2
   have HO := Lib.hid hO
   have HD := Lib.hid hD
   have HB := Lib.hid hbel
   clear hrow hrow2 hO hO' hD hbel hkm
   go_wp2_with fail
   go_returns
   exact ⟨HB.out, .inr ⟨by show R.code = 0; rw [← HR2.out], rfl, ⟨zs, vI, vO, vM, HO.out⟩, nv, by show DoerAt _ q p c R.fd R.num R.dir R.data _; rw [← HR2.out]; exact HD.out, HROW.out⟩⟩
theorem make1V_fail (s : St) (c : Ca) (h : (make1V s c).2.code ≠ 0) : make1V s c = (s, { code := (make1V s c).2.code }) := by
 unfold make1V at h ⊢
 split
 ·rfl
 ·split
  ·rfl
  ·split
   ·rfl
   ·rename_i h1 h2 h3
    rw [if_neg h1, if_neg h2, if_neg h3] at h
    exact absurd rfl h
theorem openedV_fail (s : St) (c : Ca) (want : Int) (h : (openedV s c want).2.1.code ≠ 0) : ((openedV s c want).1, (openedV s c want).2.1) = (s, { code := (openedV s c want).2.1.code }) := by
 unfold openedV at h ⊢
 split
 ·rfl
 ·rename_i h1
  rw [if_neg h1] at h
  split
  ·rfl
  ·rename_i h2
   rw [if_neg h2] at h
   split
   ·rfl
   ·rename_i h3
    rw [if_neg h3] at h
    split
    ·rename_i h4
     rw [if_pos h4] at h
     split
     ·rename_i h5
      rw [if_pos h5] at h
      all_goals exact absurd rfl h
     ·rename_i h5
      rw [if_neg h5] at h
      all_goals exact absurd rfl h
    ·rename_i h4
     rw [if_neg h4] at h
     exact absurd rfl h
theorem byFdV_fail (s : St) (c : Ca) (h : (byFdV s c).2.code ≠ 0) : byFdV s c = (s, { code := (byFdV s c).2.code }) := by
 obtain ⟨R, hR⟩ : ∃ R, byFdV s c = R := ⟨_, rfl⟩
 rw [hR] at h ⊢
 unfold byFdV at hR
 repeat' (first | (subst hR; first | rfl | exact absurd rfl h) | split at hR)
theorem linkV_fail (s : St) (c : Ca) (h : (linkV s c).2.code ≠ 0) : linkV s c = (s, { code := (linkV s c).2.code }) := by
 obtain ⟨R, hR⟩ : ∃ R, linkV s c = R := ⟨_, rfl⟩
 rw [hR] at h ⊢
 unfold linkV at hR
 repeat' (first | (subst hR; first | rfl | exact absurd rfl h) | split at hR)
theorem renameV_fail (s : St) (c : Ca) (dir : Int) (name : ByteArray) (num : Int) (h : (renameV s c dir name num).2.code ≠ 0) : renameV s c dir name num = (s, { code := (renameV s c dir name num).2.code }) := by
 obtain ⟨R, hR⟩ : ∃ R, renameV s c dir name num = R := ⟨_, rfl⟩
 rw [hR] at h ⊢
 unfold renameV at hR
 obtain ⟨but, hb⟩ : ∃ but, (if (parentV s.inos c.path2).1 = dir then name else txt []) = but := ⟨_, rfl⟩
 rw [hb] at hR
 repeat' (first | (subst hR; first | rfl | exact absurd rfl h) | split at hR)
theorem namesV_fail (s : St) (c : Ca) (h : (namesV s c).2.code ≠ 0) : namesV s c = (s, { code := (namesV s c).2.code }) := by
 obtain ⟨R, hR⟩ : ∃ R, namesV s c = R := ⟨_, rfl⟩
 rw [hR] at h ⊢
 unfold namesV at hR
 split at hR
 ·subst hR; exact linkV_fail s c h
 ·split at hR
  ·subst hR; rfl
  ·split at hR
   ·subst hR; rfl
   ·split at hR
    ·subst hR; exact renameV_fail s c _ _ _ h
    ·repeat' (first | (subst hR; first | rfl | exact absurd rfl h) | split at hR)
theorem looksV_fail (s : St) (c : Ca) (h : (looksV s c).code ≠ 0) : looksV s c = { code := (looksV s c).code } := by
 obtain ⟨R, hR⟩ : ∃ R, looksV s c = R := ⟨_, rfl⟩
 rw [hR] at h ⊢
 unfold looksV at hR
 repeat' (first | (subst hR; first | rfl | exact absurd rfl h) | split at hR)
theorem doF_fail (s : St) (c : Ca) (want : Int) (h : (doF s c want).2.1.code ≠ 0) : ((doF s c want).1, (doF s c want).2.1) = (s, { code := (doF s c want).2.1.code }) := by
 unfold doF at h ⊢
 split
 ·rfl
 ·rename_i h1
  rw [if_neg h1] at h
  split
  ·rename_i h2
   rw [if_pos h2] at h
   exact make1V_fail s c h
  ·rename_i h2
   rw [if_neg h2] at h
   split
   ·rename_i h3
    rw [if_pos h3] at h
    exact openedV_fail s c want h
   ·rename_i h3
    rw [if_neg h3] at h
    split
    ·rename_i h4
     rw [if_pos h4] at h
     exact byFdV_fail s c h
    ·rename_i h4
     rw [if_neg h4] at h
     split
     ·rename_i h5
      rw [if_pos h5] at h
      exact namesV_fail s c h
     ·rename_i h5
      rw [if_neg h5] at h
      split
      ·rename_i h6
       rw [if_pos h6] at h
       have := looksV_fail s c h
       exact congrArg (fun r => (s, r)) this
      ·rename_i h6
       rw [if_neg h6] at h
       all_goals exact absurd rfl h
theorem doV_fail (s : St) (c : Ca) (h : (doV s c).2.code ≠ 0) : doV s c = (s, { code := (doV s c).2.code }) := doF_fail s c (-1) h
theorem namesV_link (s : St) (c : Ca) (hk : c.kind = 8) : namesV s c = linkV s c := by unfold namesV; rw [if_pos hk]
theorem mrun_all (B q p : Nat) (s : St) (c : Ca) (zs : List (Ino × Value)) (vI vO vM : Value) (w : World) (hN : Now B q p s c zs vI vO vM w w) (hg : Good s) (hp1 : c.path.size ≤ 140737488355328) (hp2 : c.path2.size ≤ 140737488355328) (hds : c.data.size ≤ 140737488355328)
  (hk0 : 0 ≤ c.kind) (hk1 : c.kind ≤ 16) (hc0 : 0 ≤ c.core) (hc1 : c.core < (s.made.length : Int)) :
  Calls Tryz.prog 65 #[.pointer (some ⟨q, 0, .none⟩)] w (Ran B q p c (doV s c) w) := by
 have hm := (good_iff s).2 hg
 have h0 : ¬ (mayV s = false ∨ c.core < 0 ∨ (s.made.length : Int) ≤ c.core ∨ c.kind < 0 ∨ 16 < c.kind) := by
  rw [hm]
  simp
  omega
 have hdo : doV s c = if c.kind ≤ 1 then make1V s c else if c.kind = 2 then ((openedV s c (-1)).1, (openedV s c (-1)).2.1) else if c.kind ≤ 7 ∨ c.kind = 15 then byFdV s c else if c.kind ≤ 11 then namesV s c else if c.kind ≤ 14 then (s, looksV s c) else (s, {}) := by
  unfold doV doF
  rw [if_neg h0]
  repeat' (first | rfl | split)
 have hkk : c.kind = 0 ∨ c.kind = 1 ∨ c.kind = 2 ∨ c.kind = 3 ∨ c.kind = 4 ∨ c.kind = 5 ∨ c.kind = 6 ∨ c.kind = 7 ∨ c.kind = 8 ∨ c.kind = 9 ∨ c.kind = 10 ∨ c.kind = 11 ∨ c.kind = 12 ∨ c.kind = 13 ∨ c.kind = 14 ∨ c.kind = 15 ∨ c.kind = 16 := by omega
 have hco : c.core = ((c.core.toNat : Nat) : Int) := by omega
 rcases hkk with hk | hk | hk | hk | hk | hk | hk | hk | hk | hk | hk | hk | hk | hk | hk | hk | hk
 ·rw [hdo, if_pos (by omega)]
  exact mrun_0 B q p s c zs vI vO vM _ w hN hk (mcreate_any B q p s c c.core.toNat zs vI vO vM w hN hg hp1 hco (by omega) (.inl hk))
 ·rw [hdo, if_pos (by omega)]
  exact mrun_1 B q p s c zs vI vO vM _ w hN hk (mcreate_any B q p s c c.core.toNat zs vI vO vM w hN hg hp1 hco (by omega) (.inr hk))
 ·rw [hdo, if_neg (by omega), if_pos hk]
  exact mrun_2 B q p s c zs vI vO vM _ w hN hk (mopen_any B q p s c zs vI vO vM w hN hg hp1)
 ·rw [hdo, if_neg (by omega), if_neg (by omega), if_pos (by omega)]
  exact mrun_3 B q p s c zs vI vO vM w hN hg hk
 ·rw [hdo, if_neg (by omega), if_neg (by omega), if_pos (by omega)]
  exact mrun_4 B q p s c zs vI vO vM _ w hN hk (mread_any B q p s c zs vI vO vM w hN hg hk)
 ·rw [hdo, if_neg (by omega), if_neg (by omega), if_pos (by omega)]
  exact mrun_5 B q p s c zs vI vO vM _ w hN hk (mwrite_any B q p s c zs vI vO vM w hN hg hk hds)
 ·rw [hdo, if_neg (by omega), if_neg (by omega), if_pos (by omega)]
  exact mrun_6 B q p s c zs vI vO vM _ w hN hk (mtrunc_any B q p s c zs vI vO vM w hN hg hk)
 ·rw [hdo, if_neg (by omega), if_neg (by omega), if_pos (by omega)]
  exact mrun_7 B q p s c zs vI vO vM _ w hN hk (msize_any B q p s c zs vI vO vM w hN hg hk)
 ·rw [hdo, if_neg (by omega), if_neg (by omega), if_neg (by omega), if_pos (by omega), namesV_link s c hk]
  exact mrun_8 B q p s c zs vI vO vM _ w hN hk (mlink_any B q p s c zs vI vO vM w hN hg hp1 hp2)
 ·rw [hdo, if_neg (by omega), if_neg (by omega), if_neg (by omega), if_pos (by omega), namesV_remove s c (.inl hk)]
  exact mrun_9 B q p s c zs vI vO vM _ w hN hk (mremove_any B q p s c zs vI vO vM w hN hg hp1 (.inl hk))
 ·rw [hdo, if_neg (by omega), if_neg (by omega), if_neg (by omega), if_pos (by omega), namesV_remove s c (.inr hk)]
  exact mrun_10 B q p s c zs vI vO vM _ w hN hk (mremove_any B q p s c zs vI vO vM w hN hg hp1 (.inr hk))
 ·rw [hdo, if_neg (by omega), if_neg (by omega), if_neg (by omega), if_pos (by omega), namesV_rename s c hk]
  exact mrun_11 B q p s c zs vI vO vM _ w hN hk (mrename_any B q p s c zs vI vO vM w hN hg hp1 hp2 hk)
 ·rw [hdo, if_neg (by omega), if_neg (by omega), if_neg (by omega), if_neg (by omega), if_pos (by omega)]
  exact mrun_12 B q p s c zs vI vO vM _ w hN hk (mlist_any B q p s c zs vI vO vM w hN hg hp1 hk)
 ·rw [hdo, if_neg (by omega), if_neg (by omega), if_neg (by omega), if_neg (by omega), if_pos (by omega)]
  exact mrun_13 B q p s c zs vI vO vM _ w hN hk (mstat_any B q p s c zs vI vO vM w hN hg hp1 hk)
 ·rw [hdo, if_neg (by omega), if_neg (by omega), if_neg (by omega), if_neg (by omega), if_pos (by omega)]
  exact mrun_14 B q p s c zs vI vO vM _ w hN hk (mlinksof_any B q p s c zs vI vO vM w hN hg hp1 hk)
 ·rw [hdo, if_neg (by omega), if_neg (by omega), if_pos (by omega)]
  exact mrun_15 B q p s c zs vI vO vM w hN hg hk
 ·rw [hdo, if_neg (by omega), if_neg (by omega), if_neg (by omega), if_neg (by omega), if_neg (by omega)]
  exact mrun_16 B q p s c zs vI vO vM w hN hk
theorem eql_slice_nil {P : Program} (t e : TypeId) (h : P.underlying t = some (.slice e)) (a : Option Addr) (l c : Nat) (w : World) : (binOp .eql t (.slice a l c) (.slice .none 0 0)).run P w = .ok (.bool a.isNone) w := by
 simp only [binOp]
 simp [run_equal_slice_nil w t e a l c h]
theorem InosAt.zs {w : World} {g off n : Nat} {is : List Ino} (h : InosAt none w (some ⟨g, off, none⟩) n is) (hn : 0 < n) :
  ∃ zs : List (Ino × Value), zs.map Prod.fst = is ∧ (∀ z ∈ zs, ∃ A m c, z.2 = .slice A m c ∧ SlOk A m c ∧ EntsAt none w A m z.1.ents) ∧ ∀ j u, (zs.flatMap inoV)[j]? = some u → w.cell? ((⟨g, off, none⟩ : Addr).add j) = some u := by
 obtain ⟨g', off', hA, hg, _, hc⟩ := h.2 hn
 injection hA with hA
 injection hA with e1 e2
 subst e1 e2
 obtain ⟨zs, hzs⟩ : ∃ zs : List (Ino × Value), zs = is.mapIdx (fun j x => (x, (w.cell? ⟨g, off + j * 4 + 2, none⟩).getD (.bool false))) := ⟨_, rfl⟩
 have hget : ∀ j z, zs[j]? = some z → ∃ x, is[j]? = some x ∧ z = (x, (w.cell? ⟨g, off + j * 4 + 2, none⟩).getD (.bool false)) := by
  intro j z hz
  rw [hzs, List.getElem?_mapIdx] at hz
  obtain ⟨x, hx, he⟩ := Option.map_eq_some_iff.1 hz
  exact ⟨x, hx, he.symm⟩
 refine ⟨zs, ?_, ?_, ?_⟩
 ·apply List.ext_getElem?
  intro j
  rw [hzs, List.getElem?_map, List.getElem?_mapIdx]
  cases is[j]? <;> rfl
 ·intro z hz
  obtain ⟨j, hj⟩ := List.getElem?_of_mem hz
  obtain ⟨x, hx, rfl⟩ := hget j z hj
  obtain ⟨_, _, ⟨B, m, c, h3, h4, h5⟩, _⟩ := hc j x hx
  exact ⟨B, m, c, by simp [h3], h4, h5⟩
 ·refine flat_cells inoV 4 (fun _ => rfl) (by decide) zs (fun j z hz i hi => ?_)
  obtain ⟨x, hx, rfl⟩ := hget j z hz
  obtain ⟨h1, h2, ⟨B, m, c, h3, _, _⟩, h4⟩ := hc j x hx
  rcases i with _ | _ | _ | _ | i
  ·exact h1
  ·exact h2
  ·show w.cell? ⟨g, off + j * 4 + 2, none⟩ = some ((w.cell? ⟨g, off + j * 4 + 2, none⟩).getD (.bool false))
   rw [h3]; rfl
  ·exact h4
  ·omega
structure Kept (W0 w : World) (g n : Nat) (zs : List (Ino × Value)) : Prop where
 row : ∃ cur, w.heap[g]? = some (.cells cur 65 (0, 0)) ∧ ∀ (j : Nat) (v : Value), (zs.flatMap inoV)[j]? = some v → cur[j]? = some v
 len : zs.length = n
 ents : ∀ z ∈ zs, ∃ A m c, z.2 = .slice A m c ∧ SlOk A m c ∧ EntsAt none W0 A m z.1.ents
theorem Kept.lt {W0 w : World} {g n : Nat} {zs : List (Ino × Value)} (h : Kept W0 w g n zs) : g < w.heap.size := by
 obtain ⟨cur, h1, _⟩ := h.row
 exact (Array.getElem?_eq_some_iff.1 h1).1
theorem Kept.same {W0 w w' : World} {g n : Nat} {zs : List (Ino × Value)} (h : Kept W0 w g n zs) (hb : ∀ cur, w.heap[g]? = some (.cells cur 65 (0, 0)) → w'.heap[g]? = some (.cells cur 65 (0, 0))) : Kept W0 w' g n zs := by
 obtain ⟨cur, h1, h2⟩ := h.row
 exact ⟨⟨cur, hb cur h1, h2⟩, h.len, h.ents⟩
theorem Kept.below {W0 w w' : World} {g n : Nat} {zs : List (Ino × Value)} (h : Kept W0 w g n zs) (hb : Below w.heap.size w w') : Kept W0 w' g n zs :=
 h.same fun cur h1 => (hb.block g (Array.getElem?_eq_some_iff.1 h1).1).trans h1
theorem Kept.wr {W0 w w' : World} {B b g n : Nat} {zs : List (Ino × Value)} (h : Kept W0 w g n zs) (hb : Wr B b w w') (hne : g ≠ b) : Kept W0 w' g n zs :=
 h.same fun cur h1 => hb.keep g _ h1 hne (by intro cs fr h9; injection h9 with _ h9; exact absurd h9 (by decide))
theorem Kept.get {W0 w : World} {g n : Nat} {zs : List (Ino × Value)} (h : Kept W0 w g n zs) (j : Nat) (hj : j < n) : ∃ x A m c, (zs.map Prod.fst)[j]? = some x ∧ SlOk A m c ∧ EntsAt none W0 A m x.ents ∧
  w.cell? ⟨g, j * 4, none⟩ = some (.int .i64 x.num) ∧ w.cell? ⟨g, j * 4 + 1, none⟩ = some (.bool x.dir) ∧ w.cell? ⟨g, j * 4 + 2, none⟩ = some (.slice A m c) ∧ w.cell? ⟨g, j * 4 + 3, none⟩ = some (.string x.data) := by
 obtain ⟨cur, h1, h2⟩ := h.row
 have hl : j < zs.length := by rw [h.len]; exact hj
 obtain ⟨z, hz⟩ : ∃ z, zs[j]? = some z := ⟨_, List.getElem?_eq_getElem hl⟩
 have f := flat_get inoV 4 (fun x => rfl) zs j z hz
 obtain ⟨A, m, c, he, hok, hE⟩ := h.ents z (List.mem_of_getElem? hz)
 refine ⟨z.1, A, m, c, by rw [List.getElem?_map, hz]; rfl, hok, hE, ?_, ?_, ?_, ?_⟩
 ·rw [cell_of_row w g _ cur _ (0, 0) h1]; exact h2 _ _ (f 0 (by omega))
 ·rw [cell_of_row w g _ cur _ (0, 0) h1]; exact h2 _ _ (f 1 (by omega))
 ·rw [cell_of_row w g _ cur _ (0, 0) h1, ← he]; exact h2 _ _ (f 2 (by omega))
 ·rw [cell_of_row w g _ cur _ (0, 0) h1]; exact h2 _ _ (f 3 (by omega))
theorem Kept.cells {W0 w : World} {g n : Nat} {zs : List (Ino × Value)} (h : Kept W0 w g n zs) {j : Nat} {z : Ino × Value} {A : Option Addr} {m c : Nat} (hz : zs[j]? = some z) (he : z.2 = .slice A m c) :
  w.cell? ⟨g, j * 4, none⟩ = some (.int .i64 z.1.num) ∧ w.cell? ⟨g, j * 4 + 1, none⟩ = some (.bool z.1.dir) ∧ w.cell? ⟨g, j * 4 + 2, none⟩ = some (.slice A m c) ∧ w.cell? ⟨g, j * 4 + 3, none⟩ = some (.string z.1.data) := by
 obtain ⟨cur, h1, h2⟩ := h.row
 have f := flat_get inoV 4 (fun x => rfl) zs j z hz
 refine ⟨?_, ?_, ?_, ?_⟩
 ·rw [cell_of_row w g _ cur _ (0, 0) h1]; exact h2 _ _ (f 0 (by omega))
 ·rw [cell_of_row w g _ cur _ (0, 0) h1]; exact h2 _ _ (f 1 (by omega))
 ·rw [cell_of_row w g _ cur _ (0, 0) h1, ← he]; exact h2 _ _ (f 2 (by omega))
 ·rw [cell_of_row w g _ cur _ (0, 0) h1]; exact h2 _ _ (f 3 (by omega))
theorem Kept.inos {W0 w : World} {g n : Nat} {zs : List (Ino × Value)} (h : Kept W0 w g n zs) (hb : Below W0.heap.size W0 w) : InosAt none w (some ⟨g, 0, none⟩) n (zs.map Prod.fst) := by
 refine ⟨by rw [List.length_map, h.len], fun _ => ⟨g, 0, rfl, h.lt, Mine.any _ _ _, fun j x hx => ?_⟩⟩
 have hj : j < n := by
  have := (List.getElem?_eq_some_iff.1 hx).1
  rw [List.length_map, h.len] at this
  exact this
 obtain ⟨y, A, m, c, h1, h2, h3, h4, h5, h6, h7⟩ := h.get j hj
 have : y = x := by rw [h1] at hx; exact Option.some.inj hx
 subst this
 rw [Nat.zero_add]
 exact ⟨h4, h5, ⟨A, m, c, h6, h2, h3.below hb⟩, h7⟩
theorem inoV_one {w : World} (zs : List (Ino × Value)) (he : ∀ z ∈ zs, ∃ A m c, z.2 = .slice A m c ∧ SlOk A m c ∧ EntsAt none w A m z.1.ents) : ∀ u ∈ zs.flatMap inoV, u.oneCell' = true := by
 intro u hu
 obtain ⟨z, hz, hu2⟩ := List.mem_flatMap.1 hu
 obtain ⟨A, m, c, h1, _⟩ := he z hz
 simp [inoV, h1] at hu2
 rcases hu2 with rfl | rfl | rfl | rfl <;> rfl
end Go.Proofs.YtilkhmhgjbhfnaaGreatDoor
