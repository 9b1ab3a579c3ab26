/- Parts of the proof, side by side: MoTake, MoParent, MoFull, MoRan, MoFile2. -/
import Derived.Test.YtilkhmhgjbhfnaaGreatDoorM22
import Derived.Test.YtilkhmhgjbhfnaaGreatDoorM13
import Derived.Test.YtilkhmhgjbhfnaaGreatDoorM07
import Derived.Test.YtilkhmhgjbhfnaaGreatDoorM02
set_option linter.unusedVariables false
set_option linter.unusedSimpArgs false
namespace Go.Proofs.YtilkhmhgjbhfnaaGreatDoor
open Go.RowKit
set_option maxRecDepth 100000 in
set_option maxHeartbeats 8000000 in
theorem mtake_no (B p : Nat) (s : St) (zs : List (Ino × Value)) (vI vO vM : Value) (i : Nat) (x : Ino) (name : ByteArray) (g n d : Nat) (w : World) (hO : Own2 B w p s zs vI vO vM) (hx : s.inos[i]? = some x) (hvI : vI = .slice (some ⟨g, 0, none⟩) n d) (hr : RiseE x.ents) (hno : ∀ e ∈ x.ents, e.name ≠ name) (hlen : x.ents.length ≤ 1000000) :
  Calls Tryz.prog 146 #[.pointer (some ⟨g, i * 4, .none⟩), .string name] w fun e w' => e = .panicked (faultP 1) ∧ Below w.heap.size w w' := by
 obtain ⟨g', c, E, m, d2, hv, hz, hg, hBg, hil, _, _, c2, _, hfz, hmd, hE⟩ := hO.at_ hx
 have hgg : g' = g := by rw [hvI] at hv; injection hv with e1 _ _; injection e1 with e1; injection e1 with e1; exact e1.symm
 subst hgg
 have hm : m = x.ents.length := hE.1.symm
 have hmb : m ≤ 1000000 := by omega
 have HE := Lib.hid hE
 have HNO := Lib.hid hno
 clear hO hE hno hz hfz hv hvI hx hmd hm hlen
 go_enter Tryz.func146, Tryz.ntmps146
 go_wp2_with fail
 refine (mentry_any x.ents E m d2 name _ HE.out (by omega) hr).mono ?_
 rintro e5 w5 ⟨k, b, rfl, hb5, hpos⟩
 have hb : b = false := by
  cases b
  ·rfl
  ·obtain ⟨e, he, hn⟩ := hpos.is_ rfl
   exact absurd hn (HNO.out e (List.mem_of_getElem? he))
 subst hb
 have HB := Lib.hid hb5
 clear hb5 hpos c2
 go_wp2_with fail
 refine (throw_yes _ _).mono ?_
 rintro e3 w3 ⟨rfl, rfl⟩
 go_wp2_with fail
 exact panic_end rfl ⟨rfl, HB.out⟩
set_option maxRecDepth 100000 in
set_option maxHeartbeats 8000000 in
theorem mtake_any (B p : Nat) (s : St) (zs : List (Ino × Value)) (vI vO vM : Value) (i : Nat) (x : Ino) (en : En) (name : ByteArray) (g n d : Nat) (w : World) (hO : Own2 B w p s zs vI vO vM) (hB : B ≤ w.heap.size) (hx : s.inos[i]? = some x) (hvI : vI = .slice (some ⟨g, 0, none⟩) n d) (hr : RiseE x.ents) (hen : en ∈ x.ents) (hnm : en.name = name)
  (hlen : x.ents.length ≤ 1000000) (hs : Sized { s with inos := s.inos.set i { x with ents := dropE x.ents name } }) :
  Calls Tryz.prog 146 #[.pointer (some ⟨g, i * 4, .none⟩), .string name] w fun e w' => e = .returned (.int .i64 (entG x.ents name)) ∧ Turns B p w w' ∧ ∃ zs', Own2 B w' p { s with inos := s.inos.set i { x with ents := dropE x.ents name } } zs' vI vO vM := by
 obtain ⟨g', c, E, m, d2, hv, hz, hg, hBg, hil, _, _, c2, _, hfz, hmd, hE⟩ := hO.at_ hx
 have hgg : g' = g := by rw [hvI] at hv; injection hv with e1 _ _; injection e1 with e1; injection e1 with e1; exact e1.symm
 subst hgg
 have hm : m = x.ents.length := hE.1.symm
 have hmb : m ≤ 1000000 := by omega
 have HM := Lib.hid hm
 have HO := Lib.hid hO
 have HE := Lib.hid hE
 have HEN := Lib.hid (show ∃ e ∈ x.ents, e.name = name from ⟨en, hen, hnm⟩)
 have HS := Lib.hid hs
 have HZ := Lib.hid hz
 have HVI := Lib.hid hvI
 obtain ⟨ER, hER⟩ : ∃ ER, entG x.ents name = ER := ⟨_, rfl⟩
 rw [hER]
 have HER := Lib.hid hER
 clear hO hE hs hz hfz hv hvI hx hmd hm hlen hER hen hnm
 go_enter Tryz.func146, Tryz.ntmps146
 go_wp2_with fail
 refine (mentry_any x.ents E m d2 name _ HE.out (by omega) hr).mono ?_
 rintro e5 w5 ⟨k, b, rfl, hb5, hpos⟩
 have hb : b = true := by
  obtain ⟨e, he, hn⟩ := HEN.out
  obtain ⟨j, hj⟩ := List.getElem?_of_mem he
  have : k = j := by
   rcases Nat.lt_trichotomy k j with h | h | h
   ·have h1 := hpos.hi k
    cases hk : x.ents[k]? with
    | none =>
     have h2 := (List.getElem?_eq_some_iff.1 hj).1
     rw [List.getElem?_eq_none_iff] at hk
     omega
    | some y =>
     have h2 := hr k j y e h hk hj
     rw [hn, h1 y (Nat.le_refl _) hk] at h2
     cases h2
   ·exact h
   ·have h1 := hpos.lo j e h hj
    rw [hn, ltN_irrefl] at h1
    cases h1
  subst this
  exact hpos.of_ ⟨e, hj, hn⟩
 subst hb
 have hdrop := dropE_pos x.ents name k hr hpos
 obtain ⟨e, he, hn⟩ := hpos.is_ rfl
 have hnum : e.num = ER := by rw [← HER.out]; exact ((entG_pos x.ents name k true hr hpos).2 e he rfl).symm
 have hkm : k < m := by have := (List.getElem?_eq_some_iff.1 he).1; have := HM.out; omega
 have HO5 := HO.out.below hb5
 have hg5 : g' < w5.heap.size := Nat.lt_of_lt_of_le hg hb5.size
 have c5 := (hb5.cell (p := ⟨g', i * 4 + 2, none⟩) hg).trans c2
 obtain ⟨ge, oe, e', hEE, hge, he', _, _, f0, f1⟩ := (HE.out.below hb5).get k hkm
 have ex : e = e' := by rw [he] at he'; exact Option.some.inj he'
 subst ex
 rw [hnum] at f1
 subst hEE
 have hB5 : B ≤ w5.heap.size := by have := hb5.size; omega
 have hrow := HO5.ents _ (List.mem_of_getElem? HZ.out)
 obtain ⟨c1, hc1⟩ : ∃ c1, w5.heap[g']? = some (.cells c1 65 (0, 0)) := by
  obtain ⟨gg, _, cur, hvv, _, _, _, hgc, _⟩ := HO5.rowI.open_ (by have := (List.getElem?_eq_some_iff.1 HZ.out).1; omega)
  rw [HVI.out] at hvv
  injection hvv with e1 _ _
  injection e1 with e1
  injection e1 with e1
  subst e1
  exact ⟨cur, hgc⟩
 have hnI : rowBlk (.slice (some ⟨ge, oe, none⟩) m d2) ≠ some g' := some_ne_of fun a ha => by
  obtain ⟨_, _, c3, h3⟩ := hrow.blk a ha
  exact blk_ne h3 hc1 (by decide)
 have hfv : ∀ j, w5.frozen? ⟨g', j, none⟩ = false := fun j => frozen_of_row w5 g' j _ _ hc1
 have k0 : (0 : Int) ≤ (k : Int) := by omega
 have k1 : (k : Int) < (m : Int) := by omega
 have kw : IntKind.i64.wrap ((k : Int) + 1) = (k : Int) + 1 := by rw [IntKind.wrap_i64]; omega
 have HT5 := Lib.hid (Turns.of_below (B := B) (p := p) hb5 hB)
 have HROW := Lib.hid hrow
 have HNI := Lib.hid hnI
 have HFV := Lib.hid hfv
 have HDROP := Lib.hid hdrop
 have HO5' := Lib.hid HO5
 clear hb5 hpos hdrop HO5 c2 hrow hnI hfv hc1 he he' hn hnum
 go_wp2_with fail
 refine (throw_no _ _).mono ?_
 rintro e3 w3 ⟨rfl, rfl⟩
 go_wp2_with fail
 refine (delE_any B m k (.slice (some ⟨ge, oe, none⟩) m d2) (x.ents.flatMap enV) w5 (by have h := HROW.out; rwa [← HM.out] at h) hkm (one_en _)).mono ?_
 rintro e6 w6 ⟨v', rfl, hrow', hgr, hbl⟩
 obtain ⟨A', c', rfl, hok'⟩ := hrow'.slice
 have g6 : w6.heap[g']? = w5.heap[g']? := hgr.block g' hg5 (fun e => HNI.out e.symm)
 have c6 : w6.cell? ⟨g', i * 4 + 2, none⟩ = some (.slice (some ⟨ge, oe, none⟩) m d2) := (World.cell?_of_block (a := ⟨g', i * 4 + 2, none⟩) g6).trans c5
 have f6 : w6.frozen? ⟨g', i * 4 + 2, none⟩ = false := (World.frozen?_of_block (a := ⟨g', i * 4 + 2, none⟩) g6).trans (HFV.out _)
 have hflat : (x.ents.flatMap enV).take (k * 2) ++ (x.ents.flatMap enV).drop ((k + 1) * 2) = (dropE x.ents name).flatMap enV := by
  rw [HDROP.out, flat_take enV 2 (fun _ => rfl), flat_drop enV 2 (fun _ => rfl), List.flatMap_append]
 have hpl : (dropE x.ents name).length = m - 1 := by rw [HDROP.out, List.length_append, List.length_take, List.length_drop]; have := HM.out; omega
 rw [hflat] at hrow'
 rw [← hpl] at hrow' hbl
 have hfin := HO5'.out.setE hB5 HZ.out hgr hrow' (.inl hbl) HS.out HVI.out
 rw [hpl] at hfin
 have HFIN := Lib.hid hfin
 clear hfin hrow' hgr hbl hflat g6
 go_wp2_with fail
 go_ret
 exact ⟨rfl, HT5.out.trans HFIN.out.2, _, HFIN.out.1⟩
end Go.Proofs.YtilkhmhgjbhfnaaGreatDoor
namespace Go.Proofs.YtilkhmhgjbhfnaaGreatDoor
open Go.RowKit
set_option maxRecDepth 100000 in
set_option maxHeartbeats 8000000 in
theorem mparent_any (B q p : Nat) (s : St) (c : Ca) (fd num : Int) (dir : Bool) (data : ByteArray) (nv : Value) (zs : List (Ino × Value)) (vI vO vM : Value) (path : ByteArray) (w : World) (hD : DoerAt w q p c fd num dir data nv) (hO : Own2 B w p s zs vI vO vM) (hg : Good s) (hs : path.size ≤ 140737488355328) :
  Calls Tryz.prog 127 #[.pointer (some ⟨q, 0, .none⟩), .string path] w fun e w' => Below w.heap.size w w' ∧ (((parentV s.inos path).2.2 ≠ 0 ∧ e = .panicked (faultP (parentV s.inos path).2.2)) ∨ ((parentV s.inos path).2.2 = 0 ∧ ∃ g n d i x, vI = .slice (some ⟨g, 0, none⟩) n d ∧ s.inos[i]? = some x ∧ x.num = (parentV s.inos path).1 ∧ x.dir = true ∧ e = .returned (.tuple #[.pointer (some ⟨g, i * 4, none⟩), .string (parentV s.inos path).2.1]))) := by
 have hq := hD.lt
 have d0 := hD.c0
 have hp := hO.lt
 have HO := Lib.hid hO
 have HG := Lib.hid hg
 clear hO hg hD
 obtain ⟨R, hR⟩ : ∃ R, parentV s.inos path = R := ⟨_, rfl⟩
 rw [hR]
 unfold parentV at hR
 have hlen := parse_len path.data.toList
 by_cases hpar : (parseL path.data.toList).2 = 0
 rotate_left
 ·rw [if_pos hpar] at hR
  subst hR
  have hcp : codeP (parseL path.data.toList).2 ≠ 0 := by unfold codeP; rw [if_neg hpar]; split <;> decide
  have HPAR := Lib.hid hpar
  obtain ⟨C, hC⟩ : ∃ C, codeP (parseL path.data.toList).2 = C := ⟨_, rfl⟩
  simp only
  rw [hC] at hcp ⊢
  have HC := Lib.hid hC
  have HCP := Lib.hid hcp
  clear hpar hC hcp
  go_enter Tryz.func127, Tryz.ntmps127
  go_wp2_with fail
  refine (mparse_bad path _ hs HPAR.out).mono ?_
  rintro e5 w5 ⟨rfl, hb5⟩
  rw [HC.out]
  go_simp
  exact panic_end rfl ⟨hb5, .inl ⟨HCP.out, rfl⟩⟩
 rw [if_neg (by rw [hpar]; simp)] at hR
 have HPAR := Lib.hid hpar
 obtain ⟨NS, hNS⟩ : ∃ NS, (parseL path.data.toList).1 = NS := ⟨_, rfl⟩
 rw [hNS] at hR hlen
 have HNS := Lib.hid hNS
 have HR := Lib.hid hR
 clear hpar hNS hR
 by_cases hnil : NS = []
 ·subst hnil
  have hr := HR.out
  rw [if_pos rfl] at hr
  subst hr
  go_enter Tryz.func127, Tryz.ntmps127
  go_wp2_with fail
  refine (mparse_ok path _ hs HPAR.out).mono ?_
  rintro e5 w5 ⟨A5, c5, rfl, hc5, hn5, hb5⟩
  have HB := Lib.hid hb5
  rw [HNS.out]
  clear hc5 hn5 hb5
  go_wp2_with fail
  refine (throw_yes _ _).mono ?_
  rintro e3 w3 ⟨rfl, rfl⟩
  go_wp2_with fail
  exact panic_end rfl ⟨HB.out, .inl ⟨by decide, rfl⟩⟩
 obtain ⟨j, hj⟩ : ∃ j, NS.length = j + 1 := by
  cases hO : NS with
  | nil => exact absurd hO hnil
  | cons a l => exact ⟨l.length, by simp⟩
 have hr := HR.out
 rw [if_neg hnil] at hr
 have hlast : NS.getLastD [] = NS.getD j [] := by
  rw [List.getLastD_eq_getLast?, List.getLast?_eq_getElem?, hj, List.getD_eq_getElem?_getD]
  rfl
 obtain ⟨NM, hNM⟩ : ∃ NM, NS.getD j [] = NM := ⟨_, rfl⟩
 have HPL := walk_place HG.out NS.dropLast
 obtain ⟨RW, hRW⟩ : ∃ RW, walkG s.inos NS.dropLast 1 = RW := ⟨_, rfl⟩
 obtain ⟨KP, hKP⟩ : ∃ KP, placeG s.inos (walkG s.inos NS.dropLast 1) = KP := ⟨_, rfl⟩
 rw [hKP, hRW] at HPL
 rw [hlast, hNM, hRW] at hr
 obtain ⟨N, C⟩ := RW
 simp only at HPL hr
 have HR2 := Lib.hid hr
 have HW := Lib.hid hRW
 have HK := Lib.hid hKP
 have HPLA := Lib.hid HPL
 have HJ := Lib.hid hj
 have hj4 : j ≤ 65536 := by omega
 have HNM := Lib.hid hNM
 have q1 : ((j : Int) + 1 == 0) = false := by rw [beq_eq_false_iff_ne]; omega
 have lw : IntKind.i64.wrap ((j : Int) + 1 - 1) = (j : Int) := by rw [IntKind.wrap_i64]; omega
 have lw3 : IntKind.i64.wrap (j : Int) = (j : Int) := by rw [IntKind.wrap_i64]; omega
 have lw2 : IntKind.i64.wrap (((j + 1 : Nat) : Int) - 1) = (j : Int) := by rw [IntKind.wrap_i64]; omega
 have j0 : (0 : Int) ≤ (j : Int) := by omega
 have j2 : (j : Int) < (j : Int) + 1 := by omega
 clear hr HR hRW hKP HPL hlast hnil hj hNM
 go_enter Tryz.func127, Tryz.ntmps127
 go_wp2_with fail
 refine (mparse_ok path _ hs HPAR.out).mono ?_
 rintro e5 w5 ⟨A5, c5, rfl, hc5, hn5, hb5⟩
 rw [HNS.out] at hc5 hn5 ⊢
 rw [HJ.out] at hc5 hn5 ⊢
 have HB5 := Lib.hid hb5
 have HO5 := Lib.hid (HO.out.below hb5)
 have d5 := (hb5.cell (p := ⟨q, 0, none⟩) hq).trans d0
 have hq5 : q < w5.heap.size := Nat.lt_of_lt_of_le hq hb5.size
 have HNI := Lib.hid hn5.init
 have j1 : (j : Int) ≤ (c5 : Int) := by omega
 have j3 : j ≤ c5 := by omega
 obtain ⟨gn, on, rfl, hgn, hcn⟩ := hn5.2 (by omega)
 have hcj := hcn j (by omega)
 rw [HNM.out] at hcj
 have hstr : strV NM = .string (txt NM) := rfl
 rw [hstr] at hcj
 have HCJ := Lib.hid hcj
 clear hb5 hn5 hcn hcj hstr
 go_wp2_with fail
 refine (throw_no _ _).mono ?_
 rintro e3 w3 ⟨rfl, rfl⟩
 go_wp2_with fail
 go_region_held3 (fun w' => w'.cell? ⟨q, 0, none⟩ = some (.pointer (some ⟨p, 0, none⟩)))
  (first | go_keep | (rw [hb6.cell (by simp; omega)]; simp [*]))
  (first
   | (go_at_call 185; refine (mwalk_any p s (some ⟨gn, on, none⟩) j c5 NS.dropLast _ (HO5.out.ptr.below (Cv.drewN_below (Below.refl _ _) 1)) HG.out (HNI.out.below (Cv.drewN_below (Below.refl _ _) 1)) hj4).mono ?_; rintro e6 w6 ⟨rfl, hb6, _⟩; rw [HK.out, HW.out]))
 have hb7 : Below w5.heap.size w5 w6 := Cv.next (Cv.drewN_below (Below.refl _ _) 1) hb6
 have HB := Lib.hid (Cv.next HB5.out hb7)
 have HO6 := Lib.hid (HO5.out.below hb7)
 have d6 := (hb7.cell (p := ⟨q, 0, none⟩) hq5).trans d5
 have n6 := (hb7.cell (p := ⟨gn, on + j, none⟩) hgn).trans HCJ.out
 clear hb6 hb7
 have hr := HR2.out
 by_cases hC : C = 0
 ·subst hC
  rw [if_neg (by simp)] at hr
  obtain ⟨i, x, hk, hx, hxn⟩ := HPLA.out rfl
  obtain ⟨g, cc, E, m, d, hv, _, _, _, hil, x0, x1, _⟩ := HO6.out.at_ hx
  have hdir : dirAt s.inos N = x.dir := by
   unfold dirAt
   rw [← hxn, HG.out.idx hx, inoAt_nat, hx]
  rw [hdir] at hr
  have p6 := HO6.out.s0
  rw [hv] at p6
  rw [hk]
  have i0 : (0 : Int) ≤ (i : Int) := by omega
  have i1 : (i : Int) < (s.inos.length : Int) := by omega
  cases hd : x.dir
  ·rw [if_pos hd] at hr
   subst hr
   rw [hd] at x1
   go_wp2_with fail
   refine (throw_no _ _).mono ?_
   rintro e3 w3 ⟨rfl, rfl⟩
   go_wp2_with fail
   refine (throw_yes _ _).mono ?_
   rintro e3 w3 ⟨rfl, rfl⟩
   go_wp2_with fail
   first | exact panic_end rfl ⟨HB.out, .inl ⟨by decide, rfl⟩⟩ | exact panic_end rfl ⟨HB.out, rfl⟩
  ·rw [if_neg (by rw [hd]; simp)] at hr
   subst hr
   rw [hd] at x1
   go_wp2_with fail
   refine (throw_no _ _).mono ?_
   rintro e3 w3 ⟨rfl, rfl⟩
   go_wp2_with fail
   refine (throw_no _ _).mono ?_
   rintro e3 w3 ⟨rfl, rfl⟩
   go_wp2_with fail
   go_quiet (fail)
   go_wp2_with fail
   go_ret2
   first | exact ⟨Cv.next HB.out (Cv.drewN_below (Below.refl _ _) _), .inr ⟨rfl, g, _, cc, i, x, hv, hx, hxn, hd, rfl⟩⟩ | exact ⟨Cv.next HB.out (Cv.drewN_below (Below.refl _ _) _), i, x, hx, hxn, hd, rfl⟩
 ·rw [if_pos hC] at hr
  subst hr
  have hne : (C != 0) = true := by rw [bne_iff_ne]; exact hC
  go_wp2_with fail
  refine (throw_yes _ _).mono ?_
  rintro e3 w3 ⟨rfl, rfl⟩
  go_wp2_with fail
  first | exact panic_end rfl ⟨HB.out, .inl ⟨hC, rfl⟩⟩ | exact panic_end rfl ⟨HB.out, rfl⟩
end Go.Proofs.YtilkhmhgjbhfnaaGreatDoor
namespace Go.Proofs.YtilkhmhgjbhfnaaGreatDoor
open Go.RowKit
theorem fullE_le (es : List En) (a b : ByteArray) : fullE es a b ≤ es.length := by
 induction es with
 | nil => exact Nat.le_refl _
 | cons e es ih =>
  unfold fullE
  rw [List.length_cons]
  split <;> omega
set_option maxRecDepth 100000 in
set_option maxHeartbeats 8000000 in
theorem mfull_any (g o : Nat) (es : List En) (E : Option Addr) (m2 d2 : Nat) (name but : ByteArray) (w : World) (hcell : w.cell? ⟨g, o + 2, none⟩ = some (.slice E m2 d2)) (hE : EntsAt none w E m2 es) (hm : m2 ≤ 1099511627776) (htx : ∀ e ∈ es, e.name.size ≤ 140737488355328) (hs : name.size ≤ 140737488355328) :
  Calls Tryz.prog 130 #[.pointer (some ⟨g, o, .none⟩), .string name, .string but] w fun e w' => e = .returned (.bool (decide (4 ≤ fullE es name but))) ∧ Below w.heap.size w w' := by
 obtain ⟨FF, hFF⟩ : ∃ FF, fullE es name but = FF := ⟨_, rfl⟩
 rw [hFF]
 have hFF2 : FF ≤ 1099511627776 := by have := fullE_le es name but; have := hE.1; omega
 have HE := Lib.hid hE
 have HTX := Lib.hid htx
 have HFF := Lib.hid hFF
 clear hE htx hFF
 go_enter Tryz.func130, Tryz.ntmps130
 go_wp2_with fail
 go_loopw [7, 15] (fun many j wr => ∃ q a : Nat, j = .int .i64 q ∧ many = .int .i64 a ∧ q ≤ m2 ∧ Below w.heap.size w wr ∧ a + fullE (es.drop q) name but = FF) (fun _ j _ => m2 - (intOf j).toNat)
 case atStart => exact ⟨0, 0, rfl, rfl, by omega, Below.refl _ _, by rw [List.drop_zero, Nat.zero_add]; exact HFF.out⟩
 case round =>
  obtain ⟨q, a, rfl, rfl, hq, hbel, hc⟩ := hrel
  have HB := Lib.hid hbel
  have HEr := Lib.hid (HE.out.below hbel)
  clear hbel
  have ha : a ≤ 1099511627776 := by omega
  by_cases hlt : q < m2
  ·obtain ⟨g2, off2, y, rfl, hg2, hy, hdr, hmem, e0, e1⟩ := HEr.out.get q hlt
   have hys := HTX.out y hmem
   rw [hdr, fullE] at hc
   have k0 : (0 : Int) ≤ (q : Int) := by omega
   have k1 : (q : Int) < (m2 : Int) := by omega
   have aw : IntKind.i64.wrap ((a : Int) + 1) = (a : Int) + 1 := by rw [IntKind.wrap_i64]; omega
   have HC := Lib.hid hc
   obtain ⟨V2, hV2, v0, v1, hal, hlt3⟩ := box_en wr y.name y.num
   have HB4 := Lib.hid (Cv.next HB.out hal)
   clear hdr hmem hy hc hal
   by_cases hb : y.name = but
   ·have qn : (y.name.toList == but.toList) = true := ba_list_eq hb
    have HB2 := Lib.hid hb
    clear hb
    go_wp2_with fail
    go_roundw
    case rel => exact ⟨q + 1, a, by go_num, rfl, by omega, HB4.out, by have := HC.out; rw [if_neg (fun h => h.1 HB2.out)] at this; omega⟩
    case measure => simp [intOf]; omega
   ·have qn : (y.name.toList == but.toList) = false := ba_list_ne hb
    have HB2 := Lib.hid hb
    clear hb
    obtain ⟨B1, hB1⟩ : ∃ B1, bktB y.name = B1 := ⟨_, rfl⟩
    obtain ⟨B2, hB2'⟩ : ∃ B2, bktB name = B2 := ⟨_, rfl⟩
    have HB1 := Lib.hid hB1
    have HB3 := Lib.hid hB2'
    clear hB1 hB2'
    go_wp2_with fail
    refine (bucketm_any y.name _ (by unfold maxLen; omega)).mono ?_
    rintro e5 w5 ⟨rfl, hb5⟩
    rw [HB1.out]
    have HB5 := Lib.hid (Cv.next HB4.out hb5)
    clear hb5 e0 e1 v0 v1
    go_wp2_with fail
    refine (bucketm_any name _ (by unfold maxLen; omega)).mono ?_
    rintro e6 w6 ⟨rfl, hb6⟩
    rw [HB3.out]
    have HB6 := Lib.hid (Cv.next HB5.out hb6)
    clear hb6
    by_cases hbb : B1 = B2
    ·have qb : ((B1 : Int) == (B2 : Int)) = true := by rw [hbb]; exact beq_self_eq_true _
     have HBB := Lib.hid hbb
     clear hbb
     go_wp2_with fail
     go_roundw
     case rel => exact ⟨q + 1, a + 1, by go_num, by go_num, by omega, HB6.out, by have := HC.out; rw [if_pos ⟨HB2.out, by rw [HB1.out, HB3.out]; exact HBB.out⟩] at this; omega⟩
     case measure => simp [intOf]; omega
    ·have qb : ((B1 : Int) == (B2 : Int)) = false := by rw [beq_eq_false_iff_ne]; omega
     have HBB := Lib.hid hbb
     clear hbb
     go_wp2_with fail
     go_roundw
     case rel => exact ⟨q + 1, a, by go_num, rfl, by omega, HB6.out, by have := HC.out; rw [if_neg (fun h => HBB.out (by rw [← HB1.out, ← HB3.out]; exact h.2))] at this; omega⟩
     case measure => simp [intOf]; omega
  ·have hnil : es.drop q = [] := List.drop_eq_nil_of_le (by have := HE.out.1; omega)
   rw [hnil, fullE] at hc
   have q9 : decide ((q : Int) < (m2 : Int)) = false := by rw [decide_eq_false_iff_not]; omega
   have HC := Lib.hid hc
   clear hc hnil
   go_wp2_with fail
   go_ret
   refine ⟨Cv.ret_bool ?_, HB.out⟩
   have := HC.out
   first | (rw [Bool.eq_iff_iff, decide_eq_true_eq, decide_eq_true_eq]; omega) | rfl
def bstrV (s : ByteArray) : Value := .string s
def Ran (B q p : Nat) (c : Ca) (R : St × Re) (w : World) (e : Ending) (w' : World) : Prop :=
 Below B w w' ∧ ((R.2.code ≠ 0 ∧ e = .panicked (faultP R.2.code)) ∨ (R.2.code = 0 ∧ e = .returned (.tuple #[]) ∧ (∃ zs vI vO vM, Own2 B w' p R.1 zs vI vO vM) ∧ ∃ nv, DoerAt w' q p c R.2.fd R.2.num R.2.dir R.2.data nv ∧ RowAt B w' 9 1 nv R.2.names.length (R.2.names.map bstrV)))
structure Now (B q p : Nat) (s : St) (c : Ca) (zs : List (Ino × Value)) (vI vO vM : Value) (w w' : World) : Prop where
 hB : B ≤ w.heap.size
 hq : B ≤ q
 bel : Below w.heap.size w w'
 own : Own2 B w' p s zs vI vO vM
 doer : DoerAt w' q p c 0 0 false ⟨#[]⟩ (.slice none 0 0)
section
variable {B q p : Nat} {s : St} {c : Ca} {zs : List (Ino × Value)} {vI vO vM : Value} {w w' w'' : World}
theorem Now.step (h : Now B q p s c zs vI vO vM w w') (hb : Below w'.heap.size w' w'') : Now B q p s c zs vI vO vM w w'' := ⟨h.hB, h.hq, Cv.next h.bel hb, h.own.below hb, h.doer.below hb⟩
theorem Now.low (h : Now B q p s c zs vI vO vM w w') : Below B w w' := h.bel.mono h.hB
theorem Now.hB' (h : Now B q p s c zs vI vO vM w w') : B ≤ w'.heap.size := Nat.le_trans h.hB h.bel.size
theorem Now.ne (h : Now B q p s c zs vI vO vM w w') : q ≠ p := blk_ne h.doer.cell h.own.cell (by decide)
theorem Now.fail (h : Now B q p s c zs vI vO vM w w') {R : St × Re} {e : Ending} (hc : R.2.code ≠ 0) (he : e = .panicked (faultP R.2.code)) : Ran B q p c R w e w' := ⟨h.low, .inl ⟨hc, he⟩⟩
theorem Now.done (h : Now B q p s c zs vI vO vM w w') {R : St × Re} {e : Ending} (hr : R.2 = {}) (he : e = .returned (.tuple #[])) (ht : Turns B p w' w'') (ho : ∃ zs vI vO vM, Own2 B w'' p R.1 zs vI vO vM) : Ran B q p c R w e w'' := by
 refine ⟨h.low.trans ht.below, .inr ⟨by rw [hr], he, ho, .slice none 0 0, ?_, ?_⟩⟩
 ·rw [hr]; exact h.doer.turns h.ne ht
 ·rw [hr]; exact ⟨rfl, .inl ⟨none, rfl, rfl⟩⟩
theorem Now.ino (h : Now B q p s c zs vI vO vM w w') {g n d i : Nat} {x : Ino} (hvI : vI = .slice (some ⟨g, 0, none⟩) n d) (hx : s.inos[i]? = some x) : ∃ E m e, w'.cell? ⟨g, i * 4, none⟩ = some (.int .i64 x.num) ∧ w'.cell? ⟨g, i * 4 + 1, none⟩ = some (.bool x.dir) ∧ w'.cell? ⟨g, i * 4 + 2, none⟩ = some (.slice E m e) ∧ w'.cell? ⟨g, i * 4 + 3, none⟩ = some (.string x.data) ∧ EntsAt none w' E m x.ents ∧ g < w'.heap.size ∧ m = x.ents.length := by
 obtain ⟨g', c', E, m, d2, hv, hz, hg, hBg, hil, x0, x1, x2, x3, hfz, hmd, hE⟩ := h.own.at_ hx
 have hgg : g' = g := by rw [hvI] at hv; injection hv with e1 _ _; injection e1 with e1; injection e1 with e1; exact e1.symm
 subst hgg
 exact ⟨E, m, d2, x0, x1, x2, x3, hE, hg, hE.1.symm⟩
end
theorem Own2.other {B : Nat} {w w' : World} {p b : Nat} {s : St} {zs : List (Ino × Value)} {vI vO vM : Value} (h : Own2 B w p s zs vI vO vM) (hg : w.grownBy w' (some b)) {cur : Array Value} {t : TypeId} {f : Nat × Nat} (hb : w.heap[b]? = some (.cells cur t f)) (h1 : t ≠ 31) (h2 : t ≠ 65) (h3 : t ≠ 131) (h4 : t ≠ 97) (h5 : t ≠ 3) : Own2 B w' p s zs vI vO vM := by
 have key : ∀ (e : TypeId) (k : Nat) (v : Value) (n : Nat) (xs : List Value), t ≠ e → RowAt B w e k v n xs → RowAt B w' e k v n xs := fun e k v n xs hne hx => hx.kept hg (fun a ha e2 => by
  obtain ⟨_, _, c1, hc⟩ := hx.blk a ha
  exact blk_ne hb hc hne (by injection e2))
 refine ⟨h.hp, ?_, h.inos, key _ _ _ _ _ h2 h.rowI, fun z hz => key _ _ _ _ _ h3 (h.ents z hz), h.apart, key _ _ _ _ _ h4 h.rowO, key _ _ _ _ _ h5 h.rowM, h.sized⟩
 rw [hg.block p h.lt (fun e => by injection e with e; exact blk_ne hb h.cell h1 e.symm)]
 exact h.cell
section
variable {w : World} {q p : Nat} {c : Ca} {fd num : Int} {dir : Bool} {data : ByteArray} {nv : Value}
theorem DoerAt.setFd (h : DoerAt w q p c fd num dir data nv) (x : Int) : DoerAt (w.setCell ⟨q, 10, none⟩ (.int .i64 x)) q p c x num dir data nv := ⟨by rw [heap_setCell_same w q 10 _ _ _ h.cell]; rfl⟩
theorem DoerAt.setNum (h : DoerAt w q p c fd num dir data nv) (x : Int) : DoerAt (w.setCell ⟨q, 11, none⟩ (.int .i64 x)) q p c fd x dir data nv := ⟨by rw [heap_setCell_same w q 11 _ _ _ h.cell]; rfl⟩
theorem DoerAt.setDir (h : DoerAt w q p c fd num dir data nv) (x : Bool) : DoerAt (w.setCell ⟨q, 12, none⟩ (.bool x)) q p c fd num x data nv := ⟨by rw [heap_setCell_same w q 12 _ _ _ h.cell]; rfl⟩
theorem DoerAt.setData (h : DoerAt w q p c fd num dir data nv) (x : ByteArray) : DoerAt (w.setCell ⟨q, 13, none⟩ (.string x)) q p c fd num dir x nv := ⟨by rw [heap_setCell_same w q 13 _ _ _ h.cell]; rfl⟩
theorem DoerAt.setNames (h : DoerAt w q p c fd num dir data nv) (x : Value) : DoerAt (w.setCell ⟨q, 14, none⟩ x) q p c fd num dir data x := ⟨by rw [heap_setCell_same w q 14 _ _ _ h.cell]; rfl⟩
theorem DoerAt.fz (h : DoerAt w q p c fd num dir data nv) (j : Nat) : w.frozen? ⟨q, j, none⟩ = false := frozen_of_row w q j _ _ h.cell
theorem DoerAt.set_own {B j : Nat} {s : St} {zs : List (Ino × Value)} {vI vO vM u : Value} (h : DoerAt w q p c fd num dir data nv) (ho : Own2 B w p s zs vI vO vM) : Own2 B (w.setCell ⟨q, j, none⟩ u) p s zs vI vO vM := ho.other grown_set h.cell (by decide) (by decide) (by decide) (by decide) (by decide)
theorem DoerAt.r10 (h : DoerAt w q p c fd num dir data nv) : w.cell? ⟨q, 10, none⟩ = some (.int .i64 fd) := by rw [cell_of_row w q _ _ _ (0, 0) h.cell]; rfl
theorem DoerAt.r11 (h : DoerAt w q p c fd num dir data nv) : w.cell? ⟨q, 11, none⟩ = some (.int .i64 num) := by rw [cell_of_row w q _ _ _ (0, 0) h.cell]; rfl
theorem DoerAt.r12 (h : DoerAt w q p c fd num dir data nv) : w.cell? ⟨q, 12, none⟩ = some (.bool dir) := by rw [cell_of_row w q _ _ _ (0, 0) h.cell]; rfl
theorem DoerAt.r13 (h : DoerAt w q p c fd num dir data nv) : w.cell? ⟨q, 13, none⟩ = some (.string data) := by rw [cell_of_row w q _ _ _ (0, 0) h.cell]; rfl
theorem DoerAt.r14 (h : DoerAt w q p c fd num dir data nv) : w.cell? ⟨q, 14, none⟩ = some nv := by rw [cell_of_row w q _ _ _ (0, 0) h.cell]; rfl
end
theorem low_set {B b j : Nat} {w : World} {u : Value} (h : B ≤ b) : Below B w (w.setCell ⟨b, j, none⟩ u) := (Below.refl _ _).setCell h _
theorem setEnts_at {is : List Ino} {t : Int} {i : Nat} {x : Ino} (ha : atV is t = (i : Int)) (hx : is[i]? = some x) (f : List En → List En) : setEnts is t f = is.set i { x with ents := f x.ents } := by
 unfold setEnts
 rw [ha, Int.toNat_natCast, modify_set _ _ _ _ hx]
theorem fullV_at {is : List Ino} {t : Int} {i : Nat} {x : Ino} (ha : atV is t = (i : Int)) (hx : is[i]? = some x) (a b : ByteArray) : fullV is t a b = decide (4 ≤ fullE x.ents a b) := by
 unfold fullV
 rw [ha, inoAt_nat, hx]
theorem dirAt_at {is : List Ino} {t : Int} {i : Nat} {x : Ino} (ha : atV is t = (i : Int)) (hx : is[i]? = some x) : dirAt is t = x.dir := by
 unfold dirAt
 rw [ha, inoAt_nat, hx]
theorem entsOf_at {is : List Ino} {t : Int} {i : Nat} {x : Ino} (ha : atV is t = (i : Int)) (hx : is[i]? = some x) : entsOf is t = x.ents := by
 unfold entsOf
 rw [ha, inoAt_nat, hx]
theorem dataAt_at {is : List Ino} {t : Int} {i : Nat} {x : Ino} (ha : atV is t = (i : Int)) (hx : is[i]? = some x) : dataAt is t = x.data := by
 unfold dataAt
 rw [ha, inoAt_nat, hx]
theorem Good.at_ {s : St} (h : Good s) {i : Nat} {x : Ino} {t : Int} (hx : s.inos[i]? = some x) (hn : x.num = t) : atV s.inos t = (i : Int) := by rw [← hn]; exact h.idx hx
theorem Good.text {s : St} (h : Good s) {x : Ino} (hx : x ∈ s.inos) : ∀ e ∈ x.ents, e.name.size ≤ 140737488355328 := fun e he => ((h.small.io x hx).2.2.2 e he).1
set_option maxRecDepth 100000 in
set_option maxHeartbeats 8000000 in
theorem mfile_any (B q p : Nat) (s : St) (c : Ca) (fd num : Int) (dir : Bool) (data : ByteArray) (nv : Value) (zs : List (Ino × Value)) (vI vO vM : Value) (w : World) (hD : DoerAt w q p c fd num dir data nv) (hO : Own2 B w p s zs vI vO vM) (hg : Good s) :
  Calls Tryz.prog 87 #[.pointer (some ⟨q, 0, .none⟩)] w fun e w' => Below w.heap.size w w' ∧ ((fdV s.opn c.core c.fd = 0 ∧ e = .panicked (faultP 4)) ∨ (fdV s.opn c.core c.fd ≠ 0 ∧ ∃ g n d i x k, vI = .slice (some ⟨g, 0, none⟩) n d ∧ s.inos[i]? = some x ∧ x.num = fdV s.opn c.core c.fd ∧ x.dir = false ∧ fdP s.opn c.core c.fd = some k ∧ e = .returned (.tuple #[.pointer (some ⟨g, i * 4, none⟩), .int .i64 (k : Nat)]))) := by
 obtain ⟨W, hW⟩ : ∃ W, w.alloc (.cells #[.pointer (some ⟨q, 0, none⟩)] 123) = W := ⟨_, rfl⟩
 have hal : Below w.heap.size w W := by rw [← hW]; exact (Below.refl _ _).alloc (Nat.le_refl _) _
 have hsz : W.heap.size = w.heap.size + 1 := by rw [← hW]; simp
 have bc : W.cell? ⟨w.heap.size, 0, .none⟩ = some (.pointer (some ⟨q, 0, none⟩)) := by rw [← hW]; exact World.cell?_alloc_mark w _ _ (0, 0) _
 have hlt : w.heap.size < W.heap.size := by omega
 have hOW := hO.below hal
 have hDW := hD.below hal
 have d0 := hDW.c0
 have s1 := hOW.s1
 obtain ⟨E, cE, hvO, hEok, hED⟩ := hOW.rowO.descs
 rw [hvO] at s1
 have hol : s.opn.length ≤ 32 := hg.opn_len
 have HO := Lib.hid hOW
 have HD := Lib.hid hDW
 have HG := Lib.hid hg
 have HED := Lib.hid hED
 have HAL := Lib.hid hal
 obtain ⟨m, hm⟩ : ∃ m, s.opn.length = m := ⟨_, rfl⟩
 rw [hm] at s1 hED hol
 have HMM := Lib.hid hm
 have HED := Lib.hid hED
 obtain ⟨NU, hNU⟩ : ∃ NU, fdV s.opn c.core c.fd = NU := ⟨_, rfl⟩
 rw [hNU]
 have HNU := Lib.hid hNU
 have hq := hDW.lt
 have hp := hOW.lt
 clear hO hD hg hal hsz hOW hDW hED hEok hvO hm hNU
 go_enter Tryz.func87, Tryz.ntmps87
 go_wp2_with fail
 refine (indexfile_any q p c fd num dir data nv s.opn E m cE w.heap.size W HED.out (by omega) bc hlt HD.out).mono ?_
 rintro e1 w1 ⟨rfl, hb1⟩
 have HB1 := Lib.hid hb1
 have bc1 := (hb1.cell (p := ⟨w.heap.size, 0, .none⟩) hlt).trans bc
 have d1 := (hb1.cell (p := ⟨q, 0, .none⟩) hq).trans d0
 have s11 := (hb1.cell (p := ⟨p, 1, .none⟩) hp).trans s1
 have HO1 := Lib.hid (HO.out.below hb1)
 have HED1 := Lib.hid (HED.out.below hb1)
 clear hb1 bc d0 s1 hW
 unfold fdI
 cases hP : fdP s.opn c.core c.fd with
 | none =>
  have h0 := (fdP_none _ _ _ hP).1
  rw [HNU.out] at h0
  subst h0
  have HPP := Lib.hid hP
  clear hP
  go_wp2_with fail
  refine (throw_yes _ _).mono ?_
  rintro e3 w3 ⟨rfl, rfl⟩
  go_wp2_with fail
  first | exact panic_end rfl ⟨Cv.next HAL.out HB1.out, .inl ⟨rfl, rfl⟩⟩ | exact panic_end rfl ⟨Cv.next HAL.out HB1.out, rfl⟩
 | some k =>
  obtain ⟨y, hy, _, _, hyn⟩ := fdP_some _ _ _ _ hP
  rw [HNU.out] at hyn
  obtain ⟨_, _, _, _, i, x, hat, hx, hxn, hxd⟩ := HG.out.opens y (List.mem_of_getElem? hy)
  have hkm : k < m := by have := (List.getElem?_eq_some_iff.1 hy).1; have := HMM.out; omega
  obtain ⟨ge, oe, y', hEE, hge, hy', _, _, f0, f1, f2⟩ := HED1.out.get k hkm
  have ex : y = y' := by rw [hy] at hy'; exact Option.some.inj hy'
  subst ex
  subst hEE
  obtain ⟨g, cc, E2, m2, d2, hv, _, hgl, _, hil, _⟩ := HO1.out.at_ hx
  have p1 := HO1.out.s0
  rw [hv] at p1
  have hne : NU ≠ 0 := by
   have := (HG.out.num_range (num := y.num) (by omega)).1
   omega
  have HAT := Lib.hid hat
  have HX := Lib.hid hx
  have HXN := Lib.hid (hxn.trans hyn.symm)
  have HPP := Lib.hid hP
  have k0 : (0 : Int) ≤ (k : Int) := by omega
  have k1 : (k : Int) < (m : Int) := by omega
  have k2 : decide ((k : Int) < 0) = false := by rw [decide_eq_false_iff_not]; omega
  have i0 : (0 : Int) ≤ (i : Int) := by omega
  have i1 : (i : Int) < (s.inos.length : Int) := by omega
  have HV := Lib.hid hv
  have HXD := Lib.hid hxd
  have HNE := Lib.hid hne
  obtain ⟨yn, hynn⟩ : ∃ yn, y.num = yn := ⟨_, rfl⟩
  rw [hynn] at f2
  have HATN : Hid (atV s.inos yn = (i : Int)) := by rw [← hynn]; exact hat
  clear hat hx hxn hyn hP hy hy' hv hne hynn hxd
  go_wp2_with fail
  refine (throw_no _ _).mono ?_
  rintro e3 w3 ⟨rfl, rfl⟩
  have hX2 : ∀ (Y : Ext w1) (p : Addr), (w1.cell? p).isSome = true → Y.w.cell? p = w1.cell? p := fun Y p h => Y.cell p h
  have hfind : ∀ Y : Ext w1, Calls Tryz.prog 140 #[.pointer (some ⟨p, 0, .none⟩), .int .i64 yn] Y.w fun e w' => e = .returned (.int .i64 (i : Int)) ∧ Below Y.w.heap.size Y.w w' := fun Y => by
   have h := mfind_any p s yn Y.w (HO1.out.ptr.below Y.bel) HG.out.riseI
   rw [HATN.out] at h
   exact h
  have HF := Lib.hid hfind
  clear hfind
  go_wp2_with fail
  refine wre ?_
  repeat (go_big_quiet_step (first | (go_at_call 140; rename_i Y; exact Calls.ext_of (HF.out Y))))
  refine wpQuiet_nil ?_
  rintro w7 ⟨Y, rfl⟩
  have HBY := Lib.hid (Cv.next HAL.out (Cv.next HB1.out Y.bel))
  generalize hZe : Y.w = Z at *
  clear hX2
  go_wp2_with fail
  go_ret2
  first | exact ⟨HBY.out, .inr ⟨HNE.out, g, _, cc, i, x, k, HV.out, HX.out, HXN.out, HXD.out, HPP.out, rfl⟩⟩ | trace_state
end Go.Proofs.YtilkhmhgjbhfnaaGreatDoor
