/- Parts of the proof, side by side: FsWalk, FsFind, FsParent, FsBelow. -/
import Derived.Test.YthhceopnnappgaaGreatDoorM04
import Derived.Test.YthhceopnnappgaaGreatDoorM05
import Derived.Test.YthhceopnnappgaaGreatDoorRefParse
import Derived.OwnWalk
import Derived.Deep.RegionHeld3
import Derived.Test.YthhceopnnappgaaGreatDoorM02
set_option linter.unusedVariables false
set_option linter.unusedSimpArgs false
namespace Go.Proofs.YthhceopnnappgaaGreatDoor
open Go.RowKit
def NmAt (w : World) (A : Option Addr) (n : Nat) (ts : List (List UInt8)) : Prop :=
 ts.length = n ∧ (0 < n → ∃ g off, A = some ⟨g, off, none⟩ ∧ g < w.heap.size ∧ ∀ j, j < n → w.cell? ⟨g, off + j, none⟩ = some (strV (ts.getD j [])))
theorem NmAt.below {w w' : World} {A : Option Addr} {n : Nat} {ts : List (List UInt8)} (h : NmAt w A n ts) (hb : Below w.heap.size w w') : NmAt w' A n ts :=
 ⟨h.1, fun hn => by
  obtain ⟨g, off, hA, hg, hc⟩ := h.2 hn
  exact ⟨g, off, hA, Nat.lt_of_lt_of_le hg hb.size, fun j hj => (hb.cell (p := ⟨g, off + j, none⟩) hg).trans (hc j hj)⟩⟩
theorem NmAt.init {w : World} {A : Option Addr} {n : Nat} {ts : List (List UInt8)} (h : NmAt w A (n + 1) ts) : NmAt w A n ts.dropLast :=
 ⟨by rw [List.length_dropLast, h.1]; omega, fun hn => by
  obtain ⟨g, off, hA, hg, hc⟩ := h.2 (by omega)
  refine ⟨g, off, hA, hg, fun j hj => ?_⟩
  rw [hc j (by omega)]
  congr 2
  have hl := h.1
  rw [List.getD_eq_getElem?_getD, List.getD_eq_getElem?_getD, List.getElem?_dropLast, if_pos (by omega)]⟩
theorem NmAt.of_names {B : Nat} {w : World} {v : Value} {out : List (List UInt8)} (h : Names B w v out) : ∃ A c, v = .slice A out.length c ∧ out.length ≤ c ∧ NmAt w A out.length out := by
 obtain ⟨A, c, hv, hc, hn, hg⟩ := row_any h (by decide)
 refine ⟨A, c, hv, hc, rfl, fun h0 => ?_⟩
 obtain ⟨g, hA, hlt, hm, hcell⟩ := hg h0
 refine ⟨g, 0, hA, hlt, fun j hj => ?_⟩
 rw [Nat.zero_add, hcell j (by omega)]
 simp [hj]
def Whole (is : List Ino) : Prop := 0 ≤ atV is 1 ∧ ∀ x ∈ is, ∀ e ∈ x.ents, 0 ≤ atV is e.num
theorem entG_mem : ∀ (es : List En) (n : ByteArray), entG es n = 0 ∨ ∃ e ∈ es, e.num = entG es n
 | [], _ => .inl rfl
 | e :: es, n => by
  unfold entG
  by_cases h : e.name = n
  ·rw [if_pos h]; exact .inr ⟨e, by simp, rfl⟩
  ·rw [if_neg h]
   rcases entG_mem es n with h1 | ⟨y, hy, h1⟩
   ·exact .inl h1
   ·exact .inr ⟨y, by simp [hy], h1⟩
theorem atV_some {is : List Ino} {t : Int} (h : 0 ≤ atV is t) : ∃ (k : Nat) (x : Ino), atV is t = (k : Int) ∧ is[k]? = some x ∧ x.num = t := by
 rcases atV_cases is t with ⟨h1, _⟩ | ⟨k, x, h1, h2, h3, _⟩
 ·omega
 ·exact ⟨k, x, h1, h2, h3⟩
theorem entV_whole {is : List Ino} (hw : Whole is) {dir : Int} {name : ByteArray} (h : entV is dir name ≠ 0) : 0 ≤ atV is (entV is dir name) := by
 unfold entV at h ⊢
 cases hx : inoAt is (atV is dir) with
 | none => rw [hx] at h; exact absurd rfl h
 | some x =>
  rw [hx] at h
  simp only at h ⊢
  obtain ⟨j, _, hj⟩ := inoAt_some hx
  rcases entG_mem x.ents name with h1 | ⟨e, he, h1⟩
  ·exact absurd h1 h
  ·rw [← h1]
   exact hw.2 x (List.mem_of_getElem? hj) e he
set_option maxRecDepth 100000 in
set_option maxHeartbeats 8000000 in
theorem walk_any (v : Value) (s : St) (T : Option Addr) (m3 d3 : Nat) (names : List (List UInt8)) (w : World) (h : StAt none w v s) (hw : Whole s.inos) (hnm : NmAt w T m3 names) (hm3 : m3 ≤ 65536) :
  Calls Tryz.prog 113 #[v, .slice T m3 d3] w fun e w' => (∃ th, e = .returned (.tuple #[.int .i64 (walkG s.inos names 1).1, .int .i64 (walkG s.inos names 1).2, th])) ∧ Below w.heap.size w w' := by
 obtain ⟨⟨A, n, c, B, m, d, D, k, e, rfl, hI, hD, hM, h5, h6, h7⟩, hz⟩ := h
 obtain ⟨R, hR⟩ : ∃ R, walkG s.inos names 1 = R := ⟨_, rfl⟩
 rw [hR]
 obtain ⟨i0, hi, hz0, hz1, hz2⟩ := info_parts infoNum
 have hbig := hz.big
 have hn := hI.1
 have hn2 : n ≤ 1099511627776 := by omega
 obtain ⟨W, hW, b0, b1, b2, hal, hlt0⟩ := box_st w A n c B m d D k e
 have HS := Lib.hid ((StAt.of_parts hI hD hM h5 h6 h7 hz).below hal)
 have HI := Lib.hid (hI.below hal)
 have HNM := Lib.hid (hnm.below hal)
 have HAL := Lib.hid hal
 have HR := Lib.hid hR
 have HW := Lib.hid hw
 clear hI hD hM hz hR hal hbig hn hnm hw
 go_enter Tryz.func113, Tryz.ntmps113
 go_wp2_with fail
 clear hW
 go_loopw [7, 8, 9, 10] (fun a th i _ wr => ∃ (q : Nat) (t : Int) (X : Value) (xs : List Value), X = th ∧ a = .int .i64 t ∧ i = .int .i64 q ∧ q ≤ m3 ∧ Below W.heap.size W wr ∧ wr.ownsRow W.heap.size 3 1 X q xs ∧ 0 ≤ atV s.inos t ∧ walkG s.inos (names.drop q) t = R) (fun _ _ i _ _ => m3 - (intOf i).toNat)
 case atStart => exact ⟨0, 1, _, [], rfl, rfl, rfl, by omega, Below.refl _ _, World.ownsRow_nil _ _ _ _, HW.out.1, HR.out⟩
 case round =>
  obtain ⟨q, t, X, xs, hX, rfl, rfl, hq, hbel, hrow, hat, hc⟩ := hrel
  subst hX
  have z0 := (hbel.cell (p := ⟨w.heap.size, 0, .none⟩) hlt0).trans b0
  have z1 := (hbel.cell (p := ⟨w.heap.size, 1, .none⟩) hlt0).trans b1
  have z2 := (hbel.cell (p := ⟨w.heap.size, 2, .none⟩) hlt0).trans b2
  have HB := Lib.hid hbel
  have HROW := Lib.hid hrow
  have HSr := Lib.hid (HS.out.below hbel)
  have hlr : w.heap.size < wr.heap.size := Nat.lt_of_lt_of_le hlt0 hbel.size
  clear hbel hrow
  by_cases hlt : q < m3
  ·have hql : q < names.length := by have := HNM.out.1; omega
   have hd := List.drop_eq_getElem_cons hql
   rw [hd, walkG] at hc
   obtain ⟨i, x, hati, hx, hxn⟩ := atV_some hat
   rw [hati, inoAt_nat, hx] at hc
   simp only at hc
   have hin : i < n := by have := (List.getElem?_eq_some_iff.1 hx).1; have := HI.out.1; omega
   have HC := Lib.hid hc
   have HX := Lib.hid hx
   have HATI := Lib.hid hati
   have HXN := Lib.hid hxn
   clear hc hd hx hati hat hxn
   go_wp2_with fail
   refine (at_any _ s t _ HSr.out).mono ?_
   rintro e5 w5 ⟨rfl, hb5⟩
   rw [HATI.out]
   have y0 := (hb5.cell (p := ⟨w.heap.size, 0, .none⟩) hlr).trans z0
   have y1 := (hb5.cell (p := ⟨w.heap.size, 1, .none⟩) hlr).trans z1
   have y2 := (hb5.cell (p := ⟨w.heap.size, 2, .none⟩) hlr).trans z2
   have hb6 := Cv.next HB.out hb5
   have HB6 := Lib.hid hb6
   have HRO5 := Lib.hid (row_below HROW.out hb5)
   have HS5 := Lib.hid (HS.out.below hb6)
   have HN5 := Lib.hid (HNM.out.below hb6)
   obtain ⟨g, off, x', E, m2, d2, rfl, hg, hx', _, _, _, c1, c2, hmd, hE, _⟩ := (HI.out.below hb6).get i hin
   have ex : x = x' := by have := HX.out; rw [hx'] at this; exact (Option.some.inj this).symm
   subst ex
   have i0' : (0 : Int) ≤ (i : Int) := by omega
   have i9 : (i : Int) < (n : Int) := by omega
   have hl5 : w.heap.size < w5.heap.size := Nat.lt_of_lt_of_le hlr hb5.size
   clear hb5 hb6 hx' hE z0 z1 z2
   cases hdir : x.dir
   ·have hr := HC.out
    rw [if_pos hdir] at hr
    have HR2 := Lib.hid hr
    rw [hdir] at c1
    clear hr hdir
    go_wp2_with fail
    go_ret3
    exact ⟨⟨X, by rw [← HR2.out]; rfl⟩, Cv.next HAL.out HB6.out⟩
   ·have hr := HC.out
    rw [if_neg (by rw [hdir]; simp)] at hr
    have HR2 := Lib.hid hr
    rw [hdir] at c1
    clear hr hdir
    go_wp2_with (at_builtin; refine wpList_append_own _ rfl _ _ 24 rfl W.heap.size 3 i0 (.int .i64 0) 1 8 Tryz.underlying24 hi hz0 hz1 hz2 rfl (by decide) _ q _ rfl (HRO5.out.alloc _) ⟨w5.heap.size, 0, .none⟩ 1 1 [.int .i64 t] rfl rfl (new_one w5 _ _) ?ca2 ?ca3 ?ca4 ?ca5 ?_)
    case ca2 => first | rfl | (intro u hu; simp at hu; subst hu; rfl)
    case ca3 => unfold maxLen; omega
    case ca4 => omega
    case ca5 => have := HB6.out.size; first | omega | (simp; omega)
    intro v' w' hown' hgrow _
    have hge : ∀ k, X.ownBlock = some k → W.heap.size ≤ k := fun k hk => (HRO5.out.lt k hk).1
    have hbel' : Below W.heap.size W w' := (HB6.out.alloc HB6.out.size _).grown hgrow (by have := HB6.out.size; simp; omega) hge
    have HO' := Lib.hid hown'
    have HB' := Lib.hid hbel'
    have y0 := (hbel'.cell (p := ⟨w.heap.size, 0, .none⟩) hlt0).trans b0
    have y1 := (hbel'.cell (p := ⟨w.heap.size, 1, .none⟩) hlt0).trans b1
    have y2 := (hbel'.cell (p := ⟨w.heap.size, 2, .none⟩) hlt0).trans b2
    have HS' := Lib.hid (HS.out.below hbel')
    have HN' := Lib.hid (HNM.out.below hbel')
    clear hown' hgrow hge hbel' c1 c2
    obtain ⟨g3, off3, rfl, hg3, hcn⟩ := HN'.out.2 (by omega)
    have e0 := hcn q hlt
    have hgd : names.getD q [] = names[q] := by rw [List.getD_eq_getElem?_getD, List.getElem?_eq_getElem hql]; rfl
    rw [hgd] at e0
    unfold strV at e0
    obtain ⟨nm, hnm⟩ : ∃ nm, names[q] = nm := ⟨_, rfl⟩
    rw [hnm] at e0 HR2
    have k0 : (0 : Int) ≤ (q : Int) := by omega
    have k1 : (q : Int) < (m3 : Int) := by omega
    have hX2 : ∀ (Y : Ext w') (p : Addr), (w'.cell? p).isSome = true → Y.w.cell? p = w'.cell? p := fun Y p h => Y.cell p h
    clear hcn hgd hnm
    go_wp2_with fail
    refine wre ?_
    repeat (go_big_quiet_step (first | (go_at_call 86; rename_i Y; exact Calls.ext_of (entry_any _ s _ _ _ (HS'.out.below Y.bel)))))
    refine wpQuiet_nil ?_
    rintro w7 ⟨Y, rfl⟩
    generalize hZe : Y.w = Z
    have hZ : Below w'.heap.size w' Z := by rw [← hZe]; exact Y.bel
    have HZ := Lib.hid (Cv.next HB'.out hZ)
    have HRZ := Lib.hid (row_below HO'.out hZ)
    clear hZe Y hX2 hZ y0 y1 y2 e0
    obtain ⟨N, hN⟩ : ∃ N, entV s.inos t ⟨nm.toArray⟩ = N := ⟨_, rfl⟩
    have hr := HR2.out
    rw [show entV s.inos t (txt nm) = N from hN] at hr
    have hwh : N ≠ 0 → 0 ≤ atV s.inos N := fun h0 => by rw [← hN] at h0 ⊢; exact entV_whole HW.out h0
    have HR3 := Lib.hid hr
    have HWH := Lib.hid hwh
    rw [hN]
    clear hr hN hwh
    by_cases h0 : N = 0
    ·have hr := HR3.out
     rw [if_pos h0] at hr
     have HR4 := Lib.hid hr
     subst h0
     clear hr
     go_wp2_with fail
     go_ret3
     exact ⟨⟨v', by rw [← HR4.out]; rfl⟩, Cv.next HAL.out HZ.out⟩
    ·have hr := HR3.out
     rw [if_neg h0] at hr
     have HR4 := Lib.hid hr
     have q0 : (N == 0) = false := by rw [beq_eq_false_iff_ne]; exact h0
     have HWN := Lib.hid (HWH.out h0)
     clear hr
     go_wp2_with fail
     go_roundw
     case rel => exact ⟨q + 1, N, v', _, rfl, rfl, by go_num, by omega, HZ.out, HRZ.out, HWN.out, HR4.out⟩
     case measure => simp [intOf]; omega
  ·have : names.drop q = [] := List.drop_eq_nil_of_le (by have := HNM.out.1; omega)
   rw [this, walkG] at hc
   have HC := Lib.hid hc
   clear hc this
   go_wp2_with fail
   go_ret3
   exact ⟨⟨X, by rw [← HC.out]; rfl⟩, Cv.next HAL.out HB.out⟩
theorem docode_any (n : Nat) (hn : n ≤ 65536) (w : World) : Calls Tryz.prog 112 #[.int .i64 (n : Int)] w fun e w' => e = .returned (.int .i64 (codeP n)) ∧ w = w' := by
 by_cases h0 : n = 0
 ·subst h0
  go_enter Tryz.func112, Tryz.ntmps112
  go_wp2
  go_ret
  exact ⟨rfl, rfl⟩
 by_cases h1 : n = 1101
 ·subst h1
  go_enter Tryz.func112, Tryz.ntmps112
  go_wp2
  go_ret
  exact ⟨rfl, rfl⟩
 by_cases h2 : n = 1102
 ·subst h2
  go_enter Tryz.func112, Tryz.ntmps112
  go_wp2
  go_ret
  exact ⟨rfl, rfl⟩
 ·have hc : codeP n = 9 := by unfold codeP; rw [if_neg h0, if_neg (by omega)]
  rw [hc]
  have q0 : ((n : Int) == 0) = false := by rw [beq_eq_false_iff_ne]; omega
  have q1 : ((n : Int) == 1101) = false := by rw [beq_eq_false_iff_ne]; omega
  have q2 : ((n : Int) == 1102) = false := by rw [beq_eq_false_iff_ne]; omega
  go_enter Tryz.func112, Tryz.ntmps112
  go_wp2
  go_ret
  exact ⟨rfl, rfl⟩
theorem walkG_some {is : List Ino} (hw : Whole is) : ∀ (ns : List (List UInt8)) (t : Int), 0 ≤ atV is t → (walkG is ns t).2 = 0 → 0 ≤ atV is (walkG is ns t).1
 | [], t, ht, _ => ht
 | n :: ns, t, ht, hc => by
  obtain ⟨k, x, hk, hx, _⟩ := atV_some ht
  unfold walkG at hc ⊢
  rw [hk, inoAt_nat, hx] at hc ⊢
  simp only at hc ⊢
  by_cases hd : x.dir = false
  ·rw [if_pos hd] at hc; cases hc
  ·rw [if_neg hd] at hc ⊢
   by_cases he : entV is t (txt n) = 0
   ·rw [if_pos he] at hc; cases hc
   ·rw [if_neg he] at hc ⊢
    exact walkG_some hw ns _ (entV_whole hw he) hc
set_option maxRecDepth 100000 in
set_option maxHeartbeats 8000000 in
theorem parent_any (v : Value) (s : St) (path : ByteArray) (w : World) (h : StAt none w v s) (hw : Whole s.inos) (hp : path.size ≤ 140737488355328) :
  Calls Tryz.prog 85 #[v, .string path] w fun e w' => e = .returned (.tuple #[.int .i64 (parentV s.inos path).1, .string (parentV s.inos path).2.1, .int .i64 (parentV s.inos path).2.2]) ∧ Below w.heap.size w w' := by
 obtain ⟨⟨A, n, c, B, m, d, D, k, e, rfl, hI, hD, hM, h5, h6, h7⟩, hz⟩ := h
 obtain ⟨R, hR⟩ : ∃ R, parentV s.inos path = R := ⟨_, rfl⟩
 rw [hR]
 unfold parentV at hR
 have he := parse_err path.data.toList
 have hl := parse_len path.data.toList
 have hbig := hz.big
 have hn := hI.1
 have hn2 : n ≤ 1099511627776 := by omega
 obtain ⟨W, hW, b0, b1, b2, hal, hlt0⟩ := box_st w A n c B m d D k e
 have HS := Lib.hid ((StAt.of_parts hI hD hM h5 h6 h7 hz).below hal)
 have HI := Lib.hid (hI.below hal)
 have HAL := Lib.hid hal
 have HR := Lib.hid hR
 have HW := Lib.hid hw
 clear hI hD hM hz hR hal hw hbig hn
 go_enter Tryz.func85, Tryz.ntmps85
 go_wp2_with fail
 refine (refparse_any path _ hp).mono ?_
 rintro e1 w1 ⟨x, out, pn, rfl, hpl, hx, hv, hb⟩
 have hr := HR.out
 rw [hpl] at hr he hl
 simp only at hr he hl
 have HR2 := Lib.hid hr
 have y0 := (hb.cell (p := ⟨w.heap.size, 0, .none⟩) hlt0).trans b0
 have y1 := (hb.cell (p := ⟨w.heap.size, 1, .none⟩) hlt0).trans b1
 have y2 := (hb.cell (p := ⟨w.heap.size, 2, .none⟩) hlt0).trans b2
 have HB := Lib.hid hb
 have HS1 := Lib.hid (HS.out.below hb)
 have HI1 := Lib.hid (HI.out.below hb)
 have hlt1 : w.heap.size < w1.heap.size := Nat.lt_of_lt_of_le hlt0 hb.size
 obtain ⟨T, ct, rfl, hct, hnm⟩ := NmAt.of_names hx
 have HNM := Lib.hid hnm
 clear hW hr HR hpl hx hv hb hnm b0 b1 b2
 by_cases h0 : pn = 0
 rotate_left
 ·have hr := HR2.out
  rw [if_pos h0] at hr
  have HR3 := Lib.hid hr
  have q0 : ((pn : Int) != 0) = true := by rw [bne_iff_ne]; omega
  clear hr
  go_wp2_with fail
  refine (docode_any pn (by omega) _).mono ?_
  rintro e2 w2 ⟨rfl, rfl⟩
  go_wp2_with fail
  go_ret3
  exact ⟨by rw [← HR3.out]; rfl, Cv.next HAL.out HB.out⟩
 subst h0
 have hr := HR2.out
 rw [if_neg (by simp)] at hr
 have HR3 := Lib.hid hr
 clear hr HR2
 by_cases hnil : out = []
 ·subst hnil
  have hr := HR3.out
  rw [if_pos rfl] at hr
  have HR4 := Lib.hid hr
  clear hr
  go_wp2_with fail
  go_ret3
  exact ⟨by rw [← HR4.out]; rfl, Cv.next HAL.out HB.out⟩
 obtain ⟨j, hj⟩ : ∃ j, out.length = j + 1 := by
  cases hO : out with
  | nil => exact absurd hO hnil
  | cons a l => exact ⟨l.length, by simp⟩
 have hr := HR3.out
 rw [if_neg hnil] at hr
 have hlast : out.getLastD [] = out.getD j [] := by
  rw [List.getLastD_eq_getLast?, List.getLast?_eq_getElem?, hj, List.getD_eq_getElem?_getD]
  rfl
 obtain ⟨G, hG⟩ : ∃ G, walkG s.inos out.dropLast 1 = G := ⟨_, rfl⟩
 have hsm : G.2 = 0 → 0 ≤ atV s.inos G.1 := fun h => by rw [← hG] at h ⊢; exact walkG_some HW.out _ _ HW.out.1 h
 have HSM := Lib.hid hsm
 rw [hG, hlast] at hr
 have HR5 := Lib.hid hr
 have HG := Lib.hid hG
 have hnj := HNM.out
 rw [hj] at hnj hct hl ⊢
 have HNJ := Lib.hid hnj
 have HN2 := Lib.hid hnj.init
 have HJ := Lib.hid hj
 have q1 : ((j : Int) + 1 == 0) = false := by rw [beq_eq_false_iff_ne]; omega
 have lw : IntKind.i64.wrap ((j : Int) + 1 - 1) = (j : Int) := by rw [IntKind.wrap_i64]; omega
 have lw3 : IntKind.i64.wrap (j : Int) = (j : Int) := by rw [IntKind.wrap_i64]; omega
 have lw2 : IntKind.i64.wrap (((j + 1 : Nat) : Int) - 1) = (j : Int) := by rw [IntKind.wrap_i64]; omega
 have j0 : (0 : Int) ≤ (j : Int) := by omega
 have j1 : (j : Int) ≤ (ct : Int) := by omega
 have j3 : j ≤ ct := by omega
 have j2 : (j : Int) < (j : Int) + 1 := by omega
 clear hr hlast hnj hj hnil HNM HR3 hG hsm
 obtain ⟨g3, off3, rfl, hg3, hcn⟩ := HNJ.out.2 (by omega)
 have hcj := hcn j (by omega)
 have HCJ := Lib.hid hcj
 clear hcn hcj
 go_wp2_with fail
 go_region_held3 (fun w' => w'.cell? ⟨w.heap.size, 0, none⟩ = some (.slice A n c) ∧ w'.cell? ⟨w.heap.size, 1, none⟩ = some (.slice B m d) ∧ w'.cell? ⟨w.heap.size, 2, none⟩ = some (.slice D k e))
  (first | go_keep | (refine ⟨?_, ?_, ?_⟩ <;> go_keep) | (refine ⟨(HB2.out.cell (p := ⟨w.heap.size, 0, .none⟩) hlt1).trans y0, (HB2.out.cell (p := ⟨w.heap.size, 1, .none⟩) hlt1).trans y1, (HB2.out.cell (p := ⟨w.heap.size, 2, .none⟩) hlt1).trans y2⟩))
  ((go_at_call 113; refine (walk_any _ s (some ⟨g3, off3, none⟩) j ct out.dropLast _ (HS1.out.drewN 1) HW.out (by exact HN2.out) (by omega)).mono ?_; rintro e2 w2 ⟨⟨th, rfl⟩, hb2⟩; have HB2 := Lib.hid (show Below w1.heap.size w1 w2 from Cv.next (Cv.drewN_below (Below.refl _ _) 1) hb2); clear hb2))
 rw [HG.out]
 have hcj := HCJ.out
 unfold strV at hcj
 obtain ⟨nm, hnm⟩ : ∃ nm, out.getD j [] = nm := ⟨_, rfl⟩
 have hr := HR5.out
 rw [hnm] at hcj hr
 have HR6 := Lib.hid hr
 have z0 := (HB2.out.cell (p := ⟨w.heap.size, 0, .none⟩) hlt1).trans y0
 have z1 := (HB2.out.cell (p := ⟨w.heap.size, 1, .none⟩) hlt1).trans y1
 have z2 := (HB2.out.cell (p := ⟨w.heap.size, 2, .none⟩) hlt1).trans y2
 have e0 := (HB2.out.cell (p := ⟨g3, _, .none⟩) hg3).trans hcj
 have HS2 := Lib.hid (HS1.out.below HB2.out)
 have HI2 := Lib.hid (HI1.out.below HB2.out)
 obtain ⟨N, C⟩ := G
 dsimp only
 clear y0 y1 y2 hcj hnm hr HR5 HCJ HG
 by_cases hc0 : C = 0
 rotate_left
 ·have hr := HR6.out
  rw [if_pos hc0] at hr
  have HR7 := Lib.hid hr
  have q7 : (C != 0) = true := by rw [bne_iff_ne]; exact hc0
  clear hr
  go_wp2_with fail
  go_ret3
  exact ⟨by rw [← HR7.out]; rfl, Cv.next HAL.out (Cv.next HB.out HB2.out)⟩
 have hr := HR6.out
 rw [if_neg (by simpa using hc0)] at hr
 have HR7 := Lib.hid hr
 have hat := HSM.out hc0
 obtain ⟨i, x, hati, hx, _⟩ := atV_some hat
 subst hc0
 have hin : i < n := by have := (List.getElem?_eq_some_iff.1 hx).1; have := HI2.out.1; omega
 obtain ⟨g, off, x', E, m2, d2, rfl, hg, hx', _, _, _, c1, _, _, _, _⟩ := HI2.out.get i hin
 have ex : x = x' := by rw [hx] at hx'; exact Option.some.inj hx'
 subst ex
 have i0 : (0 : Int) ≤ (i : Int) := by omega
 have i9 : (i : Int) < (n : Int) := by omega
 have hda : dirAt s.inos N = x.dir := by
  unfold dirAt
  simp only at hati
  rw [hati, inoAt_nat, hx]
 rw [hda] at hr
 have HR8 := Lib.hid hr
 simp only at hati
 have HAT := Lib.hid hati
 have hX := @Ext.cell w2
 clear hr hx hx' hda hat hati HR7 HR6
 go_wp2_with fail
 refine wre ?_
 repeat (go_big_quiet_step (first | (go_at_call 57; rename_i X; exact Calls.ext_of (by have := at_any _ s N _ (HS2.out.below X.bel); rw [HAT.out] at this; exact this))))
 refine wpQuiet_nil ?_
 rintro w7 ⟨X, rfl⟩
 have e1 := (X.bel.cell (p := ⟨g3, _, .none⟩) (Nat.lt_of_lt_of_le hg3 HB2.out.size)).trans e0
 have HX := Lib.hid X.bel
 cases hdir : x.dir
 ·have hr := HR8.out
  rw [if_pos hdir] at hr
  have HR9 := Lib.hid hr
  clear hr hX
  go_wp2_with fail
  go_ret3
  exact ⟨by rw [← HR9.out]; rfl, Cv.next HAL.out (Cv.next HB.out (Cv.next HB2.out HX.out))⟩
 ·have hr := HR8.out
  rw [if_neg (by rw [hdir]; simp)] at hr
  have HR9 := Lib.hid hr
  clear hr hX
  go_wp2_with fail
  go_quiet (fail)
  go_wp2_with fail
  go_ret3
  exact ⟨by rw [← HR9.out]; rfl, Cv.next HAL.out (Cv.next HB.out (Cv.next HB2.out (Cv.drewN_below HX.out _)))⟩
theorem drop_cons (s : ByteArray) (k : Nat) (h : k < s.size) : s.data.toList.drop k = s[k] :: s.data.toList.drop (k + 1) := by
 rw [List.drop_eq_getElem_cons (by simpa using h)]
 rfl
theorem drop_end (s : ByteArray) (k : Nat) (h : ¬ k < s.size) : s.data.toList.drop k = [] := List.drop_eq_nil_of_le (by
 have : s.data.toList.length = s.size := rfl
 omega)
set_option maxHeartbeats 2000000 in
theorem ltn_any (a b : ByteArray) (w : World) (ha : a.size ≤ 140737488355328) (hb : b.size ≤ 140737488355328) :
  Calls Tryz.prog 59 #[.string a, .string b] w fun e w' => e = .returned (.bool (ltN a b)) ∧ ∃ q, w' = w.drewN q := by
 obtain ⟨R, hR⟩ : ∃ R, ltN a b = R := ⟨_, rfl⟩
 rw [hR]
 unfold ltN at hR
 have HR := Lib.hid hR
 clear hR
 go_enter Tryz.func59, Tryz.ntmps59
 go_wp2_with fail
 go_loopw [5] (fun i wr => ∃ k q : Nat, i = .int .i64 k ∧ k ≤ a.size ∧ k ≤ b.size ∧ wr = w.drewN q ∧ ltB (a.data.toList.drop k) (b.data.toList.drop k) = R) (fun i _ => a.size - (intOf i).toNat)
 case atStart => exact ⟨0, 0, rfl, by omega, by omega, rfl, HR.out⟩
 case round =>
  obtain ⟨k, q, rfl, hka, hkb, rfl, hc⟩ := hrel
  by_cases hla : k < a.size
  ·by_cases hlb : k < b.size
   ·rw [drop_cons a k hla, drop_cons b k hlb, ltB] at hc
    have k0 : (0 : Int) ≤ (k : Int) := by omega
    have k1 : (k : Int) < (a.size : Int) := by omega
    have k2 : (k : Int) < (b.size : Int) := by omega
    by_cases hq : a[k] = b[k]
    ·rw [if_pos hq] at hc
     have Hc := Lib.hid hc
     have qq : ((a[k].toNat : Int) != (b[k].toNat : Int)) = false := by rw [hq]; simp
     clear hc
     go_wp2_with fail
     go_quiet (fail)
     go_wp2_with fail
     go_roundw
     case rel => exact ⟨k + 1, _, by go_num, by omega, by omega, rfl, Hc.out⟩
     case measure => simp [intOf]; omega
    ·rw [if_neg hq] at hc
     have Hc := Lib.hid hc
     have hne : ¬ a[k].toNat = b[k].toNat := fun e => hq (UInt8.toNat_inj.1 e)
     have qq : ((a[k].toNat : Int) != (b[k].toNat : Int)) = true := by rw [bne_iff_ne]; omega
     clear hc
     go_wp2_with fail
     go_quiet (fail)
     go_wp2_with fail
     go_quiet (fail)
     go_wp2_with fail
     go_ret
     refine ⟨Cv.ret_bool ?_, _, by rw [World.drewN_drewN, World.drewN_drewN]⟩
     rw [← Hc.out]
     simp [UInt8.lt_iff_toNat_lt]
   ·rw [drop_cons a k hla, drop_end b k hlb, ltB] at hc
    have e : b.size = k := by omega
    have Hc := Lib.hid hc
    have q1 : decide (k < b.size) = false := by simp; omega
    clear hc
    go_wp2_with fail
    go_ret
    refine ⟨Cv.ret_bool ?_, _, rfl⟩
    rw [← Hc.out]
    simp
    omega
  ·have e : a.size = k := by omega
   rw [drop_end a k hla] at hc
   have Hc := Lib.hid hc
   clear hc
   go_wp2_with fail
   go_ret
   refine ⟨Cv.ret_bool ?_, _, rfl⟩
   rw [← Hc.out]
   by_cases hlb : k < b.size
   ·rw [drop_cons b k hlb, ltB]
    simp
    omega
   ·rw [drop_end b k hlb, ltB]
    simp
    omega
end Go.Proofs.YthhceopnnappgaaGreatDoor
