/- Parts of the proof, side by side: MoEnts, MoEntry, FsRename, FsOpen. -/
import Derived.Test.YthhceopnnappgaaGreatDoorM21
import Derived.Test.YthhceopnnappgaaGreatDoorFsEnts
import Derived.Test.YthhceopnnappgaaGreatDoorM09
import Derived.Test.YthhceopnnappgaaGreatDoorM06
import Derived.Lib.Bytealg
import Derived.Test.YthhceopnnappgaaGreatDoorM19
import Derived.Test.YthhceopnnappgaaGreatDoorM02
import Derived.Deep.Cut
import Derived.Deep.DeepCutAuto
set_option linter.unusedVariables false
set_option linter.unusedSimpArgs false
namespace Go.Proofs.YthhceopnnappgaaGreatDoor
open Go.RowKit
theorem bytesLess_eq : ∀ (a b : List UInt8), Op.bytesLess a b = ltB a b
 | [], [] => rfl
 | [], _ :: _ => rfl
 | _ :: _, [] => rfl
 | a :: al, b :: bl => by
  unfold Op.bytesLess ltB
  rw [bytesLess_eq al bl]
  by_cases h : a = b
  ·subst h
   rw [if_pos rfl]
   simp
  ·rw [if_neg h]
   have : (a == b) = false := by rw [beq_eq_false_iff_ne]; exact h
   simp [this]
theorem bucketm_any (s : ByteArray) (w : World) (hs : s.size ≤ maxLen) :
  Calls Tryz.prog 106 #[.string s] w fun e w' => e = .returned (.int .i64 ((bktB s : Nat) : Int)) ∧ Below w.heap.size w w' := by
 have h1 : hashL s.data.toList % 8 < 8 := Nat.mod_lt _ (by omega)
 obtain ⟨H, hH⟩ : ∃ H, hashL s.data.toList = H := ⟨_, rfl⟩
 have hb : bktB s = H % 8 := by unfold bktB; rw [hH]
 rw [hb]
 go_enter Tryz.func106, Tryz.ntmps106
 go_wp2_with fail
 refine (hash_any s _ hs).mono ?_
 rintro e w1 ⟨rfl, hbl⟩
 rw [hH]
 have e1 : (H : Int).tmod 8 = ((H % 8 : Nat) : Int) := rfl
 go_wp2_with fail
 go_ret
 exact ⟨by first | rfl | simp, hbl⟩
set_option maxRecDepth 100000 in
set_option maxHeartbeats 4000000 in
theorem maynum_any (p : Nat) (s : St) (num : Int) (w : World) (h : PtrAt w p s) (h1 : -9223372036854775808 ≤ num) (h2 : num ≤ 9223372036854775807) :
  Calls Tryz.prog 76 #[.pointer (some ⟨p, 0, .none⟩), .int .i64 num] w fun e w' => e = .returned (.bool (givenV s.made num)) ∧ Below w.heap.size w w' := by
 obtain ⟨A, n, c, E, m, d, D, k, e, hp, c0, c1, c2, hI, hD, hM, hn, _, hk⟩ := h.val
 have hkl := hM.1
 obtain ⟨R, hR⟩ : ∃ R, givenV s.made num = R := ⟨_, rfl⟩
 rw [hR]
 unfold givenV at hR
 have hX := @Ext.cell w
 go_enter Tryz.func76, Tryz.ntmps76
 go_wp2_with fail
 refine (core_any num h1 h2 _).mono ?_
 rintro e1 w1 ⟨rfl, rfl⟩
 by_cases hnum : num < 2
 ·rw [if_pos hnum] at hR ⊢
  subst hR
  go_wp2_with fail
  refine wre ?_
  repeat (go_big_quiet_step (fail))
  refine wpQuiet_nil ?_
  rintro w7 ⟨X, rfl⟩
  go_wp2_with fail
  go_ret
  exact ⟨rfl, X.bel⟩
 ·rw [if_neg hnum] at hR ⊢
  obtain ⟨C, hC⟩ : ∃ C : Nat, (num - 2) % 8 = (C : Int) := ⟨((num - 2) % 8).toNat, by omega⟩
  obtain ⟨Q, hQ⟩ : ∃ Q : Int, (num - 2) / 8 = Q := ⟨_, rfl⟩
  rw [hC, hQ, Int.toNat_natCast] at hR
  rw [hC]
  have q0 : decide ((0 : Int) ≤ (C : Int)) = true := by rw [decide_eq_true_eq]; omega
  by_cases hlt : C < k
  ·have q1 : decide ((C : Int) < (k : Int)) = true := by rw [decide_eq_true_eq]; omega
   obtain ⟨g, off, x, rfl, hg, hx, hd, hmem, cx⟩ := hM.get C hlt
   have hgd : s.made.getD C 0 = x := by rw [List.getD_eq_getElem?_getD, hx]; rfl
   rw [hgd, decide_eq_true (show (C : Int) < (s.made.length : Int) by omega), Bool.true_and] at hR
   subst hR
   have k0 : (0 : Int) ≤ (C : Int) := by omega
   have k1 : (C : Int) < (k : Int) := by omega
   clear hd hx hmem hgd hI hD hM
   go_wp2_with fail
   refine wre ?_
   repeat (go_big_quiet_step (first | (go_at_call 104; exact Calls.ext_of_same (by have := made_any num (by omega) h2; rw [hQ] at this; exact this _))))
   refine wpQuiet_nil ?_
   rintro w7 ⟨X, rfl⟩
   go_wp2_with fail
   go_ret
   exact ⟨rfl, X.bel⟩
  ·have q1 : decide ((C : Int) < (k : Int)) = false := by rw [decide_eq_false_iff_not]; omega
   rw [decide_eq_false (show ¬ (C : Int) < (s.made.length : Int) by omega), Bool.false_and] at hR
   subst hR
   go_wp2_with fail
   refine wre ?_
   repeat (go_big_quiet_step (fail))
   refine wpQuiet_nil ?_
   rintro w7 ⟨X, rfl⟩
   go_wp2_with fail
   go_ret
   exact ⟨rfl, X.bel⟩
def ManyT (w : World) (M : Nat) (f : Nat → Nat) : Prop := ∃ (cur : Array Value) (t : TypeId), w.heap[M]? = some (.cells cur t (0, 0)) ∧ ∀ j, j < 8 → cur[j]? = some (.int .i64 (f j : Nat))
theorem ManyT.lt {w : World} {M : Nat} {f : Nat → Nat} (h : ManyT w M f) : M < w.heap.size := by
 obtain ⟨cur, t, hh, _⟩ := h
 exact (Array.getElem?_eq_some_iff.1 hh).1
theorem ManyT.below {w w' : World} {M : Nat} {f : Nat → Nat} (h : ManyT w M f) (hb : Below w.heap.size w w') : ManyT w' M f := by
 have hl := h.lt
 obtain ⟨cur, t, hh, hc⟩ := h
 exact ⟨cur, t, (hb.block M hl).trans hh, hc⟩
theorem ManyT.get {w : World} {M : Nat} {f : Nat → Nat} (h : ManyT w M f) (j : Nat) (hj : j < 8) : w.cell? ⟨M, j, .none⟩ = some (.int .i64 (f j : Nat)) ∧ w.frozen? ⟨M, j, .none⟩ = false := by
 obtain ⟨cur, t, hh, hc⟩ := h
 exact ⟨by rw [cell_of_row w M j cur _ (0, 0) hh]; exact hc j hj, frozen_of_row w M j cur _ hh⟩
theorem ManyT.set {w : World} {M : Nat} {f : Nat → Nat} (h : ManyT w M f) (b : Nat) (hb : b < 8) : ManyT (w.setCell ⟨M, b, .none⟩ (.int .i64 ((f b : Int) + 1))) M (fun j => if j = b then f j + 1 else f j) := by
 obtain ⟨cur, t, hh, hc⟩ := h
 refine ⟨_, t, heap_setCell_same w M b cur _ _ hh, fun j hj => ?_⟩
 rw [Array.getElem?_setIfInBounds]
 by_cases e : b = j
 ·subst e
  have : b < cur.size := (Array.getElem?_eq_some_iff.1 (hc b hb)).1
  simp [this]
 ·have e2 : ¬ j = b := fun h => e h.symm
  simp only [e, e2, if_false]
  exact hc j hj
theorem many_arr (w : World) (t : TypeId) : ∃ W, w.alloc (.cells #[.int .i64 0, .int .i64 0, .int .i64 0, .int .i64 0, .int .i64 0, .int .i64 0, .int .i64 0, .int .i64 0] t) = W ∧ ManyT W w.heap.size (fun _ => 0) ∧ Below w.heap.size w W := by
 refine ⟨_, rfl, ⟨_, t, heap_alloc_new w _, fun j hj => ?_⟩, (Below.refl _ _).alloc (Nat.le_refl _) _⟩
 have : j = 0 ∨ j = 1 ∨ j = 2 ∨ j = 3 ∨ j = 4 ∨ j = 5 ∨ j = 6 ∨ j = 7 := by omega
 rcases this with h | h | h | h | h | h | h | h <;> subst h <;> rfl
theorem ltB_trans : ∀ (a b c : List UInt8), ltB a b = true → ltB b c = true → ltB a c = true
 | [], [], _, h, _ => by simp [ltB] at h
 | [], _ :: _, [], _, h => by simp [ltB] at h
 | [], _ :: _, _ :: _, _, _ => rfl
 | _ :: _, [], _, h, _ => by simp [ltB] at h
 | _ :: _, _ :: _, [], _, h => by simp [ltB] at h
 | a :: al, b :: bl, c :: cl, h1, h2 => by
  unfold ltB at h1 h2 ⊢
  by_cases e1 : a = b
  ·subst e1
   rw [if_pos rfl] at h1
   by_cases e2 : a = c
   ·subst e2
    rw [if_pos rfl] at h2 ⊢
    exact ltB_trans al bl cl h1 h2
   ·rw [if_neg e2] at h2 ⊢
    exact h2
  ·rw [if_neg e1, decide_eq_true_eq] at h1
   by_cases e2 : b = c
   ·subst e2
    rw [if_neg e1, decide_eq_true_eq]
    exact h1
   ·rw [if_neg e2, decide_eq_true_eq] at h2
    have h3 := UInt8.lt_trans h1 h2
    have e3 : a ≠ c := fun e => by subst e; exact absurd h3 (UInt8.lt_irrefl _)
    rw [if_neg e3, decide_eq_true_eq]
    exact h3
theorem ltN_trans {a b c : ByteArray} (h1 : ltN a b = true) (h2 : ltN b c = true) : ltN a c = true := ltB_trans _ _ _ h1 h2
def RiseE (es : List En) : Prop := ∀ (i j : Nat) (x y : En), i < j → es[i]? = some x → es[j]? = some y → ltN x.name y.name = true
structure EnPos (es : List En) (nm : ByteArray) (i : Nat) (b : Bool) : Prop where
 le : i ≤ es.length
 lo : ∀ (k : Nat) (x : En), k < i → es[k]? = some x → ltN x.name nm = true
 hi : ∀ (k : Nat) (x : En), i ≤ k → es[k]? = some x → ltN x.name nm = false
 is_ : b = true → ∃ e, es[i]? = some e ∧ e.name = nm
 of_ : (∃ e, es[i]? = some e ∧ e.name = nm) → b = true
theorem modify_mem {α : Type} (f : α → α) : ∀ (l : List α) (i : Nat) (y : α), y ∈ l.modify i f → y ∈ l ∨ ∃ x ∈ l, y = f x
 | [], _, _, h => by simp at h
 | x :: xs, 0, y, h => by
  have h2 : y ∈ f x :: xs := h
  rcases List.mem_cons.1 h2 with rfl | h2
  ·exact .inr ⟨x, List.mem_cons_self, rfl⟩
  ·exact .inl (List.mem_cons_of_mem _ h2)
 | x :: xs, i + 1, y, h => by
  have h2 : y ∈ x :: xs.modify i f := h
  rcases List.mem_cons.1 h2 with rfl | h2
  ·exact .inl List.mem_cons_self
  ·rcases modify_mem f xs i y h2 with h3 | ⟨z, h3, h4⟩
   ·exact .inl (List.mem_cons_of_mem _ h3)
   ·exact .inr ⟨z, List.mem_cons_of_mem _ h3, h4⟩
theorem box_ds (w : World) (core fd num : Int) : ∃ W, w.alloc (.cells #[.int .i64 core, .int .i64 fd, .int .i64 num] 67) = W ∧ W.cell? ⟨w.heap.size, 0, .none⟩ = some (.int .i64 core) ∧ W.cell? ⟨w.heap.size, 1, .none⟩ = some (.int .i64 fd) ∧ W.cell? ⟨w.heap.size, 2, .none⟩ = some (.int .i64 num) ∧ Below w.heap.size w W ∧ w.heap.size < W.heap.size := by
 refine ⟨_, rfl, ?_, ?_, ?_, (Below.refl _ _).alloc (Nat.le_refl _) _, by simp⟩
 ·exact (World.cell?_alloc_mark w _ _ (0, 0) _).trans rfl
 ·exact (World.cell?_alloc_mark w _ _ (0, 0) _).trans rfl
 ·exact (World.cell?_alloc_mark w _ _ (0, 0) _).trans rfl
def prevD (ds : List Ds) (k : Nat) : Option Ds := if k = 0 then none else ds[k - 1]?
set_option maxRecDepth 100000 in
set_option maxHeartbeats 8000000 in
theorem opens_any (v : Value) (s : St) (w : World) (h : StAt none w v s) :
  Calls Tryz.prog 36 #[v] w fun e w' => e = .returned (.bool (opensV s)) ∧ Below w.heap.size w w' := by
 obtain ⟨⟨A, n, c, B, m, d, D, k, e, rfl, hI, hD, hM, h5, h6, h7⟩, hz⟩ := h
 obtain ⟨R, hR⟩ : ∃ R, opensV s = R := ⟨_, rfl⟩
 rw [hR]
 unfold opensV at hR
 have hbig := hz.big
 have hn := hD.1
 have hn1 := hI.1
 have hkm := hM.1
 have hm2 : m ≤ 1099511627776 := by omega
 have hn2 : n ≤ 1099511627776 := by omega
 have hk2 : k ≤ 1099511627776 := by omega
 rw [hkm] at hR
 obtain ⟨W, hW, b0, b1, b2, hal, hlt0⟩ := box_st w A n c B m d D k e
 have HS := Lib.hid ((StAt.of_parts hI hD hM h5 h6 h7 hz).below hal)
 have HI := Lib.hid (hI.below hal)
 have HD := Lib.hid (hD.below hal)
 have HAL := Lib.hid hal
 have HR := Lib.hid hR
 clear hI hD hM hz hR hal hbig hn hn1 hkm
 go_enter Tryz.func36, Tryz.ntmps36
 go_wp2_with fail
 clear hW
 go_loopw [3, 4, 5, 6] (fun i _ _ _ wr => ∃ q : Nat, i = .int .i64 q ∧ q ≤ m ∧ Below W.heap.size W wr ∧ opensG s.inos k (s.opn.drop q) (prevD s.opn q) = R) (fun i _ _ _ _ => m - (intOf i).toNat)
 case atStart => exact ⟨0, rfl, by omega, Below.refl _ _, HR.out⟩
 case round =>
  obtain ⟨q, rfl, hq, hbel, hc⟩ := hrel
  have z0 := (hbel.cell (p := ⟨w.heap.size, 0, .none⟩) hlt0).trans b0
  have z1 := (hbel.cell (p := ⟨w.heap.size, 1, .none⟩) hlt0).trans b1
  have z2 := (hbel.cell (p := ⟨w.heap.size, 2, .none⟩) hlt0).trans b2
  have HB := Lib.hid hbel
  have HDr := Lib.hid (HD.out.below hbel)
  clear hbel b0 b1 b2
  by_cases hlt : q < m
  ·obtain ⟨g, off, y, rfl, hg, hy, hd, hmem, e0, e1, e2⟩ := HDr.out.get q hlt
   rw [hd, opensG] at hc
   have k0 : (0 : Int) ≤ (q : Int) := by omega
   have k1 : (q : Int) < (m : Int) := by omega
   obtain ⟨BD, hBD⟩ : ∃ BD, dsBad s.inos k y = BD := ⟨_, rfl⟩
   obtain ⟨PD, hPD⟩ : ∃ PD, dsPrev (prevD s.opn q) y = PD := ⟨_, rfl⟩
   rw [hBD, hPD] at hc
   have HBD := Lib.hid hBD
   have HPD := Lib.hid hPD
   have HC := Lib.hid hc
   have HY := Lib.hid hy
   clear hc hd hmem hy hBD hPD
   obtain ⟨V2, hV2, v0, v1, v2, hal4, hlt4⟩ := box_ds wr y.core y.fd y.num
   have hbv := Cv.next HB.out hal4
   have HSV := Lib.hid (HS.out.below hbv)
   have HIV := Lib.hid (HI.out.below hbv)
   have HDV := Lib.hid (HD.out.below hbv)
   have x0 := (hal4.cell (p := ⟨w.heap.size, 0, .none⟩) (Nat.lt_of_lt_of_le hlt0 HB.out.size)).trans z0
   have x1 := (hal4.cell (p := ⟨w.heap.size, 1, .none⟩) (Nat.lt_of_lt_of_le hlt0 HB.out.size)).trans z1
   have x2 := (hal4.cell (p := ⟨w.heap.size, 2, .none⟩) (Nat.lt_of_lt_of_le hlt0 HB.out.size)).trans z2
   have HBV := Lib.hid hbv
   clear hal4 hbv
   go_wp2_with fail
   refine (at_any _ s y.num _ HSV.out).mono ?_
   rintro e5 w5 ⟨rfl, hb5⟩
   have p0 := (hb5.cell (p := ⟨w.heap.size, 0, .none⟩) (Nat.lt_of_lt_of_le hlt0 HBV.out.size)).trans x0
   have p1 := (hb5.cell (p := ⟨w.heap.size, 1, .none⟩) (Nat.lt_of_lt_of_le hlt0 HBV.out.size)).trans x1
   have p2 := (hb5.cell (p := ⟨w.heap.size, 2, .none⟩) (Nat.lt_of_lt_of_le hlt0 HBV.out.size)).trans x2
   have d0 := (hb5.cell (p := ⟨wr.heap.size, 0, .none⟩) hlt4).trans v0
   have d1 := (hb5.cell (p := ⟨wr.heap.size, 1, .none⟩) hlt4).trans v1
   have d2 := (hb5.cell (p := ⟨wr.heap.size, 2, .none⟩) hlt4).trans v2
   have HI5 := Lib.hid (HIV.out.below hb5)
   have HD5 := Lib.hid (HDV.out.below hb5)
   have HB5 := Lib.hid (Cv.next HBV.out hb5)
   have hl5 : wr.heap.size < w5.heap.size := Nat.lt_of_lt_of_le hlt4 hb5.size
   clear hb5 x0 x1 x2 v0 v1 v2 z0 z1 z2 e0 e1 e2 hV2
   obtain ⟨T, hT⟩ : ∃ T, atV s.inos y.num = T := ⟨_, rfl⟩
   rw [hT]
   have HT := Lib.hid hT
   clear hT
   go_upto_region 6 with fail
   go_cut [55] (fun c wx => c = .bool BD ∧ w5 = wx)
   case first =>
    by_cases c1 : y.core < 0
    ·go_wp2_with fail
     go_meet
     exact ⟨congrArg Value.bool (by rw [← HBD.out]; unfold dsBad; simp [c1]), rfl⟩
    by_cases c2 : (k : Int) ≤ y.core
    ·go_wp2_with fail
     go_meet
     exact ⟨congrArg Value.bool (by rw [← HBD.out]; unfold dsBad; simp [c2]), rfl⟩
    by_cases c3 : y.fd < 0
    ·go_wp2_with fail
     go_meet
     exact ⟨congrArg Value.bool (by rw [← HBD.out]; unfold dsBad; simp [c3]), rfl⟩
    by_cases c4 : 4 ≤ y.fd
    ·go_wp2_with fail
     go_meet
     exact ⟨congrArg Value.bool (by rw [← HBD.out]; unfold dsBad; simp [c4]), rfl⟩
    rcases atV_cases s.inos y.num with ⟨hat, _⟩ | ⟨i, x, hat, hx, _, _⟩
    ·have ht : T = -1 := by rw [← HT.out]; exact hat
     subst ht
     go_wp2_with fail
     go_meet
     exact ⟨congrArg Value.bool (by rw [← HBD.out]; unfold dsBad; rw [hat]; simp [inoAt]), rfl⟩
    ·have ht : T = (i : Int) := by rw [← HT.out]; exact hat
     subst ht
     have hin : i < n := by have := (List.getElem?_eq_some_iff.1 hx).1; have := HI5.out.1; omega
     obtain ⟨g2, off2, x', E, m3, d3, rfl, hg2, hx', _, _, _, i1, _, _, _, _⟩ := HI5.out.get i hin
     have ex : x = x' := by rw [hx] at hx'; exact Option.some.inj hx'
     subst ex
     have q0 : decide ((i : Int) < 0) = false := by simp
     have i0 : (0 : Int) ≤ (i : Int) := by omega
     have i9 : (i : Int) < (n : Int) := by omega
     have HX := Lib.hid hx
     have HA2 := Lib.hid hat
     clear hx hx' hat
     go_wp2_with fail
     go_meet
     exact ⟨congrArg Value.bool (by rw [← HBD.out]; unfold dsBad; rw [HA2.out, inoAt_nat, HX.out]; simp; intro hh; exfalso; omega), rfl⟩
   case rest =>
    obtain ⟨rfl, rfl⟩ := hcut
    cases BD
    rotate_left
    ·have hr := HC.out
     rw [if_pos rfl] at hr
     have HR2 := Lib.hid hr
     clear hr
     go_wp2_with fail
     go_ret
     exact ⟨Cv.ret_bool HR2.out, Cv.next HAL.out HB5.out⟩
    ·have hr := HC.out
     rw [if_neg (by simp)] at hr
     have HR2 := Lib.hid hr
     clear hr
     by_cases hq0 : q = 0
     ·have hP : PD = false := by rw [← HPD.out, prevD, if_pos hq0]; rfl
      subst hP
      have q1 : decide ((0 : Int) < (q : Int)) = false := by simp; omega
      have hr := HR2.out
      rw [if_neg (by simp)] at hr
      have HR3 := Lib.hid hr
      clear hr
      go_wp2_with fail
      go_roundw
      case rel => exact ⟨q + 1, by go_num, by omega, HB5.out, by
       have e : prevD s.opn (q + 1) = some y := by unfold prevD; rw [if_neg (by omega), Nat.add_sub_cancel]; exact HY.out
       rw [e]
       exact HR3.out⟩
      case measure => simp [intOf]; omega
     ·obtain ⟨j, rfl⟩ : ∃ j, q = j + 1 := ⟨q - 1, by omega⟩
      obtain ⟨g3, off3, o, hA3, hg3, hy3, _, _, f0, f1, f2⟩ := HD5.out.get j (by omega)
      injection hA3 with hA3
      injection hA3 with hA1 hA2
      subst hA1 hA2
      have q1 : decide ((0 : Int) < ((j + 1 : Nat) : Int)) = true := by rw [decide_eq_true_eq]; omega
      have q1b : decide ((0 : Int) < (j : Int) + 1) = true := by rw [decide_eq_true_eq]; omega
      have j0 : (0 : Int) ≤ (j : Int) := by omega
      have j1 : (j : Int) < (m : Int) := by omega
      have jw : IntKind.i64.wrap ((j : Int) + 1 - 1) = (j : Int) := by rw [IntKind.wrap_i64]; omega
      have hP : PD = dsPrev (some o) y := by rw [← HPD.out, prevD, if_neg (by omega), Nat.add_sub_cancel, hy3]
      have HP := Lib.hid hP
      obtain ⟨V3, hV3, o0, o1, o2, hal6, hlt6⟩ := box_ds w5 o.core o.fd o.num
      have r0 := (hal6.cell (p := ⟨wr.heap.size, 0, .none⟩) hl5).trans d0
      have r1 := (hal6.cell (p := ⟨wr.heap.size, 1, .none⟩) hl5).trans d1
      have HB6 := Lib.hid (Cv.next HB5.out hal6)
      clear hal6 hP hy3 hq0
      go_upto_region 10 with fail
      clear hV3 d0 d1 d2 p0 p1 p2 f0 f1 f2 hg3
      go_cut [82] (fun c wx => c = .bool PD ∧ V3 = wx)
      case first =>
       by_cases c1 : y.core < o.core
       ·go_wp2_with fail
        go_meet
        exact ⟨congrArg Value.bool (by rw [HP.out]; unfold dsPrev; simp [c1]), rfl⟩
       by_cases c2 : o.core = y.core
       ·have qc : (o.core == y.core) = true := by rw [c2]; exact beq_self_eq_true _
        have HC2 := Lib.hid c2
        have q9 : decide (y.core < o.core) = false := by simp; omega
        clear c2
        go_wp2_with fail
        go_meet
        exact ⟨congrArg Value.bool (by rw [HP.out]; unfold dsPrev; simp [HC2.out]), rfl⟩
       ·have qc : (o.core == y.core) = false := by rw [beq_eq_false_iff_ne]; exact c2
        go_wp2_with fail
        go_meet
        exact ⟨congrArg Value.bool (by rw [HP.out]; unfold dsPrev; simp [c1, c2]), rfl⟩
      case rest =>
       obtain ⟨rfl, rfl⟩ := hcut
       cases PD
       rotate_left
       ·have hr := HR2.out
        rw [if_pos rfl] at hr
        have HR3 := Lib.hid hr
        clear hr
        go_wp2_with fail
        go_ret
        exact ⟨Cv.ret_bool HR3.out, Cv.next HAL.out HB6.out⟩
       ·have hr := HR2.out
        rw [if_neg (by simp)] at hr
        have HR3 := Lib.hid hr
        clear hr
        go_wp2_with fail
        go_roundw
        case rel => exact ⟨j + 1 + 1, by go_num, by omega, HB6.out, by
         have e : prevD s.opn (j + 1 + 1) = some y := by unfold prevD; rw [if_neg (by omega), Nat.add_sub_cancel]; exact HY.out
         rw [e]
         exact HR3.out⟩
        case measure => simp [intOf]; omega
  ·have : s.opn.drop q = [] := List.drop_eq_nil_of_le (by have := HDr.out.1; omega)
   rw [this, opensG] at hc
   have HC := Lib.hid hc
   clear hc this
   go_wp2_with fail
   go_ret
   exact ⟨Cv.ret_bool HC.out, Cv.next HAL.out HB.out⟩
end Go.Proofs.YthhceopnnappgaaGreatDoor
