/- Parts of the proof, side by side: FsRename, Rows0, FsOpen, FsLooks. -/
import Derived.Test.YthhceopnnappgaaGreatDoorM17
import Derived.Test.YthhceopnnappgaaGreatDoorStOwn
import Derived.Test.YthhceopnnappgaaGreatDoorM02
import Derived.Deep.Cut
import Derived.Deep.DeepCutAuto
import Derived.Test.YthhceopnnappgaaGreatDoorFsMake
import Derived.Test.YthhceopnnappgaaGreatDoorFsCopy
import Derived.Test.YthhceopnnappgaaGreatDoorM05
import Derived.Test.YthhceopnnappgaaGreatDoorM08
import Derived.Deep.RegionHeld3
set_option linter.unusedVariables false
set_option linter.unusedSimpArgs false
namespace Go.Proofs.YthhceopnnappgaaGreatDoor
open Go.RowKit
theorem modify_mem {α : Type} (f : α → α) : ∀ (l : List α) (i : Nat) (y : α), y ∈ l.modify i f → y ∈ l ∨ ∃ x ∈ l, y = f x
 | [], _, _, h => by simp at h
 | x :: xs, 0, y, h => by
  have h2 : y ∈ f x :: xs := h
  rcases List.mem_cons.1 h2 with rfl | h2
  ·exact .inr ⟨x, List.mem_cons_self, rfl⟩
  ·exact .inl (List.mem_cons_of_mem _ h2)
 | x :: xs, i + 1, y, h => by
  have h2 : y ∈ x :: xs.modify i f := h
  rcases List.mem_cons.1 h2 with rfl | h2
  ·exact .inl List.mem_cons_self
  ·rcases modify_mem f xs i y h2 with h3 | ⟨z, h3, h4⟩
   ·exact .inl (List.mem_cons_of_mem _ h3)
   ·exact .inr ⟨z, List.mem_cons_of_mem _ h3, h4⟩
theorem row_three {w : World} {b : Nat} {t : TypeId} {a0 a1 a2 : Value} (h : w.heap[b]? = some (.cells #[a0, a1, a2] t (0, 0))) (x y z : Value) : (((w.setCell ⟨b, 0, none⟩ x).setCell ⟨b, 1, none⟩ y).setCell ⟨b, 2, none⟩ z).heap[b]? = some (.cells #[x, y, z] t (0, 0)) :=
 heap_setCell_same _ b 2 _ _ z (heap_setCell_same _ b 1 _ _ y (heap_setCell_same w b 0 _ _ x h))
theorem row_far {w : World} {b g k : Nat} {u : Value} {o : Option Obj} (h : w.heap[b]? = o) (hne : b ≠ g) : (w.setCell ⟨g, k, none⟩ u).heap[b]? = o := (Below.heap_setCell w ⟨g, k, none⟩ u b hne).trans h
theorem row_past {w : World} {b : Nat} {x : Obj} {o : Option Obj} (h : w.heap[b]? = o) (hlt : b < w.heap.size) : (w.alloc x).heap[b]? = o := (heap_alloc_old w x hlt).trans h
theorem row_new (w : World) (o : Obj) (b : Nat) (hb : b = w.heap.size) : (w.alloc o).heap[b]? = some o := by subst hb; exact heap_alloc_new w o
theorem row_kept {u w5 : World} {g : Nat} {o : Obj} (hb : Below u.heap.size u w5) (h : u.heap[g]? = some o) : w5.heap[g]? = some o := (hb.block g (Array.getElem?_eq_some_iff.1 h).1).trans h
theorem al1 (w : World) (o : Obj) : (w.alloc o).drew.heap[w.heap.size]? = some o := heap_alloc_new w o
theorem al2a (w : World) (o o' : Obj) : ((w.alloc o).alloc o').drew.heap[w.heap.size]? = some o := row_past (heap_alloc_new w o) (by simp)
theorem al2b (w : World) (o o' : Obj) : ((w.alloc o).alloc o').drew.heap[w.heap.size + 1]? = some o' := row_new (w.alloc o) o' _ (by simp)
theorem box_ds (w : World) (core fd num : Int) : ∃ W, w.alloc (.cells #[.int .i64 core, .int .i64 fd, .int .i64 num] 67) = W ∧ W.cell? ⟨w.heap.size, 0, .none⟩ = some (.int .i64 core) ∧ W.cell? ⟨w.heap.size, 1, .none⟩ = some (.int .i64 fd) ∧ W.cell? ⟨w.heap.size, 2, .none⟩ = some (.int .i64 num) ∧ Below w.heap.size w W ∧ w.heap.size < W.heap.size := by
 refine ⟨_, rfl, ?_, ?_, ?_, (Below.refl _ _).alloc (Nat.le_refl _) _, by simp⟩
 ·exact (World.cell?_alloc_mark w _ _ (0, 0) _).trans rfl
 ·exact (World.cell?_alloc_mark w _ _ (0, 0) _).trans rfl
 ·exact (World.cell?_alloc_mark w _ _ (0, 0) _).trans rfl
def prevD (ds : List Ds) (k : Nat) : Option Ds := if k = 0 then none else ds[k - 1]?
set_option maxRecDepth 100000 in
set_option maxHeartbeats 8000000 in
theorem opens_any (v : Value) (s : St) (w : World) (h : StAt none w v s) :
  Calls Tryz.prog 36 #[v] w fun e w' => e = .returned (.bool (opensV s)) ∧ Below w.heap.size w w' := by
 obtain ⟨⟨A, n, c, B, m, d, D, k, e, rfl, hI, hD, hM, h5, h6, h7⟩, hz⟩ := h
 obtain ⟨R, hR⟩ : ∃ R, opensV s = R := ⟨_, rfl⟩
 rw [hR]
 unfold opensV at hR
 have hbig := hz.big
 have hn := hD.1
 have hn1 := hI.1
 have hkm := hM.1
 have hm2 : m ≤ 1099511627776 := by omega
 have hn2 : n ≤ 1099511627776 := by omega
 have hk2 : k ≤ 1099511627776 := by omega
 rw [hkm] at hR
 obtain ⟨W, hW, b0, b1, b2, hal, hlt0⟩ := box_st w A n c B m d D k e
 have HS := Lib.hid ((StAt.of_parts hI hD hM h5 h6 h7 hz).below hal)
 have HI := Lib.hid (hI.below hal)
 have HD := Lib.hid (hD.below hal)
 have HAL := Lib.hid hal
 have HR := Lib.hid hR
 clear hI hD hM hz hR hal hbig hn hn1 hkm
 go_enter Tryz.func36, Tryz.ntmps36
 go_wp2_with fail
 clear hW
 go_loopw [3, 4, 5, 6] (fun i _ _ _ wr => ∃ q : Nat, i = .int .i64 q ∧ q ≤ m ∧ Below W.heap.size W wr ∧ opensG s.inos k (s.opn.drop q) (prevD s.opn q) = R) (fun i _ _ _ _ => m - (intOf i).toNat)
 case atStart => exact ⟨0, rfl, by omega, Below.refl _ _, HR.out⟩
 case round =>
  obtain ⟨q, rfl, hq, hbel, hc⟩ := hrel
  have z0 := (hbel.cell (p := ⟨w.heap.size, 0, .none⟩) hlt0).trans b0
  have z1 := (hbel.cell (p := ⟨w.heap.size, 1, .none⟩) hlt0).trans b1
  have z2 := (hbel.cell (p := ⟨w.heap.size, 2, .none⟩) hlt0).trans b2
  have HB := Lib.hid hbel
  have HDr := Lib.hid (HD.out.below hbel)
  clear hbel b0 b1 b2
  by_cases hlt : q < m
  ·obtain ⟨g, off, y, rfl, hg, hy, hd, hmem, e0, e1, e2⟩ := HDr.out.get q hlt
   rw [hd, opensG] at hc
   have k0 : (0 : Int) ≤ (q : Int) := by omega
   have k1 : (q : Int) < (m : Int) := by omega
   obtain ⟨BD, hBD⟩ : ∃ BD, dsBad s.inos k y = BD := ⟨_, rfl⟩
   obtain ⟨PD, hPD⟩ : ∃ PD, dsPrev (prevD s.opn q) y = PD := ⟨_, rfl⟩
   rw [hBD, hPD] at hc
   have HBD := Lib.hid hBD
   have HPD := Lib.hid hPD
   have HC := Lib.hid hc
   have HY := Lib.hid hy
   clear hc hd hmem hy hBD hPD
   obtain ⟨V2, hV2, v0, v1, v2, hal4, hlt4⟩ := box_ds wr y.core y.fd y.num
   have hbv := Cv.next HB.out hal4
   have HSV := Lib.hid (HS.out.below hbv)
   have HIV := Lib.hid (HI.out.below hbv)
   have HDV := Lib.hid (HD.out.below hbv)
   have x0 := (hal4.cell (p := ⟨w.heap.size, 0, .none⟩) (Nat.lt_of_lt_of_le hlt0 HB.out.size)).trans z0
   have x1 := (hal4.cell (p := ⟨w.heap.size, 1, .none⟩) (Nat.lt_of_lt_of_le hlt0 HB.out.size)).trans z1
   have x2 := (hal4.cell (p := ⟨w.heap.size, 2, .none⟩) (Nat.lt_of_lt_of_le hlt0 HB.out.size)).trans z2
   have HBV := Lib.hid hbv
   clear hal4 hbv
   go_wp2_with fail
   refine (at_any _ s y.num _ HSV.out).mono ?_
   rintro e5 w5 ⟨rfl, hb5⟩
   have p0 := (hb5.cell (p := ⟨w.heap.size, 0, .none⟩) (Nat.lt_of_lt_of_le hlt0 HBV.out.size)).trans x0
   have p1 := (hb5.cell (p := ⟨w.heap.size, 1, .none⟩) (Nat.lt_of_lt_of_le hlt0 HBV.out.size)).trans x1
   have p2 := (hb5.cell (p := ⟨w.heap.size, 2, .none⟩) (Nat.lt_of_lt_of_le hlt0 HBV.out.size)).trans x2
   have d0 := (hb5.cell (p := ⟨wr.heap.size, 0, .none⟩) hlt4).trans v0
   have d1 := (hb5.cell (p := ⟨wr.heap.size, 1, .none⟩) hlt4).trans v1
   have d2 := (hb5.cell (p := ⟨wr.heap.size, 2, .none⟩) hlt4).trans v2
   have HI5 := Lib.hid (HIV.out.below hb5)
   have HD5 := Lib.hid (HDV.out.below hb5)
   have HB5 := Lib.hid (Cv.next HBV.out hb5)
   have hl5 : wr.heap.size < w5.heap.size := Nat.lt_of_lt_of_le hlt4 hb5.size
   clear hb5 x0 x1 x2 v0 v1 v2 z0 z1 z2 e0 e1 e2 hV2
   obtain ⟨T, hT⟩ : ∃ T, atV s.inos y.num = T := ⟨_, rfl⟩
   rw [hT]
   have HT := Lib.hid hT
   clear hT
   go_upto_region 6 with fail
   go_cut [55] (fun c wx => c = .bool BD ∧ w5 = wx)
   case first =>
    by_cases c1 : y.core < 0
    ·go_wp2_with fail
     go_meet
     exact ⟨congrArg Value.bool (by rw [← HBD.out]; unfold dsBad; simp [c1]), rfl⟩
    by_cases c2 : (k : Int) ≤ y.core
    ·go_wp2_with fail
     go_meet
     exact ⟨congrArg Value.bool (by rw [← HBD.out]; unfold dsBad; simp [c2]), rfl⟩
    by_cases c3 : y.fd < 0
    ·go_wp2_with fail
     go_meet
     exact ⟨congrArg Value.bool (by rw [← HBD.out]; unfold dsBad; simp [c3]), rfl⟩
    by_cases c4 : 4 ≤ y.fd
    ·go_wp2_with fail
     go_meet
     exact ⟨congrArg Value.bool (by rw [← HBD.out]; unfold dsBad; simp [c4]), rfl⟩
    rcases atV_cases s.inos y.num with ⟨hat, _⟩ | ⟨i, x, hat, hx, _, _⟩
    ·have ht : T = -1 := by rw [← HT.out]; exact hat
     subst ht
     go_wp2_with fail
     go_meet
     exact ⟨congrArg Value.bool (by rw [← HBD.out]; unfold dsBad; rw [hat]; simp [inoAt]), rfl⟩
    ·have ht : T = (i : Int) := by rw [← HT.out]; exact hat
     subst ht
     have hin : i < n := by have := (List.getElem?_eq_some_iff.1 hx).1; have := HI5.out.1; omega
     obtain ⟨g2, off2, x', E, m3, d3, rfl, hg2, hx', _, _, _, i1, _, _, _, _⟩ := HI5.out.get i hin
     have ex : x = x' := by rw [hx] at hx'; exact Option.some.inj hx'
     subst ex
     have q0 : decide ((i : Int) < 0) = false := by simp
     have i0 : (0 : Int) ≤ (i : Int) := by omega
     have i9 : (i : Int) < (n : Int) := by omega
     have HX := Lib.hid hx
     have HA2 := Lib.hid hat
     clear hx hx' hat
     go_wp2_with fail
     go_meet
     exact ⟨congrArg Value.bool (by rw [← HBD.out]; unfold dsBad; rw [HA2.out, inoAt_nat, HX.out]; simp; intro hh; exfalso; omega), rfl⟩
   case rest =>
    obtain ⟨rfl, rfl⟩ := hcut
    cases BD
    rotate_left
    ·have hr := HC.out
     rw [if_pos rfl] at hr
     have HR2 := Lib.hid hr
     clear hr
     go_wp2_with fail
     go_ret
     exact ⟨Cv.ret_bool HR2.out, Cv.next HAL.out HB5.out⟩
    ·have hr := HC.out
     rw [if_neg (by simp)] at hr
     have HR2 := Lib.hid hr
     clear hr
     by_cases hq0 : q = 0
     ·have hP : PD = false := by rw [← HPD.out, prevD, if_pos hq0]; rfl
      subst hP
      have q1 : decide ((0 : Int) < (q : Int)) = false := by simp; omega
      have hr := HR2.out
      rw [if_neg (by simp)] at hr
      have HR3 := Lib.hid hr
      clear hr
      go_wp2_with fail
      go_roundw
      case rel => exact ⟨q + 1, by go_num, by omega, HB5.out, by
       have e : prevD s.opn (q + 1) = some y := by unfold prevD; rw [if_neg (by omega), Nat.add_sub_cancel]; exact HY.out
       rw [e]
       exact HR3.out⟩
      case measure => simp [intOf]; omega
     ·obtain ⟨j, rfl⟩ : ∃ j, q = j + 1 := ⟨q - 1, by omega⟩
      obtain ⟨g3, off3, o, hA3, hg3, hy3, _, _, f0, f1, f2⟩ := HD5.out.get j (by omega)
      injection hA3 with hA3
      injection hA3 with hA1 hA2
      subst hA1 hA2
      have q1 : decide ((0 : Int) < ((j + 1 : Nat) : Int)) = true := by rw [decide_eq_true_eq]; omega
      have q1b : decide ((0 : Int) < (j : Int) + 1) = true := by rw [decide_eq_true_eq]; omega
      have j0 : (0 : Int) ≤ (j : Int) := by omega
      have j1 : (j : Int) < (m : Int) := by omega
      have jw : IntKind.i64.wrap ((j : Int) + 1 - 1) = (j : Int) := by rw [IntKind.wrap_i64]; omega
      have hP : PD = dsPrev (some o) y := by rw [← HPD.out, prevD, if_neg (by omega), Nat.add_sub_cancel, hy3]
      have HP := Lib.hid hP
      obtain ⟨V3, hV3, o0, o1, o2, hal6, hlt6⟩ := box_ds w5 o.core o.fd o.num
      have r0 := (hal6.cell (p := ⟨wr.heap.size, 0, .none⟩) hl5).trans d0
      have r1 := (hal6.cell (p := ⟨wr.heap.size, 1, .none⟩) hl5).trans d1
      have HB6 := Lib.hid (Cv.next HB5.out hal6)
      clear hal6 hP hy3 hq0
      go_upto_region 10 with fail
      clear hV3 d0 d1 d2 p0 p1 p2 f0 f1 f2 hg3
      go_cut [82] (fun c wx => c = .bool PD ∧ V3 = wx)
      case first =>
       by_cases c1 : y.core < o.core
       ·go_wp2_with fail
        go_meet
        exact ⟨congrArg Value.bool (by rw [HP.out]; unfold dsPrev; simp [c1]), rfl⟩
       by_cases c2 : o.core = y.core
       ·have qc : (o.core == y.core) = true := by rw [c2]; exact beq_self_eq_true _
        have HC2 := Lib.hid c2
        have q9 : decide (y.core < o.core) = false := by simp; omega
        clear c2
        go_wp2_with fail
        go_meet
        exact ⟨congrArg Value.bool (by rw [HP.out]; unfold dsPrev; simp [HC2.out]), rfl⟩
       ·have qc : (o.core == y.core) = false := by rw [beq_eq_false_iff_ne]; exact c2
        go_wp2_with fail
        go_meet
        exact ⟨congrArg Value.bool (by rw [HP.out]; unfold dsPrev; simp [c1, c2]), rfl⟩
      case rest =>
       obtain ⟨rfl, rfl⟩ := hcut
       cases PD
       rotate_left
       ·have hr := HR2.out
        rw [if_pos rfl] at hr
        have HR3 := Lib.hid hr
        clear hr
        go_wp2_with fail
        go_ret
        exact ⟨Cv.ret_bool HR3.out, Cv.next HAL.out HB6.out⟩
       ·have hr := HR2.out
        rw [if_neg (by simp)] at hr
        have HR3 := Lib.hid hr
        clear hr
        go_wp2_with fail
        go_roundw
        case rel => exact ⟨j + 1 + 1, by go_num, by omega, HB6.out, by
         have e : prevD s.opn (j + 1 + 1) = some y := by unfold prevD; rw [if_neg (by omega), Nat.add_sub_cancel]; exact HY.out
         rw [e]
         exact HR3.out⟩
        case measure => simp [intOf]; omega
  ·have : s.opn.drop q = [] := List.drop_eq_nil_of_le (by have := HDr.out.1; omega)
   rw [this, opensG] at hc
   have HC := Lib.hid hc
   clear hc this
   go_wp2_with fail
   go_ret
   exact ⟨Cv.ret_bool HC.out, Cv.next HAL.out HB.out⟩
def NmsAt (lo : Option Nat) (w : World) (A : Option Addr) (n : Nat) (ns : List ByteArray) : Prop :=
 ns.length = n ∧ (0 < n → ∃ g off, A = some ⟨g, off, none⟩ ∧ g < w.heap.size ∧ Mine lo 9 w g ∧ ∀ j x, ns[j]? = some x → w.cell? ⟨g, off + j, none⟩ = some (.string x))
theorem NmsAt.below {lo : Option Nat} {w w' : World} {A : Option Addr} {n : Nat} {ns : List ByteArray} (h : NmsAt lo w A n ns) (hb : Below w.heap.size w w') : NmsAt lo w' A n ns :=
 ⟨h.1, fun hn => by
  obtain ⟨g, off, hA, hg, hm, hc⟩ := h.2 hn
  exact ⟨g, off, hA, Nat.lt_of_lt_of_le hg hb.size, hm.below hb, fun j x hx => (hb.cell (p := ⟨g, _, none⟩) hg).trans (hc j x hx)⟩⟩
theorem NmsAt.weak {lo : Option Nat} {w : World} {A : Option Addr} {n : Nat} {ns : List ByteArray} (h : NmsAt lo w A n ns) : NmsAt none w A n ns :=
 ⟨h.1, fun hn => by
  obtain ⟨g, off, hA, hg, hm, hc⟩ := h.2 hn
  exact ⟨g, off, hA, hg, Mine.any _ _ _, hc⟩⟩
theorem NmsAt.keep {B : Nat} {w w' : World} {A : Option Addr} {n : Nat} {ns : List ByteArray} (h : NmsAt (some B) w A n ns) (hk : KeepT 9 w w') : NmsAt (some B) w' A n ns :=
 ⟨h.1, fun hn => by
  obtain ⟨g, off, hA, hg, hm, hc⟩ := h.2 hn
  obtain ⟨m1, m2⟩ := hk.mine hm
  exact ⟨g, off, hA, Nat.lt_of_lt_of_le hg hk.size, m1, fun j x hx => (cell_same m2 _).trans (hc j x hx)⟩⟩
theorem NmsAt.lower {B B' : Nat} {w : World} {A : Option Addr} {n : Nat} {ns : List ByteArray} (h : NmsAt (some B) w A n ns) (hb : B' ≤ B) : NmsAt (some B') w A n ns :=
 ⟨h.1, fun hn => by
  obtain ⟨g, off, hA, hg, hm, hc⟩ := h.2 hn
  exact ⟨g, off, hA, hg, hm.mono hb, hc⟩⟩
theorem NmsAt.of_row {B : Nat} {w : World} {v : Value} {n : Nat} {ns : List ByteArray} (h : w.ownsRow B 9 1 v n (ns.map Value.string)) : ∃ A c, v = .slice A n c ∧ SlOk A n c ∧ NmsAt (some B) w A n ns := by
 obtain ⟨A, c, h1, h2, h3, h4⟩ := row_any h (by decide)
 have hl : ns.length = n := by have := h.1; simpa using this
 refine ⟨A, c, h1, ⟨h2, fun e => (h3 e).2⟩, hl, fun hn => ?_⟩
 obtain ⟨g, hA, hg, hm, hc⟩ := h4 hn
 refine ⟨g, 0, hA, hg, hm, fun j x hx => ?_⟩
 have hj := (List.getElem?_eq_some_iff.1 hx).1
 rw [Nat.zero_add, hc j (by omega), List.getElem?_map, hx]
 rfl
def ResIs (lo : Option Nat) (w : World) (v : Value) (r : Re) : Prop :=
 ∃ A n c, v = .agg #[.int .i64 r.code, .int .i64 r.fd, .int .i64 r.num, .bool r.dir, .string r.data, .slice A n c] ∧ SlOk A n c ∧ NmsAt lo w A n r.names
theorem ResIs.below {lo : Option Nat} {w w' : World} {v : Value} {r : Re} (h : ResIs lo w v r) (hb : Below w.heap.size w w') : ResIs lo w' v r := by
 obtain ⟨A, n, c, h1, h2, h3⟩ := h
 exact ⟨A, n, c, h1, h2, h3.below hb⟩
theorem ResIs.weak {lo : Option Nat} {w : World} {v : Value} {r : Re} (h : ResIs lo w v r) : ResIs none w v r := by
 obtain ⟨A, n, c, h1, h2, h3⟩ := h
 exact ⟨A, n, c, h1, h2, h3.weak⟩
structure Lk (a b d : Value) (s : St) (c : Ca) (w0 w : World) : Prop where
 box : OutAt w w0.heap.size a b d
 call : w.heap[w0.heap.size + 1]? = some (caRow c)
 res : ResAt w (w0.heap.size + 2) (.int .i64 0) (.int .i64 0) (.int .i64 0) (.bool false) (.string ⟨#[]⟩) (.slice none 0 0)
 st : StAt none w (.agg #[a, b, d]) s
 bel : Below w0.heap.size w0 w
 size : w0.heap.size + 3 ≤ w.heap.size
theorem Lk.below {a b d : Value} {s : St} {c : Ca} {w0 w w' : World} (h : Lk a b d s c w0 w) (hb : Below w.heap.size w w') : Lk a b d s c w0 w' :=
 ⟨(hb.block _ (by have := h.size; omega)).trans h.box, (hb.block _ (by have := h.size; omega)).trans h.call, (hb.block _ h.res.lt).trans h.res, h.st.below hb, h.bel.trans (hb.mono (by have := h.size; omega)), Nat.le_trans h.size hb.size⟩
theorem Lk.six {a b d : Value} {s : St} {c : Ca} {w0 w : World} (h : Lk a b d s c w0 w) (q r x y z t : Value) :
  ∃ w', (((((w.setCell ⟨w0.heap.size + 2, 0, none⟩ q).setCell ⟨w0.heap.size + 2, 1, none⟩ r).setCell ⟨w0.heap.size + 2, 2, none⟩ x).setCell ⟨w0.heap.size + 2, 3, none⟩ y).setCell ⟨w0.heap.size + 2, 4, none⟩ z).setCell ⟨w0.heap.size + 2, 5, none⟩ t = w' ∧
   ResAt w' (w0.heap.size + 2) q r x y z t ∧ Below w0.heap.size w0 w' ∧ ∀ ty, 44 ≠ ty → KeepT ty w w' := by
 obtain ⟨w', hw, hr, hk, hb, _, _⟩ := h.res.six q r x y z t
 exact ⟨w', hw, hr, hb w0.heap.size w0 (by omega) h.bel, hk⟩
theorem Lk.start {w : World} {s : St} {A : Option Addr} {n cp : Nat} {E : Option Addr} {m d : Nat} {D : Option Addr} {k e : Nat} (h : StAt none w (.agg #[.slice A n cp, .slice E m d, .slice D k e]) s) (c : Ca) :
  ∃ W W2 W3, w.alloc (.cells #[.slice A n cp, .slice E m d, .slice D k e] 26) = W ∧ W.alloc (.cells #[.int .i64 c.kind, .int .i64 c.core, .int .i64 c.fd, .int .i64 c.off, .int .i64 c.num, .string c.path, .string c.path2, .string c.data] 40) = W2 ∧
   W2.alloc (.cells #[.int .i64 0, .int .i64 0, .int .i64 0, .bool false, .string ⟨#[]⟩, .slice none 0 0] 44) = W3 ∧ W.heap.size = w.heap.size + 1 ∧ W2.heap.size = w.heap.size + 2 ∧ Lk (.slice A n cp) (.slice E m d) (.slice D k e) s c w W3 := by
 have h1 : Below w.heap.size w (w.alloc (.cells #[.slice A n cp, .slice E m d, .slice D k e] 26)) := (Below.refl _ _).alloc (Nat.le_refl _) _
 obtain ⟨W2, hW2, hbc, hal, hsz⟩ := box_ca (w.alloc (.cells #[.slice A n cp, .slice E m d, .slice D k e] 26)) c
 have hs1 : (w.alloc (.cells #[.slice A n cp, .slice E m d, .slice D k e] 26)).heap.size = w.heap.size + 1 := by simp
 have hal2 : Below W2.heap.size W2 (W2.alloc (.cells #[.int .i64 0, .int .i64 0, .int .i64 0, .bool false, .string ⟨#[]⟩, .slice none 0 0] 44)) := (Below.refl _ _).alloc (Nat.le_refl _) _
 have hb2 := Cv.next hal hal2
 rw [hs1] at hbc hsz
 refine ⟨_, W2, _, rfl, hW2, rfl, hs1, by omega, ?_, ?_, ?_, h.below (Cv.next h1 hb2), Cv.next h1 hb2, by simp; omega⟩
 ·exact (hb2.block _ (by omega)).trans (heap_alloc_new w _)
 ·exact (hal2.block _ (by omega)).trans hbc
 ·rw [show w.heap.size + 2 = W2.heap.size by omega]; exact heap_alloc_new W2 _
end Go.Proofs.YthhceopnnappgaaGreatDoor
