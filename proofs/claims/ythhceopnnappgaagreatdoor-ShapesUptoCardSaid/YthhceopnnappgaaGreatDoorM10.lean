/- Parts of the proof, side by side: FsFull, FsEqual, LaBuild. -/
import Derived.Test.YthhceopnnappgaaGreatDoorM08
import Derived.Test.YthhceopnnappgaaGreatDoorM09
import Derived.Handy
import Derived.Test.YthhceopnnappgaaGreatDoorM02
import Derived.Laws.StructEq
import Derived.Test.YthhceopnnappgaaGreatDoorM04
import Derived.Lib.Builder
import Derived.Lib.FrozenHead2
import Derived.Lib.UnsafeStr
import Derived.Shelf.RegionOpenPlain
set_option linter.unusedVariables false
set_option linter.unusedSimpArgs false
namespace Go.Proofs.YthhceopnnappgaaGreatDoor
open Go.RowKit
def resV (r : Re) : Value := .agg #[.int .i64 r.code, .int .i64 r.fd, .int .i64 r.num, .bool r.dir, .string r.data, .slice none 0 0]
theorem fullE_len : ∀ (es : List En) (name but : ByteArray), fullE es name but ≤ es.length
 | [], _, _ => Nat.le_refl _
 | e :: es, name, but => by
  unfold fullE
  have := fullE_len es name but
  rw [List.length_cons]
  split <;> omega
set_option maxRecDepth 100000 in
set_option maxHeartbeats 8000000 in
theorem full_any (v : Value) (s : St) (dir : Int) (name but : ByteArray) (w : World) (h : StAt none w v s) (hd : 0 ≤ atV s.inos dir) (hs : name.size ≤ 140737488355328) :
  Calls Tryz.prog 87 #[v, .int .i64 dir, .string name, .string but] w fun e w' => e = .returned (.bool (fullV s.inos dir name but)) ∧ Below w.heap.size w w' := by
 obtain ⟨i, x, hat, hx, hxn⟩ := atV_some hd
 obtain ⟨⟨A, n, c, B, m, d, D, k, e, rfl, hI, hD, hM, h5, h6, h7⟩, hz⟩ := h
 obtain ⟨R, hR⟩ : ∃ R, fullV s.inos dir name but = R := ⟨_, rfl⟩
 rw [hR]
 have hfv : decide (4 ≤ fullE x.ents name but) = R := by rw [← hR, fullV, hat, inoAt_nat, hx]
 have hbig := hz.big
 have hn := hI.1
 have hn2 : n ≤ 1099511627776 := by omega
 have hle := bulkE_le hx
 have htx := (hz.text x (List.mem_of_getElem? hx)).2
 have hin : i < n := by have := (List.getElem?_eq_some_iff.1 hx).1; omega
 obtain ⟨W, hW, b0, b1, b2, hal, hlt0⟩ := box_st w A n c B m d D k e
 obtain ⟨g, off, x', E, m2, d2, rfl, hg, hx', _, _, c0, c1, c2, hmd, hE, c3⟩ := (hI.below hal).get i hin
 have ex : x = x' := by rw [hx] at hx'; exact Option.some.inj hx'
 subst ex
 have hel := hE.1
 have hm2 : m2 ≤ 1099511627776 := by omega
 have hfl := fullE_len x.ents name but
 have HS := Lib.hid ((StAt.of_parts hI hD hM h5 h6 h7 hz).below hal)
 have HE := Lib.hid hE
 have HEL := Lib.hid hel
 have HAL := Lib.hid hal
 have HAT := Lib.hid hat
 have HFV := Lib.hid hfv
 have HTX := Lib.hid htx
 have i0 : (0 : Int) ≤ (i : Int) := by omega
 have i9 : (i : Int) < (n : Int) := by omega
 obtain ⟨FF, hFF⟩ : ∃ FF, fullE x.ents name but = FF := ⟨_, rfl⟩
 have hFF2 : FF ≤ 1099511627776 := by omega
 have HFF := Lib.hid hFF
 clear hI hD hM hz hbig hn hle htx hx hx' hat hxn hd hR hfv hal hE hel hfl hFF
 go_enter Tryz.func87, Tryz.ntmps87
 go_upto_region 2 with fail
 clear hW
 go_cut [10] (fun p wx => ∃ b, p = .pointer (some ⟨b, 0, .none⟩) ∧ wx.cell? ⟨b, 2, .none⟩ = some (.slice E m2 d2) ∧ Below W.heap.size W wx ∧ b < wx.heap.size)
 case first =>
  have nA : W.heap.size ≠ w.heap.size := by omega
  have nB : W.heap.size ≠ g := by omega
  go_region_held3 (fun w' => w'.cell? ⟨w.heap.size, 0, none⟩ = some (.slice (some ⟨g, off, none⟩) n c) ∧ w'.cell? ⟨w.heap.size, 1, none⟩ = some (.slice B m d) ∧ w'.cell? ⟨w.heap.size, 2, none⟩ = some (.slice D k e) ∧ w'.cell? ⟨g, off + i * 4, none⟩ = some (.int .i64 x.num) ∧ w'.cell? ⟨g, off + i * 4 + 1, none⟩ = some (.bool x.dir) ∧ w'.cell? ⟨g, off + i * 4 + 2, none⟩ = some (.slice E m2 d2) ∧ w'.cell? ⟨g, off + i * 4 + 3, none⟩ = some (.string x.data))
   (first | go_keep | (refine ⟨?_, ?_, ?_, ?_, ?_, ?_, ?_⟩ <;> first | go_keep | (rw [hb5.cell (by simp; omega)]; simp [*])) | (refine ⟨?_, ?_, ?_, ?_, ?_, ?_, ?_⟩ <;> (rw [World.cell?_alloc_lt _ _ _ (by have := hb5.size; simp at this ⊢; omega), hb5.cell (by simp; omega)]; simp [*])))
   ((go_at_call 57; refine (at_any _ s dir _ (HS.out.below (by first | exact Cv.drewN_below (Below.refl _ _) 1 | exact (Cv.drewN_below (Below.refl _ _) 1).alloc (by simp) _))).mono ?_; rintro e5 w5 ⟨rfl, hb5⟩; rw [HAT.out]; have nC : w5.heap.size ≠ w.heap.size := (by have := hb5.size; simp at this; omega); have nD : w5.heap.size ≠ g := (by have := hb5.size; simp at this; omega); try (have m0 : w5.cell? ⟨W.heap.size, 0, none⟩ = some (.int .i64 0) := (hb5.cell (by simp)).trans (by simp); have m1 : w5.cell? ⟨W.heap.size, 1, none⟩ = some (.bool false) := (hb5.cell (by simp)).trans (by simp); have m2' : w5.cell? ⟨W.heap.size, 2, none⟩ = some (.slice none 0 0) := (hb5.cell (by simp)).trans (by simp); have m3 : w5.cell? ⟨W.heap.size, 3, none⟩ = some (.string ⟨#[]⟩) := (hb5.cell (by simp)).trans (by simp); have mf : ∀ j, w5.frozen? ⟨W.heap.size, j, none⟩ = false := fun j => (hb5.frozen (by simp)).trans (frozen_of_row _ _ j _ _ (heap_alloc_new _ _)))))
  all_goals (
   go_wp2_with fail
   go_meet)
  ·have hb6 : Below W.heap.size W w5 := (Cv.drewN_below (Below.refl _ _) 1).trans (hb5.mono (Nat.le_refl _))
   exact ⟨w5.heap.size, rfl, (World.cell?_alloc_mark w5 _ _ (0, 0) _).trans rfl, hb6.alloc hb6.size _, by simp⟩
  ·have hb6 : Below W.heap.size W w5 := (Cv.drewN_below ((Below.refl _ _).alloc (Nat.le_refl _) _) 1).trans (hb5.mono (by simp))
   have hl6 : W.heap.size < w5.heap.size := Nat.lt_of_lt_of_le (by simp) hb5.size
   refine ⟨W.heap.size, rfl, (World.cell?_setCell_other _ _ _ _ (by simp)).trans (World.cell?_setCell_same' _ _ _ ?_), (((hb6.setCell (Nat.le_refl _) _).setCell (Nat.le_refl _) _).setCell (Nat.le_refl _) _).setCell (Nat.le_refl _) _, by simpa [World.setCell] using hl6⟩
   rw [World.cell?_setCell_other _ _ _ _ (by simp), World.cell?_setCell_other _ _ _ _ (by simp), m2']
   rfl
 case rest =>
  obtain ⟨b, rfl, z2, hbx, hbl⟩ := hcut
  have HBX := Lib.hid hbx
  have HEx := Lib.hid (HE.out.below hbx)
  clear hbx b0 b1 b2 c0 c1 c2 c3
  go_wp2_with fail
  go_loopw [9, 11] (fun many j wr => ∃ q a : Nat, j = .int .i64 q ∧ many = .int .i64 a ∧ q ≤ m2 ∧ Below wc.heap.size wc wr ∧ a + fullE (x.ents.drop q) name but = FF) (fun _ j _ => m2 - (intOf j).toNat)
  case atStart => exact ⟨0, 0, rfl, rfl, by omega, Below.refl _ _, by rw [List.drop_zero, Nat.zero_add]; exact HFF.out⟩
  case round =>
   obtain ⟨q, a, rfl, rfl, hq, hbel, hc⟩ := hrel
   have y2 := (hbel.cell (p := ⟨b, 2, .none⟩) hbl).trans z2
   have HB := Lib.hid hbel
   have HEr := Lib.hid (HEx.out.below hbel)
   clear hbel
   have ha : a ≤ 1099511627776 := by omega
   by_cases hlt : q < m2
   ·obtain ⟨g2, off2, y, rfl, hg2, hy, hdr, hmem, e0, e1⟩ := HEr.out.get q hlt
    have hys := HTX.out y hmem
    rw [hdr, fullE] at hc
    have k0 : (0 : Int) ≤ (q : Int) := by omega
    have k1 : (q : Int) < (m2 : Int) := by omega
    have HC := Lib.hid hc
    clear hdr hmem hy hc
    by_cases hb : y.name = but
    ·have qn : (y.name.toList == but.toList) = true := ba_list_eq hb
     have HB2 := Lib.hid hb
     clear hb
     go_wp2_with fail
     go_roundw
     case rel => exact ⟨q + 1, a, by go_num, rfl, by omega, HB.out, by have := HC.out; rw [if_neg (fun h => h.1 HB2.out)] at this; omega⟩
     case measure => simp [intOf]; omega
    ·have qn : (y.name.toList == but.toList) = false := ba_list_ne hb
     have HB2 := Lib.hid hb
     clear hb
     have hx1 : hashL y.name.data.toList % 8 < 8 := Nat.mod_lt _ (by omega)
     obtain ⟨B1, hB1⟩ : ∃ B1, hashL y.name.data.toList % 8 = B1 := ⟨_, rfl⟩
     obtain ⟨B2, hB2'⟩ : ∃ B2, hashL name.data.toList % 8 = B2 := ⟨_, rfl⟩
     have HB1 := Lib.hid hB1
     have HB3 := Lib.hid hB2'
     clear hB1 hB2' hx1
     go_wp2_with fail
     refine (refbucket_any y.name _ hys).mono ?_
     rintro e5 w5 ⟨rfl, rfl⟩
     rw [HB1.out]
     go_wp2_with fail
     refine (refbucket_any name _ hs).mono ?_
     rintro e6 w6 ⟨rfl, rfl⟩
     rw [HB3.out]
     by_cases hbb : B1 = B2
     ·have qb : ((B1 : Int) == (B2 : Int)) = true := by rw [hbb]; exact beq_self_eq_true _
      have HBB := Lib.hid hbb
      clear hbb
      go_wp2_with fail
      go_roundw
      case rel => exact ⟨q + 1, a + 1, by go_num, by go_num, by omega, HB.out, by have := HC.out; rw [if_pos ⟨HB2.out, by show hashL _ % 8 = hashL _ % 8; rw [HB1.out, HB3.out]; exact HBB.out⟩] at this; omega⟩
      case measure => simp [intOf]; omega
     ·have qb : ((B1 : Int) == (B2 : Int)) = false := by rw [beq_eq_false_iff_ne]; omega
      have HBB := Lib.hid hbb
      clear hbb
      go_wp2_with fail
      go_roundw
      case rel => exact ⟨q + 1, a, by go_num, rfl, by omega, HB.out, by have := HC.out; rw [if_neg (fun h => HBB.out (by rw [← HB1.out, ← HB3.out]; exact h.2))] at this; omega⟩
      case measure => simp [intOf]; omega
   ·have hnil : x.ents.drop q = [] := List.drop_eq_nil_of_le (by have := HEL.out; omega)
    rw [hnil, fullE] at hc
    have hr := HFV.out
    rw [HFF.out] at hr
    have HR := Lib.hid hr
    clear hr hnil
    go_wp2_with fail
    go_ret
    refine ⟨Cv.ret_bool ?_, Cv.next HAL.out (Cv.next HBX.out HB.out)⟩
    rw [← HR.out, Nat.add_zero] at *
    subst hc
    first | rfl | (rw [Bool.eq_iff_iff, decide_eq_true_eq, decide_eq_true_eq]; omega)
deriving instance DecidableEq for En
deriving instance DecidableEq for Ino
deriving instance DecidableEq for Ds
deriving instance DecidableEq for St
theorem box_two (w : World) (A : Option Addr) (n c : Nat) (B : Option Addr) (m d : Nat) (D : Option Addr) (k e : Nat) (A' : Option Addr) (n' c' : Nat) (B' : Option Addr) (m' d' : Nat) (D' : Option Addr) (k' e' : Nat) :
  ∃ W, (w.alloc (.cells #[.slice A n c, .slice B m d, .slice D k e] 26)).alloc (.cells #[.slice A' n' c', .slice B' m' d', .slice D' k' e'] 26) = W ∧
   W.cell? ⟨w.heap.size, 0, .none⟩ = some (.slice A n c) ∧ W.cell? ⟨w.heap.size, 1, .none⟩ = some (.slice B m d) ∧ W.cell? ⟨w.heap.size, 2, .none⟩ = some (.slice D k e) ∧
   W.cell? ⟨w.heap.size + 1, 0, .none⟩ = some (.slice A' n' c') ∧ W.cell? ⟨w.heap.size + 1, 1, .none⟩ = some (.slice B' m' d') ∧ W.cell? ⟨w.heap.size + 1, 2, .none⟩ = some (.slice D' k' e') ∧ Below w.heap.size w W ∧ W.heap.size = w.heap.size + 2 := by
 obtain ⟨W1, hW1, a0, a1, a2, hb1, hs1⟩ := box_st w A n c B m d D k e
 have hz1 : W1.heap.size = w.heap.size + 1 := by rw [← hW1]; simp
 obtain ⟨W2, hW2, b0, b1, b2, hb2, hs2⟩ := box_st W1 A' n' c' B' m' d' D' k' e'
 rw [hz1] at b0 b1 b2
 have hc : ∀ j, W2.cell? ⟨w.heap.size, j, .none⟩ = W1.cell? ⟨w.heap.size, j, .none⟩ := fun j => hb2.cell (p := ⟨w.heap.size, j, none⟩) (by show w.heap.size < W1.heap.size; omega)
 refine ⟨W2, by rw [hW1, hW2], (hc _).trans a0, (hc _).trans a1, (hc _).trans a2, b0, b1, b2, Cv.next hb1 hb2, by rw [← hW2]; simp [hz1]⟩
theorem two_ino (w : World) (a b c d a' b' c' d' : Value) :
  ∃ U, (w.alloc (.cells #[a, b, c, d] 52)).alloc (.cells #[a', b', c', d'] 52) = U ∧ Below w.heap.size w U ∧ Below w.heap.size w U.drew ∧
   (∀ j : Nat, U.cell? ⟨w.heap.size, j, none⟩ = #[a, b, c, d][j]?) ∧ (∀ j : Nat, U.cell? ⟨w.heap.size + 1, j, none⟩ = #[a', b', c', d'][j]?) ∧ U.heap.size = w.heap.size + 2 := by
 obtain ⟨V, hV⟩ : ∃ V, w.alloc (.cells #[a, b, c, d] 52) = V := ⟨_, rfl⟩
 have h1 : V.heap[w.heap.size]? = some (.cells #[a, b, c, d] 52 (0, 0)) := by rw [← hV]; exact heap_alloc_new w _
 have hs : V.heap.size = w.heap.size + 1 := by rw [← hV]; simp
 have hb : Below w.heap.size w V := by rw [← hV]; exact (Below.refl _ _).alloc (Nat.le_refl _) _
 have h2 := heap_alloc_new V (.cells #[a', b', c', d'] 52)
 have hb2 : Below w.heap.size w (V.alloc (.cells #[a', b', c', d'] 52)) := hb.alloc (by omega) _
 refine ⟨_, by rw [hV], hb2, hb2.drew, fun j => ?_, fun j => ?_, by simp [hs]⟩
 ·rw [cell_of_row _ w.heap.size j _ _ (0, 0) ((Below.heap_alloc V _ _ (by omega)).trans h1)]
 ·rw [hs] at h2
  rw [cell_of_row _ (w.heap.size + 1) j _ _ (0, 0) h2]
theorem neq_en (a b : ByteArray) (p q : Int) (w : World) : (binOp .neq 84 (.agg #[.string a, .int .i64 p]) (.agg #[.string b, .int .i64 q])).run Tryz.prog w = .ok (.bool (!((a.toList == b.toList) && (p == q)))) w := by
 have u3 := Tryz.underlying3
 have u4 := Tryz.underlying9
 have hS : Tryz.prog.underlying 84 = some (.struct (Tryz.prog.fieldsOf 84)) := by kernel_rfl
 have hp : Tryz.prog.stoodInHeld 84 = false := by kernel_rfl
 rw [run_neq_struct, show (10000 : Nat) = 9999 + 1 from rfl, run_equalIn_agg w 9999 84 _ _ hS hp]
 simp only [Program.fieldsOf, Tryz.underlying84]
 go_simp
 by_cases h1 : a.toList = b.toList <;> by_cases h2 : p = q <;> simp [h1, h2]
theorem neq_ds (a b c a' b' c' : Int) (w : World) : (binOp .neq 67 (.agg #[.int .i64 a, .int .i64 b, .int .i64 c]) (.agg #[.int .i64 a', .int .i64 b', .int .i64 c'])).run Tryz.prog w = .ok (.bool (!((a == a') && (b == b') && (c == c')))) w := by
 have u3 := Tryz.underlying3
 have hS : Tryz.prog.underlying 67 = some (.struct (Tryz.prog.fieldsOf 67)) := by kernel_rfl
 have hp : Tryz.prog.stoodInHeld 67 = false := by kernel_rfl
 rw [run_neq_struct, show (10000 : Nat) = 9999 + 1 from rfl, run_equalIn_agg w 9999 67 _ _ hS hp]
 simp only [Program.fieldsOf, Tryz.underlying67]
 go_simp
 by_cases h1 : a = a' <;> by_cases h2 : b = b' <;> by_cases h3 : c = c' <;> simp [h1, h2, h3]
theorem guard_en (x y : Operand) (a b : Array Value) (w : World) : (eqGuard .neq 84 x y (.agg a) (.agg b)).run Tryz.prog w = .ok () w := run_eqGuard_agg w _ _ _ _ _ _ (by kernel_rfl)
theorem guard_ds (x y : Operand) (a b : Array Value) (w : World) : (eqGuard .neq 67 x y (.agg a) (.agg b)).run Tryz.prog w = .ok () w := run_eqGuard_agg w _ _ _ _ _ _ (by kernel_rfl)
theorem neq_en_same (a : ByteArray) (p : Int) (w : World) : (binOp .neq 84 (.agg #[.string a, .int .i64 p]) (.agg #[.string a, .int .i64 p])).run Tryz.prog w = .ok (.bool false) w := by
 rw [neq_en]
 simp
theorem neq_ds_same (a b c : Int) (w : World) : (binOp .neq 67 (.agg #[.int .i64 a, .int .i64 b, .int .i64 c]) (.agg #[.int .i64 a, .int .i64 b, .int .i64 c])).run Tryz.prog w = .ok (.bool false) w := by
 rw [neq_ds]
 simp
theorem infoByte : (Tryz.prog.info? 5).map (fun i => (i.zero, i.size, i.bytes)) = some (some (.int .u8 0), 1, 1) := by kernel_rfl
theorem sizeBuilder : (Tryz.prog.info? 59).map (fun i => i.size) = some 2 := by kernel_rfl
structure Wr (B b : Nat) (w w' : World) : Prop where
 below : Below B w w'
 keep : ∀ k o, w.heap[k]? = some o → k ≠ b → (∀ cs fr, o ≠ .cells cs 5 fr) → w'.heap[k]? = some o
theorem Wr.refl (B b : Nat) (w : World) : Wr B b w w := ⟨Below.refl _ _, fun _ _ h _ _ => h⟩
theorem Wr.trans {B b : Nat} {w w' w'' : World} (h : Wr B b w w') (h' : Wr B b w' w'') : Wr B b w w'' := ⟨h.below.trans h'.below, fun k o h1 h2 h3 => h'.keep k o (h.keep k o h1 h2 h3) h2 h3⟩
theorem Wr.of_below {B b : Nat} {w w' : World} (h : Below w.heap.size w w') (hB : B ≤ w.heap.size) : Wr B b w w' := ⟨h.mono hB, fun k o h1 _ _ => (h.block k (Array.getElem?_eq_some_iff.1 h1).1).trans h1⟩
theorem Wr.drew {B b : Nat} {w : World} : Wr B b w w.drew := ⟨Below.drew (Below.refl _ _), fun _ _ h _ _ => h⟩
theorem Wr.set {B b : Nat} {w : World} (hB : B ≤ b) (o : Nat) (v : Value) : Wr B b w (w.setCell ⟨b, o, .none⟩ v) :=
 ⟨(Below.refl _ _).setCell (p := ⟨b, o, .none⟩) hB v, fun k x h1 h2 _ => (Below.heap_setCell w ⟨b, o, .none⟩ v k h2).trans h1⟩
theorem Wr.grown {B b n : Nat} {v : Value} {xs : List Value} {w w' : World} (hown : w.ownsRowF B 5 1 v n xs) (hg : w.grownBy w' v.ownBlock) (hBw : B ≤ w.heap.size) : Wr B b w w' := by
 refine ⟨(Below.refl _ _).grown hg hBw (fun k hk => (hown.lt k hk).1), fun k o h1 _ h3 => (hg.block k (Array.getElem?_eq_some_iff.1 h1).1 ?_).trans h1⟩
 intro e
 rcases hown.2 with ⟨rfl, _⟩ | ⟨g, cap, cur, fz, rfl, _, hh, _⟩
 ·cases e
 ·have : k = g := by simpa [Value.ownBlock] using e
  subst this
  rw [hh] at h1
  exact h3 cur fz (Option.some.inj h1).symm
theorem Wr.freeze {B b g : Nat} {cur : Array Value} {fz : Nat × Nat} {w : World} (hg : w.heap[g]? = some (.cells cur 5 fz)) (hB : B ≤ g) (n : Nat) : Wr B b w (w.freeze ⟨g, 0, .none⟩ n) := by
 refine ⟨Lib.below_freeze (Below.refl B w) (p := ⟨g, 0, none⟩) hB n, fun k o h1 _ h3 => ?_⟩
 have hk : k ≠ g := by
  intro e
  subst e
  rw [hg] at h1
  exact h3 cur fz (Option.some.inj h1).symm
 have h5 := Lib.below_freeze (B := k + 1) (Below.refl (k + 1) w) (p := ⟨g, 0, none⟩)
 unfold World.freeze
 split
 ·exact h1
 ·simp only [Array.getElem?_modify]
  rw [if_neg (fun e => hk e.symm)]
  exact h1
end Go.Proofs.YthhceopnnappgaaGreatDoor
