/- The document's Plain: two states are one, thing by thing. -/
import Derived.Test.YthhceopnnappgaaGreatDoorM02
import Derived.Test.YthhceopnnappgaaGreatDoorFsFull
import Derived.Laws.StructEq
set_option linter.unusedVariables false
set_option linter.unusedSimpArgs false
namespace Go.Proofs.YthhceopnnappgaaGreatDoor
open Go.RowKit
deriving instance DecidableEq for En
deriving instance DecidableEq for Ino
deriving instance DecidableEq for Ds
deriving instance DecidableEq for St
def plainV (s t : St) : Bool := decide (s = t)
theorem plainV_no {s t : St} (h : s ≠ t) : plainV s t = false := decide_eq_false_iff_not.2 h
theorem plainV_yes {s t : St} (h : s = t) : plainV s t = true := decide_eq_true h
theorem box_two (w : World) (A : Option Addr) (n c : Nat) (B : Option Addr) (m d : Nat) (D : Option Addr) (k e : Nat) (A' : Option Addr) (n' c' : Nat) (B' : Option Addr) (m' d' : Nat) (D' : Option Addr) (k' e' : Nat) :
  ∃ W, (w.alloc (.cells #[.slice A n c, .slice B m d, .slice D k e] 26)).alloc (.cells #[.slice A' n' c', .slice B' m' d', .slice D' k' e'] 26) = W ∧
   W.cell? ⟨w.heap.size, 0, .none⟩ = some (.slice A n c) ∧ W.cell? ⟨w.heap.size, 1, .none⟩ = some (.slice B m d) ∧ W.cell? ⟨w.heap.size, 2, .none⟩ = some (.slice D k e) ∧
   W.cell? ⟨w.heap.size + 1, 0, .none⟩ = some (.slice A' n' c') ∧ W.cell? ⟨w.heap.size + 1, 1, .none⟩ = some (.slice B' m' d') ∧ W.cell? ⟨w.heap.size + 1, 2, .none⟩ = some (.slice D' k' e') ∧ Below w.heap.size w W ∧ W.heap.size = w.heap.size + 2 := by
 obtain ⟨W1, hW1, a0, a1, a2, hb1, hs1⟩ := box_st w A n c B m d D k e
 have hz1 : W1.heap.size = w.heap.size + 1 := by rw [← hW1]; simp
 obtain ⟨W2, hW2, b0, b1, b2, hb2, hs2⟩ := box_st W1 A' n' c' B' m' d' D' k' e'
 rw [hz1] at b0 b1 b2
 have hc : ∀ j, W2.cell? ⟨w.heap.size, j, .none⟩ = W1.cell? ⟨w.heap.size, j, .none⟩ := fun j => hb2.cell (p := ⟨w.heap.size, j, none⟩) (by show w.heap.size < W1.heap.size; omega)
 refine ⟨W2, by rw [hW1, hW2], (hc _).trans a0, (hc _).trans a1, (hc _).trans a2, b0, b1, b2, Cv.next hb1 hb2, by rw [← hW2]; simp [hz1]⟩
theorem two_ino (w : World) (a b c d a' b' c' d' : Value) :
  ∃ U, (w.alloc (.cells #[a, b, c, d] 52)).alloc (.cells #[a', b', c', d'] 52) = U ∧ Below w.heap.size w U ∧ Below w.heap.size w U.drew ∧
   (∀ j : Nat, U.cell? ⟨w.heap.size, j, none⟩ = #[a, b, c, d][j]?) ∧ (∀ j : Nat, U.cell? ⟨w.heap.size + 1, j, none⟩ = #[a', b', c', d'][j]?) ∧ U.heap.size = w.heap.size + 2 := by
 obtain ⟨V, hV⟩ : ∃ V, w.alloc (.cells #[a, b, c, d] 52) = V := ⟨_, rfl⟩
 have h1 : V.heap[w.heap.size]? = some (.cells #[a, b, c, d] 52 (0, 0)) := by rw [← hV]; exact heap_alloc_new w _
 have hs : V.heap.size = w.heap.size + 1 := by rw [← hV]; simp
 have hb : Below w.heap.size w V := by rw [← hV]; exact (Below.refl _ _).alloc (Nat.le_refl _) _
 have h2 := heap_alloc_new V (.cells #[a', b', c', d'] 52)
 have hb2 : Below w.heap.size w (V.alloc (.cells #[a', b', c', d'] 52)) := hb.alloc (by omega) _
 refine ⟨_, by rw [hV], hb2, hb2.drew, fun j => ?_, fun j => ?_, by simp [hs]⟩
 ·rw [cell_of_row _ w.heap.size j _ _ (0, 0) ((Below.heap_alloc V _ _ (by omega)).trans h1)]
 ·rw [hs] at h2
  rw [cell_of_row _ (w.heap.size + 1) j _ _ (0, 0) h2]
theorem neq_en (a b : ByteArray) (p q : Int) (w : World) : (binOp .neq 84 (.agg #[.string a, .int .i64 p]) (.agg #[.string b, .int .i64 q])).run Tryz.prog w = .ok (.bool (!((a.toList == b.toList) && (p == q)))) w := by
 have u3 := Tryz.underlying3
 have u4 := Tryz.underlying9
 have hS : Tryz.prog.underlying 84 = some (.struct (Tryz.prog.fieldsOf 84)) := by kernel_rfl
 have hp : Tryz.prog.stoodInHeld 84 = false := by kernel_rfl
 rw [run_neq_struct, show (10000 : Nat) = 9999 + 1 from rfl, run_equalIn_agg w 9999 84 _ _ hS hp]
 simp only [Program.fieldsOf, Tryz.underlying84]
 go_simp
 by_cases h1 : a.toList = b.toList <;> by_cases h2 : p = q <;> simp [h1, h2]
theorem neq_ds (a b c a' b' c' : Int) (w : World) : (binOp .neq 67 (.agg #[.int .i64 a, .int .i64 b, .int .i64 c]) (.agg #[.int .i64 a', .int .i64 b', .int .i64 c'])).run Tryz.prog w = .ok (.bool (!((a == a') && (b == b') && (c == c')))) w := by
 have u3 := Tryz.underlying3
 have hS : Tryz.prog.underlying 67 = some (.struct (Tryz.prog.fieldsOf 67)) := by kernel_rfl
 have hp : Tryz.prog.stoodInHeld 67 = false := by kernel_rfl
 rw [run_neq_struct, show (10000 : Nat) = 9999 + 1 from rfl, run_equalIn_agg w 9999 67 _ _ hS hp]
 simp only [Program.fieldsOf, Tryz.underlying67]
 go_simp
 by_cases h1 : a = a' <;> by_cases h2 : b = b' <;> by_cases h3 : c = c' <;> simp [h1, h2, h3]
theorem guard_en (x y : Operand) (a b : Array Value) (w : World) : (eqGuard .neq 84 x y (.agg a) (.agg b)).run Tryz.prog w = .ok () w := run_eqGuard_agg w _ _ _ _ _ _ (by kernel_rfl)
theorem guard_ds (x y : Operand) (a b : Array Value) (w : World) : (eqGuard .neq 67 x y (.agg a) (.agg b)).run Tryz.prog w = .ok () w := run_eqGuard_agg w _ _ _ _ _ _ (by kernel_rfl)
theorem neq_en_same (a : ByteArray) (p : Int) (w : World) : (binOp .neq 84 (.agg #[.string a, .int .i64 p]) (.agg #[.string a, .int .i64 p])).run Tryz.prog w = .ok (.bool false) w := by
 rw [neq_en]
 simp
theorem neq_en_diff {y y' : En} (h : y ≠ y') (w : World) : (binOp .neq 84 (.agg #[.string y.name, .int .i64 y.num]) (.agg #[.string y'.name, .int .i64 y'.num])).run Tryz.prog w = .ok (.bool true) w := by
 rw [neq_en]
 by_cases h1 : y.name = y'.name
 ·have h2 : (y.num == y'.num) = false := by
   rw [beq_eq_false_iff_ne]
   intro h2
   exact h (by cases y; cases y'; simp_all)
  rw [h2]
  simp
 ·rw [ba_list_ne h1]
  simp
theorem neq_ds_same (a b c : Int) (w : World) : (binOp .neq 67 (.agg #[.int .i64 a, .int .i64 b, .int .i64 c]) (.agg #[.int .i64 a, .int .i64 b, .int .i64 c])).run Tryz.prog w = .ok (.bool false) w := by
 rw [neq_ds]
 simp
theorem neq_ds_diff {y y' : Ds} (h : y ≠ y') (w : World) : (binOp .neq 67 (.agg #[.int .i64 y.core, .int .i64 y.fd, .int .i64 y.num]) (.agg #[.int .i64 y'.core, .int .i64 y'.fd, .int .i64 y'.num])).run Tryz.prog w = .ok (.bool true) w := by
 rw [neq_ds]
 have h1 : ((y.core == y'.core) && (y.fd == y'.fd) && (y.num == y'.num)) = false := by
  cases y; cases y'
  simp_all
 rw [h1]
 rfl
set_option maxRecDepth 100000 in
set_option maxHeartbeats 4000000 in
theorem plain_any (v u : Value) (s t : St) (w : World) (h : StAt none w v s) (h' : StAt none w u t) :
  Calls Tryz.prog 17 #[v, u] w fun e w' => e = .returned (.bool (plainV s t)) ∧ Below w.heap.size w w' := by
 obtain ⟨⟨A, n, c, B, m, d, D, k, e, rfl, hI, hD, hM, h5, h6, h7⟩, hz⟩ := h
 obtain ⟨⟨A', n', c', B', m', d', D', k', e', rfl, hI', hD', hM', h5', h6', h7'⟩, hz'⟩ := h'
 obtain ⟨R, hR⟩ : ∃ R, plainV s t = R := ⟨_, rfl⟩
 rw [hR]
 have HR := Lib.hid hR
 have hbig := hz.big
 have hbig' := hz'.big
 have l1 := hI.1
 have l2 := hD.1
 have l3 := hM.1
 have l1' := hI'.1
 have l2' := hD'.1
 have l3' := hM'.1
 have hn2 : n ≤ 1099511627776 := by omega
 have hm2 : m ≤ 1099511627776 := by omega
 have hk2 : k ≤ 1099511627776 := by omega
 obtain ⟨W, hW, a0, a1, a2, b0, b1, b2, hal, hsW⟩ := box_two w A n c B m d D k e A' n' c' B' m' d' D' k' e'
 have HI := Lib.hid (hI.below hal)
 have HD := Lib.hid (hD.below hal)
 have HM := Lib.hid (hM.below hal)
 have HI' := Lib.hid (hI'.below hal)
 have HD' := Lib.hid (hD'.below hal)
 have HM' := Lib.hid (hM'.below hal)
 have HAL := Lib.hid hal
 have HZ := Lib.hid hz
 by_cases e1 : n = n'
 ·by_cases e2 : m = m'
  ·by_cases e3 : k = k'
   ·subst e1 e2 e3
    clear hI hD hM hI' hD' hM' hz hz' hR hbig hbig' l1 l2 l3 l1' l2' l3' hal
    go_enter Tryz.func17, Tryz.ntmps17
    go_wp2_with fail
    clear hW
    go_loopw [5] (fun i wr => ∃ q : Nat, i = .int .i64 q ∧ q ≤ n ∧ Below w.heap.size w wr ∧ Below W.heap.size W wr ∧ s.inos.take q = t.inos.take q) (fun i _ => n - (intOf i).toNat)
    case atStart => exact ⟨0, rfl, by omega, HAL.out, Below.refl _ _, rfl⟩
    case round =>
     obtain ⟨q, rfl, hq, hbr, hbW, htk⟩ := hrel
     have HBR := Lib.hid hbr
     have HBW := Lib.hid hbW
     have HTK := Lib.hid htk
     have a0' := (hbW.cell (p := ⟨w.heap.size, 0, none⟩) (by show w.heap.size < W.heap.size; omega)).trans a0
     have b0' := (hbW.cell (p := ⟨w.heap.size + 1, 0, none⟩) (by show w.heap.size + 1 < W.heap.size; omega)).trans b0
     clear hbr hbW htk
     by_cases hlt : q < n
     ·obtain ⟨g, off, x, E, m2, d2, hA, hg, hx, hd, hmem, c0, c1, c2, hok, hE, c3⟩ := (HI.out.below HBW.out).get q hlt
      obtain ⟨g', off', x', E', m2', d2', hA', hg', hx', hd', hmem', c0', c1', c2', hok', hE', c3'⟩ := (HI'.out.below HBW.out).get q hlt
      subst hA hA'
      have q1 : decide ((q : Int) < (n : Int)) = true := by rw [decide_eq_true_eq]; omega
      have q2 : (0 : Int) ≤ (q : Int) := by omega
      have q3 : (q : Int) < (n : Int) := by omega
      have hle := bulkE_le hx
      have hbig := HZ.out.big
      have hel := hE.1
      have hm22 : m2 ≤ 1099511627776 := by omega
      clear hle hbig hel
      have HX := Lib.hid hx
      have HX' := Lib.hid hx'
      have HE := Lib.hid hE
      have HE' := Lib.hid hE'
      clear hx hx' hd hd' hmem hmem' hE hE'
      go_upto_region 6 with fail
      have hwr : W.heap.size ≤ wr.heap.size := HBW.out.size
      go_cut [6, 7] (fun p1 p2 wx => ∃ b1 b2, p1 = .pointer (some ⟨b1, 0, .none⟩) ∧ p2 = .pointer (some ⟨b2, 0, .none⟩) ∧ Below wr.heap.size wr wx ∧
       wx.cell? ⟨b1, 0, none⟩ = some (.int .i64 x.num) ∧ wx.cell? ⟨b1, 1, none⟩ = some (.bool x.dir) ∧ wx.cell? ⟨b1, 2, none⟩ = some (.slice E m2 d2) ∧ wx.cell? ⟨b1, 3, none⟩ = some (.string x.data) ∧
       wx.cell? ⟨b2, 0, none⟩ = some (.int .i64 x'.num) ∧ wx.cell? ⟨b2, 1, none⟩ = some (.bool x'.dir) ∧ wx.cell? ⟨b2, 2, none⟩ = some (.slice E' m2' d2') ∧ wx.cell? ⟨b2, 3, none⟩ = some (.string x'.data) ∧ b1 < wx.heap.size ∧ b2 < wx.heap.size)
      case first =>
       have nA : wr.heap.size ≠ w.heap.size := by omega
       have nB : wr.heap.size ≠ w.heap.size + 1 := by omega
       have nC : wr.heap.size ≠ g := by omega
       have nD : wr.heap.size ≠ g' := by omega
       have mA : wr.heap.size + 1 ≠ w.heap.size := by omega
       have mB : wr.heap.size + 1 ≠ w.heap.size + 1 := by omega
       have mC : wr.heap.size + 1 ≠ g := by omega
       have mD : wr.heap.size + 1 ≠ g' := by omega
       go_region_held3 (fun w' => w'.cell? ⟨w.heap.size, 0, none⟩ = some (.slice (some ⟨g, off, none⟩) n c) ∧ w'.cell? ⟨w.heap.size + 1, 0, none⟩ = some (.slice (some ⟨g', off', none⟩) n c') ∧
        w'.cell? ⟨g, off + q * 4, none⟩ = some (.int .i64 x.num) ∧ w'.cell? ⟨g, off + q * 4 + 1, none⟩ = some (.bool x.dir) ∧ w'.cell? ⟨g, off + q * 4 + 2, none⟩ = some (.slice E m2 d2) ∧ w'.cell? ⟨g, off + q * 4 + 3, none⟩ = some (.string x.data) ∧
        w'.cell? ⟨g', off' + q * 4, none⟩ = some (.int .i64 x'.num) ∧ w'.cell? ⟨g', off' + q * 4 + 1, none⟩ = some (.bool x'.dir) ∧ w'.cell? ⟨g', off' + q * 4 + 2, none⟩ = some (.slice E' m2' d2') ∧ w'.cell? ⟨g', off' + q * 4 + 3, none⟩ = some (.string x'.data))
        (first | go_keep | trace_state)
        (fail)
       all_goals (
        go_wp2_with fail
        go_meet)
       ·obtain ⟨U, hU, hbU, hbD, f1, f2, hsU⟩ := two_ino wr (.int .i64 x.num) (.bool x.dir) (.slice E m2 d2) (.string x.data) (.int .i64 x'.num) (.bool x'.dir) (.slice E' m2' d2') (.string x'.data)
        rw [hU]
        exact ⟨_, _, rfl, rfl, hbD, f1 0, f1 1, f1 2, f1 3, f2 0, f2 1, f2 2, f2 3, by simp [hsU], by simp [hsU]⟩
       ·obtain ⟨U, hU, hbU, hbD, f1, f2, hsU⟩ := two_ino wr (.int .i64 x'.num) (.bool x'.dir) (.slice E' m2' d2') (.string x'.data) (.int .i64 x.num) (.bool x.dir) (.slice E m2 d2) (.string x.data)
        rw [hU]
        exact ⟨_, _, rfl, rfl, hbD, f2 0, f2 1, f2 2, f2 3, f1 0, f1 1, f1 2, f1 3, by simp [hsU], by simp [hsU]⟩
      case rest =>
       obtain ⟨b1, b2, rfl, rfl, hbx, z0, z1, z2, z3, y0, y1, y2, y3, hl1, hl2⟩ := hcut
       have HBX := Lib.hid hbx
       have HEw := Lib.hid (HE.out.below hbx)
       have HEw' := Lib.hid (HE'.out.below hbx)
       have hfin : Below w.heap.size w wc := HBR.out.trans (hbx.mono HBR.out.size)
       have HFIN := Lib.hid hfin
       have hno : x ≠ x' → R = false := fun hne => by
        rw [← HR.out]
        refine plainV_no (fun h9 => hne ?_)
        have e8 := HX.out
        rw [h9, HX'.out] at e8
        exact (Option.some.inj e8).symm
       have HNO := Lib.hid hno
       clear hbx hfin hno c0 c1 c2 c3 c0' c1' c2' c3'
       by_cases u1 : x.num = x'.num
       ·by_cases u2 : x.dir = x'.dir
        ·by_cases u3 : x.data = x'.data
         ·have k1 : (x.data.toList == x'.data.toList) = true := ba_list_eq u3
          rw [← u1] at y0
          rw [← u2] at y1
          by_cases u4 : m2 = m2'
          ·subst u4
           have HU : Hid (x.num = x'.num ∧ x.dir = x'.dir ∧ x.data = x'.data) := Lib.hid ⟨u1, u2, u3⟩
           clear u1 u2 u3
           go_wp2_with fail
           go_loopw [8] (fun k wr => ∃ p : Nat, k = .int .i64 p ∧ p ≤ m2 ∧ Below wc.heap.size wc wr ∧ x.ents.take p = x'.ents.take p) (fun k _ => m2 - (intOf k).toNat)
           case atStart => exact ⟨0, rfl, by omega, Below.refl _ _, rfl⟩
           case round =>
            obtain ⟨p, rfl, hp, hb2, htp⟩ := hrel
            have HB2 := Lib.hid hb2
            have HTP := Lib.hid htp
            have z2' := (hb2.cell (p := ⟨b1, 2, none⟩) hl1).trans z2
            have y2' := (hb2.cell (p := ⟨b2, 2, none⟩) hl2).trans y2
            clear hb2 htp
            by_cases hlp : p < m2
            ·obtain ⟨g2, o2, y, hA2, hg2, hy, hdy, hmy, f0, f1⟩ := (HEw.out.below HB2.out).get p hlp
             obtain ⟨g3, o3, y', hA3, hg3, hy', hdy', hmy', f0', f1'⟩ := (HEw'.out.below HB2.out).get p hlp
             subst hA2 hA3
             have r1 : decide ((p : Int) < (m2 : Int)) = true := by rw [decide_eq_true_eq]; omega
             have r2 : (0 : Int) ≤ (p : Int) := by omega
             have r3 : (p : Int) < (m2 : Int) := by omega
             have HY := Lib.hid hy
             have HY' := Lib.hid hy'
             clear hy hy' hdy hdy' hmy hmy'
             by_cases v1 : y = y'
             ·have hne := neq_en_same y.name y.num
              have hgu := guard_en
              subst v1
              go_wp2_with fail
              go_region
              go_wp2_with fail
              go_roundw
              case rel =>
               refine ⟨p + 1, by go_num, by omega, HB2.out.drew, ?_⟩
               rw [List.take_add_one, List.take_add_one, HTP.out, HY.out, HY'.out]
              case measure => simp [intOf]; omega
             ·have hne := neq_en_diff v1
              have hgu := guard_en
              have := HNO.out (fun h9 => v1 (by have e8 := HY.out; rw [h9, HY'.out] at e8; exact (Option.some.inj e8).symm))
              subst this
              clear v1
              go_wp2_with fail
              go_region
              go_wp2_with fail
              go_ret
              exact ⟨rfl, (HFIN.out.trans (HB2.out.mono HFIN.out.size)).drew⟩
            ·have r1 : decide ((p : Int) < (m2 : Int)) = false := by rw [decide_eq_false_iff_not]; omega
             have hpm : p = m2 := by omega
             subst hpm
             go_wp2_with fail
             go_roundw
             case rel =>
              refine ⟨q + 1, by go_num, by omega, HBR.out.trans (HBX.out.trans (HB2.out.mono HBX.out.size) |>.mono HBR.out.size), ?_, ?_⟩
              ·exact HBW.out.trans ((HBX.out.trans (HB2.out.mono HBX.out.size)).mono HBW.out.size)
              ·have e5 := HTP.out
               have e6 := HEw.out.1
               have e7 := HEw'.out.1
               rw [List.take_of_length_le (by omega), List.take_of_length_le (by omega)] at e5
               have e8 : x = x' := by
                cases x; cases x'
                obtain ⟨i1, i2, i3⟩ := HU.out
                simp_all
               rw [List.take_add_one, List.take_add_one, HTK.out, HX.out, HX'.out, e8]
             case measure => simp [intOf]; omega
          ·have := HNO.out (fun h9 => u4 (by have e5 := HEw.out.1; have e6 := HEw'.out.1; rw [h9] at e5; omega))
           subst this
           have k4 : ((m2 : Int) != (m2' : Int)) = true := by rw [bne_iff_ne]; omega
           clear u1 u2 u3
           go_wp2_with fail
           go_ret
           exact ⟨rfl, HFIN.out⟩
         ·have := HNO.out (fun h9 => u3 (by rw [h9]))
          subst this
          rw [← u1] at y0
          rw [← u2] at y1
          have k1 : (x.data.toList == x'.data.toList) = false := ba_list_ne u3
          have k2 : (x.data.toList != x'.data.toList) = true := by unfold bne; rw [k1]; rfl
          clear u1 u2 u3
          go_wp2_with fail
          go_ret
          exact ⟨rfl, HFIN.out⟩
        ·have := HNO.out (fun h9 => u2 (by rw [h9]))
         subst this
         rw [← u1] at y0
         have k1 : (x.dir == x'.dir) = false := by rw [beq_eq_false_iff_ne]; exact u2
         have k2 : (x.dir != x'.dir) = true := by unfold bne; rw [k1]; rfl
         clear u1 u2
         go_wp2_with fail
         go_ret
         exact ⟨rfl, HFIN.out⟩
       ·have := HNO.out (fun h9 => u1 (by rw [h9]))
        subst this
        have k1 : (x.num == x'.num) = false := by rw [beq_eq_false_iff_ne]; exact u1
        have k2 : (x.num != x'.num) = true := by unfold bne; rw [k1]; rfl
        clear u1
        go_wp2_with fail
        go_ret
        exact ⟨rfl, HFIN.out⟩
     ·have q1 : decide ((q : Int) < (n : Int)) = false := by rw [decide_eq_false_iff_not]; omega
      have hqn : q = n := by omega
      subst hqn
      have hle : R = true ∨ R = false := by cases R <;> simp
      have hin : s.inos = t.inos := by
       have e5 := HTK.out
       have e6 := HI.out.1
       have e7 := HI'.out.1
       rwa [List.take_of_length_le (by omega), List.take_of_length_le (by omega)] at e5
      have HIN := Lib.hid hin
      have a1' := (HBW.out.cell (p := ⟨w.heap.size, 1, none⟩) (by show w.heap.size < W.heap.size; omega)).trans a1
      have a2' := (HBW.out.cell (p := ⟨w.heap.size, 2, none⟩) (by show w.heap.size < W.heap.size; omega)).trans a2
      have b1' := (HBW.out.cell (p := ⟨w.heap.size + 1, 1, none⟩) (by show w.heap.size + 1 < W.heap.size; omega)).trans b1
      have b2' := (HBW.out.cell (p := ⟨w.heap.size + 1, 2, none⟩) (by show w.heap.size + 1 < W.heap.size; omega)).trans b2
      have ge1 : w.heap.size < wr.heap.size := by have := HBW.out.size; omega
      have ge2 : w.heap.size + 1 < wr.heap.size := by have := HBW.out.size; omega
      have HDw := Lib.hid (HD.out.below HBW.out)
      have HDw' := Lib.hid (HD'.out.below HBW.out)
      have HMw := Lib.hid (HM.out.below HBW.out)
      have HMw' := Lib.hid (HM'.out.below HBW.out)
      clear hin a1 a2 b1 b2 a0 b0 hle
      go_wp2_with fail
      clear a0' b0'
      go_loopw [9] (fun i wz => ∃ p : Nat, i = .int .i64 p ∧ p ≤ m ∧ Below wr.heap.size wr wz ∧ s.opn.take p = t.opn.take p) (fun i _ => m - (intOf i).toNat)
      case atStart => exact ⟨0, rfl, by omega, Below.refl _ _, rfl⟩
      case round =>
       obtain ⟨p, rfl, hp, hb2, htp⟩ := hrel
       have HB2 := Lib.hid hb2
       have HTP := Lib.hid htp
       have a1 := (hb2.cell (p := ⟨w.heap.size, 1, none⟩) ge1).trans a1'
       have b1 := (hb2.cell (p := ⟨w.heap.size + 1, 1, none⟩) ge2).trans b1'
       have a2 := (hb2.cell (p := ⟨w.heap.size, 2, none⟩) ge1).trans a2'
       have b2 := (hb2.cell (p := ⟨w.heap.size + 1, 2, none⟩) ge2).trans b2'
       have HFIN := Lib.hid (HBR.out.trans (hb2.mono HBR.out.size))
       clear hb2 htp
       by_cases hlp : p < m
       ·obtain ⟨g2, o2, y, hA2, hg2, hy, hdy, hmy, f0, f1, f2⟩ := (HDw.out.below HB2.out).get p hlp
        obtain ⟨g3, o3, y', hA3, hg3, hy', hdy', hmy', f0', f1', f2'⟩ := (HDw'.out.below HB2.out).get p hlp
        subst hA2 hA3
        have r1 : decide ((p : Int) < (m : Int)) = true := by rw [decide_eq_true_eq]; omega
        have r2 : (0 : Int) ≤ (p : Int) := by omega
        have r3 : (p : Int) < (m : Int) := by omega
        have HY := Lib.hid hy
        have HY' := Lib.hid hy'
        clear hy hy' hdy hdy' hmy hmy'
        by_cases v1 : y = y'
        ·have hne := neq_ds_same y.core y.fd y.num
         have hgu := guard_ds
         subst v1
         go_wp2_with fail
         go_region
         go_wp2_with fail
         go_roundw
         case rel =>
          refine ⟨p + 1, by go_num, by omega, HB2.out.drew, ?_⟩
          rw [List.take_add_one, List.take_add_one, HTP.out, HY.out, HY'.out]
         case measure => simp [intOf]; omega
        ·have hne := neq_ds_diff v1
         have hgu := guard_ds
         have hst : R = false := by
          rw [← HR.out]
          refine plainV_no (fun h9 => v1 ?_)
          have e8 := HY.out
          rw [h9, HY'.out] at e8
          exact (Option.some.inj e8).symm
         subst hst
         clear v1
         go_wp2_with fail
         go_region
         go_wp2_with fail
         go_ret
         exact ⟨rfl, HFIN.out.drew⟩
       ·have r1 : decide ((p : Int) < (m : Int)) = false := by rw [decide_eq_false_iff_not]; omega
        have hpm : p = m := by omega
        subst hpm
        have hop : s.opn = t.opn := by
         have e5 := HTP.out
         have e6 := HD.out.1
         have e7 := HD'.out.1
         rwa [List.take_of_length_le (by omega), List.take_of_length_le (by omega)] at e5
        have HOP := Lib.hid hop
        have gf1 : w.heap.size < wr.heap.size := Nat.lt_of_lt_of_le ge1 HB2.out.size
        have gf2 : w.heap.size + 1 < wr.heap.size := Nat.lt_of_lt_of_le ge2 HB2.out.size
        have HMz := Lib.hid (HMw.out.below HB2.out)
        have HMz' := Lib.hid (HMw'.out.below HB2.out)
        clear hop a1' b1' a2' b2'
        go_wp2_with fail
        clear a1 b1
        go_loopw [10] (fun i wy => ∃ o : Nat, i = .int .i64 o ∧ o ≤ k ∧ Below wr.heap.size wr wy ∧ s.made.take o = t.made.take o) (fun i _ => k - (intOf i).toNat)
        case atStart => exact ⟨0, rfl, by omega, Below.refl _ _, rfl⟩
        case round =>
         obtain ⟨o, rfl, ho, hb3, hto⟩ := hrel
         have HB3 := Lib.hid hb3
         have HTO := Lib.hid hto
         have a2z := (hb3.cell (p := ⟨w.heap.size, 2, none⟩) gf1).trans a2
         have b2z := (hb3.cell (p := ⟨w.heap.size + 1, 2, none⟩) gf2).trans b2
         have HFIN3 := Lib.hid (HFIN.out.trans (hb3.mono HFIN.out.size))
         clear hb3 hto
         by_cases hlo : o < k
         ·obtain ⟨g2, o2, y, hA2, hg2, hy, hdy, hmy, f0⟩ := (HMz.out.below HB3.out).get o hlo
          obtain ⟨g3, o3, y', hA3, hg3, hy', hdy', hmy', f0'⟩ := (HMz'.out.below HB3.out).get o hlo
          subst hA2 hA3
          have r1 : decide ((o : Int) < (k : Int)) = true := by rw [decide_eq_true_eq]; omega
          have r2 : (0 : Int) ≤ (o : Int) := by omega
          have r3 : (o : Int) < (k : Int) := by omega
          have HY := Lib.hid hy
          have HY' := Lib.hid hy'
          clear hy hy' hdy hdy' hmy hmy'
          by_cases v1 : y = y'
          ·subst v1
           go_wp2_with fail
           try go_region
           try go_wp2_with fail
           go_roundw
           case rel =>
            refine ⟨o + 1, by go_num, by omega, by first | exact HB3.out.drew | exact HB3.out, ?_⟩
            rw [List.take_add_one, List.take_add_one, HTO.out, HY.out, HY'.out]
           case measure => simp [intOf]; omega
          ·have k1 : (y == y') = false := by rw [beq_eq_false_iff_ne]; exact v1
           have k2 : (y != y') = true := by unfold bne; rw [k1]; rfl
           have hst : R = false := by
            rw [← HR.out]
            refine plainV_no (fun h9 => v1 ?_)
            have e8 := HY.out
            rw [h9, HY'.out] at e8
            exact (Option.some.inj e8).symm
           subst hst
           clear v1
           go_wp2_with fail
           try go_region
           try go_wp2_with fail
           go_ret
           exact ⟨rfl, by first | exact HFIN3.out.drew | exact HFIN3.out⟩
         ·have r1 : decide ((o : Int) < (k : Int)) = false := by rw [decide_eq_false_iff_not]; omega
          have hok : o = k := by omega
          subst hok
          have hst : R = true := by
           rw [← HR.out]
           refine plainV_yes ?_
           have e5 := HTO.out
           have e6 := HM.out.1
           have e7 := HM'.out.1
           rw [List.take_of_length_le (by omega), List.take_of_length_le (by omega)] at e5
           have e8 := HIN.out
           have e9 := HOP.out
           cases s; cases t
           simp_all
          subst hst
          go_wp2_with fail
          go_ret
          exact ⟨rfl, HFIN3.out⟩
   ·have q0 : ((k : Int) != (k' : Int)) = true := by rw [bne_iff_ne]; omega
    obtain rfl : R = false := by
     rw [← hR]
     exact plainV_no (fun h9 => by rw [h9] at l3; omega)
    subst e1 e2
    clear hI hD hM hI' hD' hM' hz hz' hR hbig hbig' l1 l2 l3 l1' l2' l3' hal e3
    go_enter Tryz.func17, Tryz.ntmps17
    go_wp2_with fail
    go_ret
    exact ⟨rfl, HAL.out⟩
  ·have q0 : ((m : Int) != (m' : Int)) = true := by rw [bne_iff_ne]; omega
   obtain rfl : R = false := by
    rw [← hR]
    exact plainV_no (fun h9 => by rw [h9] at l2; omega)
   subst e1
   clear hI hD hM hI' hD' hM' hz hz' hR hbig hbig' l1 l2 l3 l1' l2' l3' hal e2
   go_enter Tryz.func17, Tryz.ntmps17
   go_wp2_with fail
   go_ret
   exact ⟨rfl, HAL.out⟩
 ·have q0 : ((n : Int) != (n' : Int)) = true := by rw [bne_iff_ne]; omega
  obtain rfl : R = false := by
   rw [← hR]
   exact plainV_no (fun h9 => by rw [h9] at l1; omega)
  clear hI hD hM hI' hD' hM' hz hz' hR hbig hbig' l1 l2 l3 l1' l2' l3' hal e1
  go_enter Tryz.func17, Tryz.ntmps17
  go_wp2_with fail
  go_ret
  exact ⟨rfl, HAL.out⟩
end Go.Proofs.YthhceopnnappgaaGreatDoor
