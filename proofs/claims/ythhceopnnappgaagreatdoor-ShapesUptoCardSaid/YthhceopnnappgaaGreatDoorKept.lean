/- Kept: a slice that was lent is as it was, with the room (printed by wip/gen_kept.py). -/
import Derived.Test.YthhceopnnappgaaGreatDoorM42
import Derived.Test.YthhceopnnappgaaGreatDoorM10
set_option linter.unusedVariables false
set_option linter.unusedSimpArgs false
namespace Go.Proofs.YthhceopnnappgaaGreatDoor
open Go.RowKit
theorem eql_en (a : ByteArray) (p : Int) (w : World) : (binOp .eql 84 (.agg #[.string a, .int .i64 p]) (.agg #[.string a, .int .i64 p])).run Tryz.prog w = .ok (.bool true) w := by
 have u3 := Tryz.underlying3
 have u4 := Tryz.underlying9
 have hS : Tryz.prog.underlying 84 = some (.struct (Tryz.prog.fieldsOf 84)) := by kernel_rfl
 have hp : Tryz.prog.stoodInHeld 84 = false := by kernel_rfl
 rw [run_eql_struct, show (10000 : Nat) = 9999 + 1 from rfl, run_equalIn_agg w 9999 84 _ _ hS hp]
 simp only [Program.fieldsOf, Tryz.underlying84]
 go_simp
theorem eql_ds (a b c : Int) (w : World) : (binOp .eql 67 (.agg #[.int .i64 a, .int .i64 b, .int .i64 c]) (.agg #[.int .i64 a, .int .i64 b, .int .i64 c])).run Tryz.prog w = .ok (.bool true) w := by
 have u3 := Tryz.underlying3
 have hS : Tryz.prog.underlying 67 = some (.struct (Tryz.prog.fieldsOf 67)) := by kernel_rfl
 have hp : Tryz.prog.stoodInHeld 67 = false := by kernel_rfl
 rw [run_eql_struct, show (10000 : Nat) = 9999 + 1 from rfl, run_equalIn_agg w 9999 67 _ _ hS hp]
 simp only [Program.fieldsOf, Tryz.underlying67]
 go_simp
theorem eguard_en (x y : Operand) (a b : Array Value) (w : World) : (eqGuard .eql 84 x y (.agg a) (.agg b)).run Tryz.prog w = .ok () w := run_eqGuard_agg w _ _ _ _ _ _ (by kernel_rfl)
theorem eguard_ds (x y : Operand) (a b : Array Value) (w : World) : (eqGuard .eql 67 x y (.agg a) (.agg b)).run Tryz.prog w = .ok () w := run_eqGuard_agg w _ _ _ _ _ _ (by kernel_rfl)
set_option maxRecDepth 100000 in
set_option maxHeartbeats 2000000 in
theorem sameents_any (A A' : Option Addr) (n c c' : Nat) (es : List En) (w : World) (h : EntsAt none w A n es) (h' : EntsAt none w A' n es) (hn : n ≤ 1099511627776) :
  Calls Tryz.prog 63 #[.slice A n c, .slice A' n c'] w fun e w' => e = .returned (.bool true) ∧ Below w.heap.size w w' := by
 have HF := Lib.hid h
 have HF' := Lib.hid h'
 have hnn : ((n : Int) != (n : Int)) = false := by simp
 clear h h'
 go_enter Tryz.func63, Tryz.ntmps63
 go_wp2_with fail
 go_loopw [5] (fun i wr => ∃ q : Nat, i = .int .i64 q ∧ q ≤ n ∧ Below w.heap.size w wr) (fun i _ => n - (intOf i).toNat)
 case atStart => exact ⟨0, rfl, by omega, Below.refl _ _⟩
 case round =>
  obtain ⟨q, rfl, hq, hbel⟩ := hrel
  have HB := Lib.hid hbel
  clear hbel
  by_cases hlt : q < n
  ·obtain ⟨g1, o1, y, rfl, hg1, hy, hdr, hmem, f0, f1⟩ := (HF.out.below HB.out).get q hlt
   obtain ⟨g2, o2, y', rfl, hg2, hy', hdr', hmem', f0', f1'⟩ := (HF'.out.below HB.out).get q hlt
   obtain rfl : y = y' := by rw [hy] at hy'; exact Option.some.inj hy'
   have r1 : decide ((q : Int) < (n : Int)) = true := by rw [decide_eq_true_eq]; omega
   have r2 : (0 : Int) ≤ (q : Int) := by omega
   have r3 : (q : Int) < (n : Int) := by omega
   have hne := neq_en_same y.name y.num
   have hgu := guard_en
   clear hy hy' hdr hdr' hmem hmem'
   go_wp2_with fail
   go_region
   go_wp2_with fail
   go_roundw
   case rel => exact ⟨q + 1, by go_num, by omega, HB.out.drew⟩
   case measure => simp [intOf]; omega
  ·obtain rfl : q = n := by omega
   have r1 : decide ((q : Int) < (q : Int)) = false := by rw [decide_eq_false_iff_not]; omega
   go_wp2_with fail
   go_ret
   exact ⟨rfl, HB.out⟩
set_option maxRecDepth 100000 in
set_option maxHeartbeats 2000000 in
theorem keptents_any (lo : Nat) (A A' : Option Addr) (n c c' : Nat) (es : List En) (w : World) (h : Lent lo w 84 2 A n c (es.flatMap enV) [.string ⟨#[126]⟩, .int .i64 0, .string ⟨#[126]⟩, .int .i64 0]) (ha : EntsAt none w A n es) (h' : EntsAt none w A' n es) (hn : n ≤ 1099511627776) :
  Calls Tryz.prog 43 #[.slice A n c, .slice A' n c'] w fun e w' => e = .returned (.bool true) ∧ Below w.heap.size w w' := by
 obtain ⟨g0, cur, rfl, _, _, hnc, hcm, _, hxl, _⟩ := id h
 obtain ⟨g, hg0, hgl, hc⟩ := h.cell
 obtain rfl : g0 = g := by injection hg0 with h9; injection h9
 obtain ⟨xs, hxs⟩ : ∃ xs, (es.flatMap enV) = xs := ⟨_, rfl⟩
 rw [hxs] at hc hxl
 have HC := Lib.hid (show ∀ w', Below w.heap.size w w' → ∀ j u, (xs ++ [.string ⟨#[126]⟩, .int .i64 0, .string ⟨#[126]⟩, .int .i64 0])[j]? = some u → w'.cell? ⟨g0, j, none⟩ = some u from fun w' hb j u hj => (hb.cell (p := ⟨g0, j, none⟩) hgl).trans (hc j u hj))
 have HS := Lib.hid (sameents_any (some ⟨g0, 0, none⟩) A' n c c' es w ha h' hn)
 have hw2 : IntKind.i64.wrap ((n : Int) + 2) = ((n + 2 : Nat) : Int) := by rw [IntWalk.i64_in _ (by omega)]; omega
 have hw1 : IntKind.i64.wrap ((n : Int) + 1) = ((n + 1 : Nat) : Int) := by rw [IntWalk.i64_in _ (by omega)]; omega
 have i0 : (0 : Int) ≤ (n : Int) := by omega
 have i1 : (n : Int) < ((n + 2 : Nat) : Int) := by omega
 have i2 : ((n + 1 : Nat) : Int) < ((n + 2 : Nat) : Int) := by omega
 have i3 : (0 : Int) ≤ ((n + 1 : Nat) : Int) := by omega
 have i4 : ((n + 2 : Nat) : Int) ≤ (c : Int) := by omega
 have i5 : (0 : Int) ≤ ((n + 2 : Nat) : Int) := by omega
 have h1 := eql_en ⟨#[126]⟩ 0
 have h2 := eguard_en
 have HXL := Lib.hid hxl
 clear h ha h' hg0 hc hxs
 go_enter Tryz.func43, Tryz.ntmps43
 go_wp2_with fail
 refine HS.out.mono ?_
 rintro e1 w1 ⟨rfl, hb⟩
 have HB := Lib.hid hb
 have hc := HC.out w1 hb
 have hxl := HXL.out
 have d0a : w1.cell? ⟨g0, n * 2, none⟩ = some (.string ⟨#[126]⟩) := hc (n * 2) _ (by rw [show n * 2 = xs.length + 0 by omega, List.getElem?_append_right (by omega), Nat.add_sub_cancel_left]; rfl)
 have d1a : w1.cell? ⟨g0, n * 2 + 1, none⟩ = some (.int .i64 0) := hc (n * 2 + 1) _ (by rw [show n * 2 + 1 = xs.length + 1 by omega, List.getElem?_append_right (by omega), Nat.add_sub_cancel_left]; rfl)
 have d2a : w1.cell? ⟨g0, n * 2 + 2, none⟩ = some (.string ⟨#[126]⟩) := hc (n * 2 + 2) _ (by rw [show n * 2 + 2 = xs.length + 2 by omega, List.getElem?_append_right (by omega), Nat.add_sub_cancel_left]; rfl)
 have d2b : w1.cell? ⟨g0, (n + 1) * 2, none⟩ = some (.string ⟨#[126]⟩) := hc ((n + 1) * 2) _ (by rw [show (n + 1) * 2 = xs.length + 2 by omega, List.getElem?_append_right (by omega), Nat.add_sub_cancel_left]; rfl)
 have d3a : w1.cell? ⟨g0, n * 2 + 3, none⟩ = some (.int .i64 0) := hc (n * 2 + 3) _ (by rw [show n * 2 + 3 = xs.length + 3 by omega, List.getElem?_append_right (by omega), Nat.add_sub_cancel_left]; rfl)
 have d3b : w1.cell? ⟨g0, (n + 1) * 2 + 1, none⟩ = some (.int .i64 0) := hc ((n + 1) * 2 + 1) _ (by rw [show (n + 1) * 2 + 1 = xs.length + 3 by omega, List.getElem?_append_right (by omega), Nat.add_sub_cancel_left]; rfl)
 clear hc hb
 go_wp2_with fail
 go_ret
 exact ⟨rfl, HB.out⟩
set_option maxRecDepth 100000 in
set_option maxHeartbeats 2000000 in
theorem samedescs_any (A A' : Option Addr) (n c c' : Nat) (es : List Ds) (w : World) (h : DescsAt none w A n es) (h' : DescsAt none w A' n es) (hn : n ≤ 1099511627776) :
  Calls Tryz.prog 61 #[.slice A n c, .slice A' n c'] w fun e w' => e = .returned (.bool true) ∧ Below w.heap.size w w' := by
 have HF := Lib.hid h
 have HF' := Lib.hid h'
 have hnn : ((n : Int) != (n : Int)) = false := by simp
 clear h h'
 go_enter Tryz.func61, Tryz.ntmps61
 go_wp2_with fail
 go_loopw [5] (fun i wr => ∃ q : Nat, i = .int .i64 q ∧ q ≤ n ∧ Below w.heap.size w wr) (fun i _ => n - (intOf i).toNat)
 case atStart => exact ⟨0, rfl, by omega, Below.refl _ _⟩
 case round =>
  obtain ⟨q, rfl, hq, hbel⟩ := hrel
  have HB := Lib.hid hbel
  clear hbel
  by_cases hlt : q < n
  ·obtain ⟨g1, o1, y, rfl, hg1, hy, hdr, hmem, f0, f1, f2⟩ := (HF.out.below HB.out).get q hlt
   obtain ⟨g2, o2, y', rfl, hg2, hy', hdr', hmem', f0', f1', f2'⟩ := (HF'.out.below HB.out).get q hlt
   obtain rfl : y = y' := by rw [hy] at hy'; exact Option.some.inj hy'
   have r1 : decide ((q : Int) < (n : Int)) = true := by rw [decide_eq_true_eq]; omega
   have r2 : (0 : Int) ≤ (q : Int) := by omega
   have r3 : (q : Int) < (n : Int) := by omega
   have hne := neq_ds_same y.core y.fd y.num
   have hgu := guard_ds
   clear hy hy' hdr hdr' hmem hmem'
   go_wp2_with fail
   go_region
   go_wp2_with fail
   go_roundw
   case rel => exact ⟨q + 1, by go_num, by omega, HB.out.drew⟩
   case measure => simp [intOf]; omega
  ·obtain rfl : q = n := by omega
   have r1 : decide ((q : Int) < (q : Int)) = false := by rw [decide_eq_false_iff_not]; omega
   go_wp2_with fail
   go_ret
   exact ⟨rfl, HB.out⟩
set_option maxRecDepth 100000 in
set_option maxHeartbeats 2000000 in
theorem keptdescs_any (lo : Nat) (A A' : Option Addr) (n c c' : Nat) (es : List Ds) (w : World) (h : Lent lo w 67 3 A n c (es.flatMap dsV) [.int .i64 77777, .int .i64 0, .int .i64 0, .int .i64 77777, .int .i64 0, .int .i64 0]) (ha : DescsAt none w A n es) (h' : DescsAt none w A' n es) (hn : n ≤ 1099511627776) :
  Calls Tryz.prog 41 #[.slice A n c, .slice A' n c'] w fun e w' => e = .returned (.bool true) ∧ Below w.heap.size w w' := by
 obtain ⟨g0, cur, rfl, _, _, hnc, hcm, _, hxl, _⟩ := id h
 obtain ⟨g, hg0, hgl, hc⟩ := h.cell
 obtain rfl : g0 = g := by injection hg0 with h9; injection h9
 obtain ⟨xs, hxs⟩ : ∃ xs, (es.flatMap dsV) = xs := ⟨_, rfl⟩
 rw [hxs] at hc hxl
 have HC := Lib.hid (show ∀ w', Below w.heap.size w w' → ∀ j u, (xs ++ [.int .i64 77777, .int .i64 0, .int .i64 0, .int .i64 77777, .int .i64 0, .int .i64 0])[j]? = some u → w'.cell? ⟨g0, j, none⟩ = some u from fun w' hb j u hj => (hb.cell (p := ⟨g0, j, none⟩) hgl).trans (hc j u hj))
 have HS := Lib.hid (samedescs_any (some ⟨g0, 0, none⟩) A' n c c' es w ha h' hn)
 have hw2 : IntKind.i64.wrap ((n : Int) + 2) = ((n + 2 : Nat) : Int) := by rw [IntWalk.i64_in _ (by omega)]; omega
 have hw1 : IntKind.i64.wrap ((n : Int) + 1) = ((n + 1 : Nat) : Int) := by rw [IntWalk.i64_in _ (by omega)]; omega
 have i0 : (0 : Int) ≤ (n : Int) := by omega
 have i1 : (n : Int) < ((n + 2 : Nat) : Int) := by omega
 have i2 : ((n + 1 : Nat) : Int) < ((n + 2 : Nat) : Int) := by omega
 have i3 : (0 : Int) ≤ ((n + 1 : Nat) : Int) := by omega
 have i4 : ((n + 2 : Nat) : Int) ≤ (c : Int) := by omega
 have i5 : (0 : Int) ≤ ((n + 2 : Nat) : Int) := by omega
 have h1 := eql_ds 77777 0 0
 have h2 := eguard_ds
 have HXL := Lib.hid hxl
 clear h ha h' hg0 hc hxs
 go_enter Tryz.func41, Tryz.ntmps41
 go_wp2_with fail
 refine HS.out.mono ?_
 rintro e1 w1 ⟨rfl, hb⟩
 have HB := Lib.hid hb
 have hc := HC.out w1 hb
 have hxl := HXL.out
 have d0a : w1.cell? ⟨g0, n * 3, none⟩ = some (.int .i64 77777) := hc (n * 3) _ (by rw [show n * 3 = xs.length + 0 by omega, List.getElem?_append_right (by omega), Nat.add_sub_cancel_left]; rfl)
 have d1a : w1.cell? ⟨g0, n * 3 + 1, none⟩ = some (.int .i64 0) := hc (n * 3 + 1) _ (by rw [show n * 3 + 1 = xs.length + 1 by omega, List.getElem?_append_right (by omega), Nat.add_sub_cancel_left]; rfl)
 have d2a : w1.cell? ⟨g0, n * 3 + 2, none⟩ = some (.int .i64 0) := hc (n * 3 + 2) _ (by rw [show n * 3 + 2 = xs.length + 2 by omega, List.getElem?_append_right (by omega), Nat.add_sub_cancel_left]; rfl)
 have d3a : w1.cell? ⟨g0, n * 3 + 3, none⟩ = some (.int .i64 77777) := hc (n * 3 + 3) _ (by rw [show n * 3 + 3 = xs.length + 3 by omega, List.getElem?_append_right (by omega), Nat.add_sub_cancel_left]; rfl)
 have d3b : w1.cell? ⟨g0, (n + 1) * 3, none⟩ = some (.int .i64 77777) := hc ((n + 1) * 3) _ (by rw [show (n + 1) * 3 = xs.length + 3 by omega, List.getElem?_append_right (by omega), Nat.add_sub_cancel_left]; rfl)
 have d4a : w1.cell? ⟨g0, n * 3 + 4, none⟩ = some (.int .i64 0) := hc (n * 3 + 4) _ (by rw [show n * 3 + 4 = xs.length + 4 by omega, List.getElem?_append_right (by omega), Nat.add_sub_cancel_left]; rfl)
 have d4b : w1.cell? ⟨g0, (n + 1) * 3 + 1, none⟩ = some (.int .i64 0) := hc ((n + 1) * 3 + 1) _ (by rw [show (n + 1) * 3 + 1 = xs.length + 4 by omega, List.getElem?_append_right (by omega), Nat.add_sub_cancel_left]; rfl)
 have d5a : w1.cell? ⟨g0, n * 3 + 5, none⟩ = some (.int .i64 0) := hc (n * 3 + 5) _ (by rw [show n * 3 + 5 = xs.length + 5 by omega, List.getElem?_append_right (by omega), Nat.add_sub_cancel_left]; rfl)
 have d5b : w1.cell? ⟨g0, (n + 1) * 3 + 2, none⟩ = some (.int .i64 0) := hc ((n + 1) * 3 + 2) _ (by rw [show (n + 1) * 3 + 2 = xs.length + 5 by omega, List.getElem?_append_right (by omega), Nat.add_sub_cancel_left]; rfl)
 clear hc hb
 go_wp2_with fail
 go_ret
 exact ⟨rfl, HB.out⟩
set_option maxRecDepth 100000 in
set_option maxHeartbeats 2000000 in
theorem sameints_any (A A' : Option Addr) (n c c' : Nat) (es : List Int) (w : World) (h : IntsAt none w A n es) (h' : IntsAt none w A' n es) (hn : n ≤ 1099511627776) :
  Calls Tryz.prog 62 #[.slice A n c, .slice A' n c'] w fun e w' => e = .returned (.bool true) ∧ Below w.heap.size w w' := by
 have HF := Lib.hid h
 have HF' := Lib.hid h'
 have hnn : ((n : Int) != (n : Int)) = false := by simp
 clear h h'
 go_enter Tryz.func62, Tryz.ntmps62
 go_wp2_with fail
 go_loopw [5] (fun i wr => ∃ q : Nat, i = .int .i64 q ∧ q ≤ n ∧ Below w.heap.size w wr) (fun i _ => n - (intOf i).toNat)
 case atStart => exact ⟨0, rfl, by omega, Below.refl _ _⟩
 case round =>
  obtain ⟨q, rfl, hq, hbel⟩ := hrel
  have HB := Lib.hid hbel
  clear hbel
  by_cases hlt : q < n
  ·obtain ⟨g1, o1, y, rfl, hg1, hy, hdr, hmem, f0⟩ := (HF.out.below HB.out).get q hlt
   obtain ⟨g2, o2, y', rfl, hg2, hy', hdr', hmem', f0'⟩ := (HF'.out.below HB.out).get q hlt
   obtain rfl : y = y' := by rw [hy] at hy'; exact Option.some.inj hy'
   have r1 : decide ((q : Int) < (n : Int)) = true := by rw [decide_eq_true_eq]; omega
   have r2 : (0 : Int) ≤ (q : Int) := by omega
   have r3 : (q : Int) < (n : Int) := by omega
   have hne : (y != y) = false := by simp
   clear hy hy' hdr hdr' hmem hmem'
   go_wp2_with fail
   go_region
   go_wp2_with fail
   go_roundw
   case rel => exact ⟨q + 1, by go_num, by omega, HB.out.drew⟩
   case measure => simp [intOf]; omega
  ·obtain rfl : q = n := by omega
   have r1 : decide ((q : Int) < (q : Int)) = false := by rw [decide_eq_false_iff_not]; omega
   go_wp2_with fail
   go_ret
   exact ⟨rfl, HB.out⟩
set_option maxRecDepth 100000 in
set_option maxHeartbeats 2000000 in
theorem keptints_any (lo : Nat) (A A' : Option Addr) (n c c' : Nat) (es : List Int) (w : World) (h : Lent lo w 3 1 A n c (es.map (Value.int .i64)) [.int .i64 (-7777), .int .i64 (-8888)]) (ha : IntsAt none w A n es) (h' : IntsAt none w A' n es) (hn : n ≤ 1099511627776) :
  Calls Tryz.prog 42 #[.slice A n c, .slice A' n c'] w fun e w' => e = .returned (.bool true) ∧ Below w.heap.size w w' := by
 obtain ⟨g0, cur, rfl, _, _, hnc, hcm, _, hxl, _⟩ := id h
 obtain ⟨g, hg0, hgl, hc⟩ := h.cell
 obtain rfl : g0 = g := by injection hg0 with h9; injection h9
 obtain ⟨xs, hxs⟩ : ∃ xs, (es.map (Value.int .i64)) = xs := ⟨_, rfl⟩
 rw [hxs] at hc hxl
 have HC := Lib.hid (show ∀ w', Below w.heap.size w w' → ∀ j u, (xs ++ [.int .i64 (-7777), .int .i64 (-8888)])[j]? = some u → w'.cell? ⟨g0, j, none⟩ = some u from fun w' hb j u hj => (hb.cell (p := ⟨g0, j, none⟩) hgl).trans (hc j u hj))
 have HS := Lib.hid (sameints_any (some ⟨g0, 0, none⟩) A' n c c' es w ha h' hn)
 have hw2 : IntKind.i64.wrap ((n : Int) + 2) = ((n + 2 : Nat) : Int) := by rw [IntWalk.i64_in _ (by omega)]; omega
 have hw1 : IntKind.i64.wrap ((n : Int) + 1) = ((n + 1 : Nat) : Int) := by rw [IntWalk.i64_in _ (by omega)]; omega
 have i0 : (0 : Int) ≤ (n : Int) := by omega
 have i1 : (n : Int) < ((n + 2 : Nat) : Int) := by omega
 have i2 : ((n + 1 : Nat) : Int) < ((n + 2 : Nat) : Int) := by omega
 have i3 : (0 : Int) ≤ ((n + 1 : Nat) : Int) := by omega
 have i4 : ((n + 2 : Nat) : Int) ≤ (c : Int) := by omega
 have i5 : (0 : Int) ≤ ((n + 2 : Nat) : Int) := by omega
 have h1 : ((-7777 : Int) == -7777) = true := by decide
 have h2 : ((-8888 : Int) == -8888) = true := by decide
 have HXL := Lib.hid hxl
 clear h ha h' hg0 hc hxs
 go_enter Tryz.func42, Tryz.ntmps42
 go_wp2_with fail
 refine HS.out.mono ?_
 rintro e1 w1 ⟨rfl, hb⟩
 have HB := Lib.hid hb
 have hc := HC.out w1 hb
 have hxl := HXL.out
 have d0a : w1.cell? ⟨g0, n, none⟩ = some (.int .i64 (-7777)) := hc (n) _ (by rw [show n = xs.length + 0 by omega, List.getElem?_append_right (by omega), Nat.add_sub_cancel_left]; rfl)
 have d1a : w1.cell? ⟨g0, n + 1, none⟩ = some (.int .i64 (-8888)) := hc (n + 1) _ (by rw [show n + 1 = xs.length + 1 by omega, List.getElem?_append_right (by omega), Nat.add_sub_cancel_left]; rfl)
 clear hc hb
 go_wp2_with fail
 go_ret
 exact ⟨rfl, HB.out⟩
end Go.Proofs.YthhceopnnappgaaGreatDoor
