/- Chapter 27: a line's words as a call (printed by wip/gen_concall.py). -/
import Derived.Test.YtilkhmhgjbhfnaaGreatDoorM16
import Derived.Test.YtilkhmhgjbhfnaaGreatDoorM20
import Derived.Test.YtilkhmhgjbhfnaaGreatDoorM06
import Derived.Deep.WholeRow
set_option linter.unusedVariables false
set_option linter.unusedSimpArgs false
namespace Go.Proofs.YtilkhmhgjbhfnaaGreatDoor
open Go.RowKit
theorem load_call {ops : Array Oper} {rest : List Oper} {o : Oper} {a : Act} {w : World} {Q : Exit → Act → World → Prop} (g : Nat) {cs : Array Value} (hg : w.heap[g]? = some (.cells cs 73 (0, 0))) (x : Operand) (hgd : o.guard = none) (ho : o.op = .load 73 x)
  (hx : a.eval x = .pointer (some ⟨g, 0, none⟩)) (hi : (Tryz.prog.info? 73).map (·.size) = some cs.size) (h : wpList Tryz.prog ops Q rest (a.put o.dst (.agg cs)) w) : wpList Tryz.prog ops Q (o :: rest) a w :=
 wpList_load_row hgd 73 x ho g hx 73 cs (0, 0) _ hg Tryz.underlying73 rfl hi h
theorem store_call {ops : Array Oper} {rest : List Oper} {o : Oper} {a : Act} {w : World} {Q : Exit → Act → World → Prop} (g : Nat) {old cs : Array Value} (hg : w.heap[g]? = some (.cells old 73 (0, 0))) (x y : Operand) (hgd : o.guard = none) (ho : o.op = .store 73 x y)
  (hx : a.eval x = .pointer (some ⟨g, 0, none⟩)) (hy : a.eval y = .agg cs) (hi : (Tryz.prog.info? 73).map (·.size) = some cs.size) (hold : old.size = cs.size) (h1 : cs.all (·.oneCell') = true)
  (h : ∀ W, W.heap[g]? = some (.cells cs 73 (0, 0)) → (∀ B u, B ≤ g → Below B u w → Below B u W) → wpList Tryz.prog ops Q rest (a.put o.dst undef) W) : wpList Tryz.prog ops Q (o :: rest) a w :=
 wpList_store_row hgd 73 x y ho g cs hx hy 73 old hg hi hold h1 (h _ (setRow_heap w g old cs 73 (0, 0) hg) (fun B u hB hb => ⟨hb.os, hb.tape, hb.output, by rw [setRow_size]; exact hb.size, fun k hk => (setRow_other w g k cs (by omega)).trans (hb.block k hk)⟩))
theorem call_results (tmps : Array Value) (g : Nat) (C : Ca) (B : Bool) (w : World) (h6 : tmps.getD 4 undef = .pointer (some ⟨g, 0, none⟩)) (h7 : tmps.getD 5 undef = .bool B) (hO : w.heap[g]? = some (.cells #[.int .i64 C.kind, .int .i64 C.core, .int .i64 C.fd, .int .i64 C.off, .int .i64 C.num, .string C.path, .string C.path2, .string C.data] 73 (0, 0))) :
  (results Tryz.f39 tmps).run Tryz.prog w = .ok (.tuple #[.agg #[.int .i64 C.kind, .int .i64 C.core, .int .i64 C.fd, .int .i64 C.off, .int .i64 C.num, .string C.path, .string C.path2, .string C.data], .bool B]) w := by
 rw [results_cell_tmp rfl, h6, h7]
 have hl1 := run_loadVar_row (P := Tryz.prog) w g _ 73 _ (0, 0) _ hO Tryz.underlying73 rfl (by kernel_rfl)
 simp [asAddr, hl1, Result.andThen]
set_option maxRecDepth 100000 in
set_option maxHeartbeats 8000000 in
theorem call_any (k : Int) (S : ByteArray) (A : Option Addr) (n c : Nat) (ws : List ByteArray) (w : World) (hn : NmsAt none w A n ws) (hS : S.size ≤ 100) (hsz : ∀ x ∈ ws, x.size ≤ 1048576) (hnn : n ≤ 1048576) :
  Calls Tryz.prog 39 #[.agg #[.int .i64 k, .string S], .slice A n c] w fun e w' => ∃ C : Ca, e = .returned (.tuple #[.agg #[.int .i64 C.kind, .int .i64 C.core, .int .i64 C.fd, .int .i64 C.off, .int .i64 C.num, .string C.path, .string C.path2, .string C.data], .bool (callV k S.data.toList ws).2]) ∧ C = (callV k S.data.toList ws).1 ∧ Below w.heap.size w w' := by
 have HNM := Lib.hid hn
 have HL := Lib.hid hn.1
 have HSZ := Lib.hid hsz
 obtain ⟨W0, hW0⟩ : ∃ W, w.alloc (.cells #[.int .i64 k, .string S] 82) = W := ⟨_, rfl⟩
 obtain ⟨W1, hW1⟩ : ∃ W, W0.alloc (.cells #[.int .i64 0, .int .i64 0, .int .i64 0, .int .i64 0, .int .i64 0, .string ⟨#[]⟩, .string ⟨#[]⟩, .string ⟨#[]⟩] 73) = W := ⟨_, rfl⟩
 obtain ⟨W2, hW2⟩ : ∃ W, W1.alloc (.cells #[.int .i64 k, .int .i64 0, .int .i64 0, .int .i64 0, .int .i64 0, .string ⟨#[]⟩, .string ⟨#[]⟩, .string ⟨#[]⟩] 73) = W := ⟨_, rfl⟩
 have b0 : Below w.heap.size w W0 := by rw [← hW0]; exact (Below.refl _ _).alloc (Nat.le_refl _) _
 have b1 : Below W0.heap.size W0 W1 := by rw [← hW1]; exact (Below.refl _ _).alloc (Nat.le_refl _) _
 have b2 : Below W1.heap.size W1 W2 := by rw [← hW2]; exact (Below.refl _ _).alloc (Nat.le_refl _) _
 have z0 : w.heap.size < W0.heap.size := by rw [← hW0]; simp
 have z1 : W0.heap.size < W1.heap.size := by rw [← hW1]; simp
 have z2 : W1.heap.size < W2.heap.size := by rw [← hW2]; simp
 have rc : W2.heap[w.heap.size]? = some (.cells #[.int .i64 k, .string S] 82 (0, 0)) := (b2.block _ (by omega)).trans ((b1.block _ z0).trans (by rw [← hW0]; exact heap_alloc_new w _))
 have rr : W2.heap[W0.heap.size]? = some (.cells #[.int .i64 0, .int .i64 0, .int .i64 0, .int .i64 0, .int .i64 0, .string ⟨#[]⟩, .string ⟨#[]⟩, .string ⟨#[]⟩] 73 (0, 0)) := (b2.block _ z1).trans (by rw [← hW1]; exact heap_alloc_new W0 _)
 have ro : W2.heap[W1.heap.size]? = some (.cells #[.int .i64 k, .int .i64 0, .int .i64 0, .int .i64 0, .int .i64 0, .string ⟨#[]⟩, .string ⟨#[]⟩, .string ⟨#[]⟩] 73 (0, 0)) := by rw [← hW2]; exact heap_alloc_new W1 _
 have c0 : W0.cell? ⟨w.heap.size, 0, none⟩ = some (.int .i64 k) := by rw [← hW0, World.cell?_alloc_mark w _ _ (0, 0) _]; rfl
 have c1 : W1.cell? ⟨w.heap.size, 0, none⟩ = some (.int .i64 k) := (b1.cell (p := ⟨w.heap.size, 0, none⟩) z0).trans c0
 have d1 : W2.cell? ⟨w.heap.size, 1, none⟩ = some (.string S) := by rw [cell_of_row W2 _ _ _ _ (0, 0) rc]; rfl
 have HB2 := Lib.hid (Cv.next b0 (Cv.next b1 b2))
 have HRR := Lib.hid rr
 have HRO := Lib.hid ro
 have HZ := Lib.hid (And.intro z0 (And.intro z1 z2))
 have HD1 := Lib.hid d1
 have c1s : W1.cell? ⟨w.heap.size, 1, none⟩ = some (.string S) := (b1.cell (p := ⟨w.heap.size, 1, none⟩) z0).trans (by rw [← hW0, World.cell?_alloc_mark w _ _ (0, 0) _]; rfl)
 have hlt1 : w.heap.size < W1.heap.size := by omega
 have hne1 : w.heap.size ≠ W1.heap.size := by omega
 have HW2 := Lib.hid hW2
 clear b0 b1 b2 z0 z1 z2 rc rr ro c0 hn hsz d1 hW2
 go_enter Tryz.func39, Tryz.ntmps39
 by_cases hlen : n = S.size
 ·have e18 : ((n : Int) != (S.size : Int)) = false := by rw [bne_eq_false_iff_eq]; omega
  go_wp2_with fail
  rw [HW2.out]
  have hll : S.data.toList.length = S.size := Array.length_toList
  have HLL := Lib.hid hll
  have hcv : callV k S.data.toList ws = putWs (call0 k) S.data.toList ws := by
   unfold callV
   rw [if_pos (by rw [HL.out, HLL.out]; exact hlen)]
  have HCV := Lib.hid hcv
  have HLEN := Lib.hid hlen
  clear hll hcv hlen c1 c1s hW0 hW1
  go_loopw [22] (fun j wr => ∃ (q : Nat) (C : Ca), j = .int .i64 (q : Int) ∧ q ≤ n ∧ putWs (call0 k) S.data.toList ws = putWs C (S.data.toList.drop q) (ws.drop q) ∧ wr.heap[W1.heap.size]? = some (.cells #[.int .i64 C.kind, .int .i64 C.core, .int .i64 C.fd, .int .i64 C.off, .int .i64 C.num, .string C.path, .string C.path2, .string C.data] 73 (0, 0)) ∧ Below W1.heap.size W2 wr) (fun j _ => n - (intOf j).toNat)
  case atStart => exact ⟨0, call0 k, rfl, by omega, by simp, HRO.out, Below.refl _ _⟩
  case round =>
   obtain ⟨q, C, rfl, hq, hput, hrow, hb⟩ := hrel
   have HPUT := Lib.hid hput
   have HROW := Lib.hid hrow
   have HB := Lib.hid hb
   have d1 := (hb.cell (p := ⟨w.heap.size, 1, none⟩) hlt1).trans HD1.out
   clear hput hrow hb
   by_cases hlt : q < n
   ·obtain ⟨g, off, rfl, hg, _, hcell⟩ := HNM.out.2 (by omega)
    obtain ⟨x, hx⟩ : ∃ x, ws[q]? = some x := ⟨_, List.getElem?_eq_getElem (by rw [HL.out]; exact hlt)⟩
    have hwr := Below.trans HB2.out (HB.out.mono (Nat.le_of_lt hlt1))
    have wx := (hwr.cell (p := ⟨g, off + q, none⟩) hg).trans (hcell q x hx)
    have hqS : q < S.size := by have := HLEN.out; omega
    obtain ⟨b, hbq⟩ : ∃ b, S[q] = b := ⟨_, rfl⟩
    have hst : putWs (call0 k) S.data.toList ws = if (putW C b x).2 then putWs (putW C b x).1 (S.data.toList.drop (q + 1)) (ws.drop (q + 1)) else ((putW C b x).1, false) := by
     have h1 : q < S.data.toList.length := by rw [HLL.out]; exact hqS
     have h2 : S.data.toList[q] = b := hbq
     rw [HPUT.out, List.drop_eq_getElem_cons h1, List.drop_eq_getElem_cons (List.getElem?_eq_some_iff.1 hx).1, (List.getElem?_eq_some_iff.1 hx).2, h2, putWs]
    have HST := Lib.hid hst
    have HXS := Lib.hid (HSZ.out x (List.mem_of_getElem? hx))
    have q0 : (0 : Int) ≤ (q : Int) := by omega
    have q1 : (q : Int) < (n : Int) := by omega
    have q2 : (q : Int).toNat = q := by omega
    have q3 : (q : Int) < (S.size : Int) := by omega
    have HWR := Lib.hid hwr
    clear hcell hx hwr hst
    go_upto_region 10 with fail
    by_cases h110 : b = 110
    ·have e110 : ((b.toNat : Int) == 110) = true := by rw [h110]; rfl
     have hpw : putW C b x = ({ C with core := numV x }, numOk x) := by unfold putW;  rw [if_pos h110]
     have HPW := Lib.hid hpw
     clear hpw h110
     go_wp2_with fail
     refine (number_any x wr (by have := HXS.out; omega)).mono ?_
     rintro e w3 ⟨rfl, hb3⟩
     have hrow3 := (hb3.block W1.heap.size (Array.getElem?_eq_some_iff.1 HROW.out).1).trans HROW.out
     have oc : w3.cell? ⟨W1.heap.size, 1, none⟩ = some (.int .i64 C.core) := by rw [cell_of_row w3 _ _ _ _ (0, 0) hrow3]; rfl
     have of : ∀ j, w3.frozen? ⟨W1.heap.size, j, none⟩ = false := fun j => frozen_of_row w3 _ j _ _ hrow3
     obtain ⟨v, hv⟩ : ∃ v, numV x = v := ⟨_, rfl⟩
     have hrow4 : (w3.setCell ⟨W1.heap.size, 1, none⟩ (.int .i64 v)).heap[W1.heap.size]? = some (.cells #[.int .i64 C.kind, .int .i64 v, .int .i64 C.fd, .int .i64 C.off, .int .i64 C.num, .string C.path, .string C.path2, .string C.data] 73 (0, 0)) := heap_setCell_same w3 _ 1 _ _ _ hrow3
     have hb4 : Below W1.heap.size W2 (w3.setCell ⟨W1.heap.size, 1, none⟩ (.int .i64 v)) := (HB.out.trans (hb3.mono (Nat.le_of_lt (Array.getElem?_eq_some_iff.1 HROW.out).1))).setCell (p := ⟨W1.heap.size, 1, none⟩) (Nat.le_refl _) _
     have HR4 := Lib.hid hrow4
     have HB4 := Lib.hid hb4
     have HV := Lib.hid hv
     have HRW := Lib.hid ((hb4.block W0.heap.size HZ.out.2.1).trans HRR.out)
     rw [hv]
     clear hv hrow3 hrow4 hb4 hb3
     obtain ⟨B, hB⟩ : ∃ B, numOk x = B := ⟨_, rfl⟩
     rw [hB]
     have HOK := Lib.hid hB
     clear hB
     cases B
     case true =>
      go_wp2_with fail
      go_roundw
      case rel => exact ⟨q + 1, { C with core := v }, by go_num, hlt, by rw [HST.out, HPW.out, HOK.out, HV.out]; rfl, HR4.out, HB4.out⟩
      case measure => simp [intOf]; omega
     case false =>
      have HFIN := Lib.hid (show putWs (call0 k) S.data.toList ws = ({ C with core := v }, false) by rw [HST.out, HPW.out, HOK.out, HV.out]; rfl)
      go_wp2_with (first | (refine load_call W1.heap.size HR4.out _ rfl rfl rfl (by kernel_rfl) ?_) | (refine store_call W0.heap.size HRW.out _ _ rfl rfl rfl rfl (by kernel_rfl) (by kernel_rfl) (by kernel_rfl) ?_) | fail)
      intro W3 hr3 hb3
      have HR3 := Lib.hid hr3
      have HB3 := Lib.hid (hb3 w.heap.size w (Nat.le_of_lt HZ.out.1) (Below.trans HB2.out (HB4.out.mono (Nat.le_of_lt hlt1))))
      clear hr3 hb3
      go_wp2_with fail
      refine bodyPost_ret (call_results _ W0.heap.size { C with core := v } _ _ rfl rfl HR3.out) rfl ?_
      exact ⟨{ C with core := v }, by rw [HCV.out, HFIN.out], by rw [HCV.out, HFIN.out], HB3.out⟩
    ·have e110 : ((b.toNat : Int) == 110) = false := by
      rw [beq_eq_false_iff_ne]
      intro h
      exact h110 (UInt8.toNat_inj.1 (by rw [show (110 : UInt8).toNat = 110 from rfl]; omega))
     by_cases h102 : b = 102
     ·have e102 : ((b.toNat : Int) == 102) = true := by rw [h102]; rfl
      have hpw : putW C b x = ({ C with fd := numV x }, numOk x) := by unfold putW; rw [if_neg h110]; rw [if_pos h102]
      have HPW := Lib.hid hpw
      clear hpw h110 h102
      go_wp2_with fail
      refine (number_any x wr (by have := HXS.out; omega)).mono ?_
      rintro e w3 ⟨rfl, hb3⟩
      have hrow3 := (hb3.block W1.heap.size (Array.getElem?_eq_some_iff.1 HROW.out).1).trans HROW.out
      have oc : w3.cell? ⟨W1.heap.size, 2, none⟩ = some (.int .i64 C.fd) := by rw [cell_of_row w3 _ _ _ _ (0, 0) hrow3]; rfl
      have of : ∀ j, w3.frozen? ⟨W1.heap.size, j, none⟩ = false := fun j => frozen_of_row w3 _ j _ _ hrow3
      obtain ⟨v, hv⟩ : ∃ v, numV x = v := ⟨_, rfl⟩
      have hrow4 : (w3.setCell ⟨W1.heap.size, 2, none⟩ (.int .i64 v)).heap[W1.heap.size]? = some (.cells #[.int .i64 C.kind, .int .i64 C.core, .int .i64 v, .int .i64 C.off, .int .i64 C.num, .string C.path, .string C.path2, .string C.data] 73 (0, 0)) := heap_setCell_same w3 _ 2 _ _ _ hrow3
      have hb4 : Below W1.heap.size W2 (w3.setCell ⟨W1.heap.size, 2, none⟩ (.int .i64 v)) := (HB.out.trans (hb3.mono (Nat.le_of_lt (Array.getElem?_eq_some_iff.1 HROW.out).1))).setCell (p := ⟨W1.heap.size, 2, none⟩) (Nat.le_refl _) _
      have HR4 := Lib.hid hrow4
      have HB4 := Lib.hid hb4
      have HV := Lib.hid hv
      have HRW := Lib.hid ((hb4.block W0.heap.size HZ.out.2.1).trans HRR.out)
      rw [hv]
      clear hv hrow3 hrow4 hb4 hb3
      obtain ⟨B, hB⟩ : ∃ B, numOk x = B := ⟨_, rfl⟩
      rw [hB]
      have HOK := Lib.hid hB
      clear hB
      cases B
      case true =>
       go_wp2_with fail
       go_roundw
       case rel => exact ⟨q + 1, { C with fd := v }, by go_num, hlt, by rw [HST.out, HPW.out, HOK.out, HV.out]; rfl, HR4.out, HB4.out⟩
       case measure => simp [intOf]; omega
      case false =>
       have HFIN := Lib.hid (show putWs (call0 k) S.data.toList ws = ({ C with fd := v }, false) by rw [HST.out, HPW.out, HOK.out, HV.out]; rfl)
       go_wp2_with (first | (refine load_call W1.heap.size HR4.out _ rfl rfl rfl (by kernel_rfl) ?_) | (refine store_call W0.heap.size HRW.out _ _ rfl rfl rfl rfl (by kernel_rfl) (by kernel_rfl) (by kernel_rfl) ?_) | fail)
       intro W3 hr3 hb3
       have HR3 := Lib.hid hr3
       have HB3 := Lib.hid (hb3 w.heap.size w (Nat.le_of_lt HZ.out.1) (Below.trans HB2.out (HB4.out.mono (Nat.le_of_lt hlt1))))
       clear hr3 hb3
       go_wp2_with fail
       refine bodyPost_ret (call_results _ W0.heap.size { C with fd := v } _ _ rfl rfl HR3.out) rfl ?_
       exact ⟨{ C with fd := v }, by rw [HCV.out, HFIN.out], by rw [HCV.out, HFIN.out], HB3.out⟩
     ·have e102 : ((b.toNat : Int) == 102) = false := by
       rw [beq_eq_false_iff_ne]
       intro h
       exact h102 (UInt8.toNat_inj.1 (by rw [show (102 : UInt8).toNat = 102 from rfl]; omega))
      by_cases h111 : b = 111
      ·have e111 : ((b.toNat : Int) == 111) = true := by rw [h111]; rfl
       have hpw : putW C b x = ({ C with off := numV x }, numOk x) := by unfold putW; rw [if_neg h110]; rw [if_neg h102]; rw [if_pos h111]
       have HPW := Lib.hid hpw
       clear hpw h110 h102 h111
       go_wp2_with fail
       refine (number_any x wr (by have := HXS.out; omega)).mono ?_
       rintro e w3 ⟨rfl, hb3⟩
       have hrow3 := (hb3.block W1.heap.size (Array.getElem?_eq_some_iff.1 HROW.out).1).trans HROW.out
       have oc : w3.cell? ⟨W1.heap.size, 3, none⟩ = some (.int .i64 C.off) := by rw [cell_of_row w3 _ _ _ _ (0, 0) hrow3]; rfl
       have of : ∀ j, w3.frozen? ⟨W1.heap.size, j, none⟩ = false := fun j => frozen_of_row w3 _ j _ _ hrow3
       obtain ⟨v, hv⟩ : ∃ v, numV x = v := ⟨_, rfl⟩
       have hrow4 : (w3.setCell ⟨W1.heap.size, 3, none⟩ (.int .i64 v)).heap[W1.heap.size]? = some (.cells #[.int .i64 C.kind, .int .i64 C.core, .int .i64 C.fd, .int .i64 v, .int .i64 C.num, .string C.path, .string C.path2, .string C.data] 73 (0, 0)) := heap_setCell_same w3 _ 3 _ _ _ hrow3
       have hb4 : Below W1.heap.size W2 (w3.setCell ⟨W1.heap.size, 3, none⟩ (.int .i64 v)) := (HB.out.trans (hb3.mono (Nat.le_of_lt (Array.getElem?_eq_some_iff.1 HROW.out).1))).setCell (p := ⟨W1.heap.size, 3, none⟩) (Nat.le_refl _) _
       have HR4 := Lib.hid hrow4
       have HB4 := Lib.hid hb4
       have HV := Lib.hid hv
       have HRW := Lib.hid ((hb4.block W0.heap.size HZ.out.2.1).trans HRR.out)
       rw [hv]
       clear hv hrow3 hrow4 hb4 hb3
       obtain ⟨B, hB⟩ : ∃ B, numOk x = B := ⟨_, rfl⟩
       rw [hB]
       have HOK := Lib.hid hB
       clear hB
       cases B
       case true =>
        go_wp2_with fail
        go_roundw
        case rel => exact ⟨q + 1, { C with off := v }, by go_num, hlt, by rw [HST.out, HPW.out, HOK.out, HV.out]; rfl, HR4.out, HB4.out⟩
        case measure => simp [intOf]; omega
       case false =>
        have HFIN := Lib.hid (show putWs (call0 k) S.data.toList ws = ({ C with off := v }, false) by rw [HST.out, HPW.out, HOK.out, HV.out]; rfl)
        go_wp2_with (first | (refine load_call W1.heap.size HR4.out _ rfl rfl rfl (by kernel_rfl) ?_) | (refine store_call W0.heap.size HRW.out _ _ rfl rfl rfl rfl (by kernel_rfl) (by kernel_rfl) (by kernel_rfl) ?_) | fail)
        intro W3 hr3 hb3
        have HR3 := Lib.hid hr3
        have HB3 := Lib.hid (hb3 w.heap.size w (Nat.le_of_lt HZ.out.1) (Below.trans HB2.out (HB4.out.mono (Nat.le_of_lt hlt1))))
        clear hr3 hb3
        go_wp2_with fail
        refine bodyPost_ret (call_results _ W0.heap.size { C with off := v } _ _ rfl rfl HR3.out) rfl ?_
        exact ⟨{ C with off := v }, by rw [HCV.out, HFIN.out], by rw [HCV.out, HFIN.out], HB3.out⟩
      ·have e111 : ((b.toNat : Int) == 111) = false := by
        rw [beq_eq_false_iff_ne]
        intro h
        exact h111 (UInt8.toNat_inj.1 (by rw [show (111 : UInt8).toNat = 111 from rfl]; omega))
       by_cases h107 : b = 107
       ·have e107 : ((b.toNat : Int) == 107) = true := by rw [h107]; rfl
        have hpw : putW C b x = ({ C with num := numV x }, numOk x) := by unfold putW; rw [if_neg h110]; rw [if_neg h102]; rw [if_neg h111]; rw [if_pos h107]
        have HPW := Lib.hid hpw
        clear hpw h110 h102 h111 h107
        go_wp2_with fail
        refine (number_any x wr (by have := HXS.out; omega)).mono ?_
        rintro e w3 ⟨rfl, hb3⟩
        have hrow3 := (hb3.block W1.heap.size (Array.getElem?_eq_some_iff.1 HROW.out).1).trans HROW.out
        have oc : w3.cell? ⟨W1.heap.size, 4, none⟩ = some (.int .i64 C.num) := by rw [cell_of_row w3 _ _ _ _ (0, 0) hrow3]; rfl
        have of : ∀ j, w3.frozen? ⟨W1.heap.size, j, none⟩ = false := fun j => frozen_of_row w3 _ j _ _ hrow3
        obtain ⟨v, hv⟩ : ∃ v, numV x = v := ⟨_, rfl⟩
        have hrow4 : (w3.setCell ⟨W1.heap.size, 4, none⟩ (.int .i64 v)).heap[W1.heap.size]? = some (.cells #[.int .i64 C.kind, .int .i64 C.core, .int .i64 C.fd, .int .i64 C.off, .int .i64 v, .string C.path, .string C.path2, .string C.data] 73 (0, 0)) := heap_setCell_same w3 _ 4 _ _ _ hrow3
        have hb4 : Below W1.heap.size W2 (w3.setCell ⟨W1.heap.size, 4, none⟩ (.int .i64 v)) := (HB.out.trans (hb3.mono (Nat.le_of_lt (Array.getElem?_eq_some_iff.1 HROW.out).1))).setCell (p := ⟨W1.heap.size, 4, none⟩) (Nat.le_refl _) _
        have HR4 := Lib.hid hrow4
        have HB4 := Lib.hid hb4
        have HV := Lib.hid hv
        have HRW := Lib.hid ((hb4.block W0.heap.size HZ.out.2.1).trans HRR.out)
        rw [hv]
        clear hv hrow3 hrow4 hb4 hb3
        obtain ⟨B, hB⟩ : ∃ B, numOk x = B := ⟨_, rfl⟩
        rw [hB]
        have HOK := Lib.hid hB
        clear hB
        cases B
        case true =>
         go_wp2_with fail
         go_roundw
         case rel => exact ⟨q + 1, { C with num := v }, by go_num, hlt, by rw [HST.out, HPW.out, HOK.out, HV.out]; rfl, HR4.out, HB4.out⟩
         case measure => simp [intOf]; omega
        case false =>
         have HFIN := Lib.hid (show putWs (call0 k) S.data.toList ws = ({ C with num := v }, false) by rw [HST.out, HPW.out, HOK.out, HV.out]; rfl)
         go_wp2_with (first | (refine load_call W1.heap.size HR4.out _ rfl rfl rfl (by kernel_rfl) ?_) | (refine store_call W0.heap.size HRW.out _ _ rfl rfl rfl rfl (by kernel_rfl) (by kernel_rfl) (by kernel_rfl) ?_) | fail)
         intro W3 hr3 hb3
         have HR3 := Lib.hid hr3
         have HB3 := Lib.hid (hb3 w.heap.size w (Nat.le_of_lt HZ.out.1) (Below.trans HB2.out (HB4.out.mono (Nat.le_of_lt hlt1))))
         clear hr3 hb3
         go_wp2_with fail
         refine bodyPost_ret (call_results _ W0.heap.size { C with num := v } _ _ rfl rfl HR3.out) rfl ?_
         exact ⟨{ C with num := v }, by rw [HCV.out, HFIN.out], by rw [HCV.out, HFIN.out], HB3.out⟩
       ·have e107 : ((b.toNat : Int) == 107) = false := by
         rw [beq_eq_false_iff_ne]
         intro h
         exact h107 (UInt8.toNat_inj.1 (by rw [show (107 : UInt8).toNat = 107 from rfl]; omega))
        by_cases h112 : b = 112
        ·have e112 : ((b.toNat : Int) == 112) = true := by rw [h112]; rfl
         have hpw : putW C b x = ({ C with path := x }, true) := by unfold putW; rw [if_neg h110]; rw [if_neg h102]; rw [if_neg h111]; rw [if_neg h107]; rw [if_pos h112]
         have HPW := Lib.hid hpw
         clear hpw h110 h102 h111 h107 h112
         obtain ⟨w3, hw3⟩ : ∃ w3, w3 = wr := ⟨_, rfl⟩
         have hb3 : Below wr.heap.size wr w3 := by rw [hw3]; exact Below.refl _ _
         have hrow3 := (hb3.block W1.heap.size (Array.getElem?_eq_some_iff.1 HROW.out).1).trans HROW.out
         have oc : w3.cell? ⟨W1.heap.size, 5, none⟩ = some (.string C.path) := by rw [cell_of_row w3 _ _ _ _ (0, 0) hrow3]; rfl
         have of : ∀ j, w3.frozen? ⟨W1.heap.size, j, none⟩ = false := fun j => frozen_of_row w3 _ j _ _ hrow3
         obtain ⟨v, hv⟩ : ∃ v, x = v := ⟨_, rfl⟩
         have hrow4 : (w3.setCell ⟨W1.heap.size, 5, none⟩ (.string v)).heap[W1.heap.size]? = some (.cells #[.int .i64 C.kind, .int .i64 C.core, .int .i64 C.fd, .int .i64 C.off, .int .i64 C.num, .string v, .string C.path2, .string C.data] 73 (0, 0)) := heap_setCell_same w3 _ 5 _ _ _ hrow3
         have hb4 : Below W1.heap.size W2 (w3.setCell ⟨W1.heap.size, 5, none⟩ (.string v)) := (HB.out.trans (hb3.mono (Nat.le_of_lt (Array.getElem?_eq_some_iff.1 HROW.out).1))).setCell (p := ⟨W1.heap.size, 5, none⟩) (Nat.le_refl _) _
         have HR4 := Lib.hid hrow4
         have HB4 := Lib.hid hb4
         have HV := Lib.hid hv
         have HRW := Lib.hid ((hb4.block W0.heap.size HZ.out.2.1).trans HRR.out)
         subst hw3
         obtain rfl : x = v := hv
         clear hrow3 hrow4 hb4 hb3
         go_wp2_with fail
         go_roundw
         case rel => exact ⟨q + 1, { C with path := x }, by go_num, hlt, by rw [HST.out, HPW.out]; rfl, HR4.out, HB4.out⟩
         case measure => simp [intOf]; omega
        ·have e112 : ((b.toNat : Int) == 112) = false := by
          rw [beq_eq_false_iff_ne]
          intro h
          exact h112 (UInt8.toNat_inj.1 (by rw [show (112 : UInt8).toNat = 112 from rfl]; omega))
         by_cases h113 : b = 113
         ·have e113 : ((b.toNat : Int) == 113) = true := by rw [h113]; rfl
          have hpw : putW C b x = ({ C with path2 := x }, true) := by unfold putW; rw [if_neg h110]; rw [if_neg h102]; rw [if_neg h111]; rw [if_neg h107]; rw [if_neg h112]; rw [if_pos h113]
          have HPW := Lib.hid hpw
          clear hpw h110 h102 h111 h107 h112 h113
          obtain ⟨w3, hw3⟩ : ∃ w3, w3 = wr := ⟨_, rfl⟩
          have hb3 : Below wr.heap.size wr w3 := by rw [hw3]; exact Below.refl _ _
          have hrow3 := (hb3.block W1.heap.size (Array.getElem?_eq_some_iff.1 HROW.out).1).trans HROW.out
          have oc : w3.cell? ⟨W1.heap.size, 6, none⟩ = some (.string C.path2) := by rw [cell_of_row w3 _ _ _ _ (0, 0) hrow3]; rfl
          have of : ∀ j, w3.frozen? ⟨W1.heap.size, j, none⟩ = false := fun j => frozen_of_row w3 _ j _ _ hrow3
          obtain ⟨v, hv⟩ : ∃ v, x = v := ⟨_, rfl⟩
          have hrow4 : (w3.setCell ⟨W1.heap.size, 6, none⟩ (.string v)).heap[W1.heap.size]? = some (.cells #[.int .i64 C.kind, .int .i64 C.core, .int .i64 C.fd, .int .i64 C.off, .int .i64 C.num, .string C.path, .string v, .string C.data] 73 (0, 0)) := heap_setCell_same w3 _ 6 _ _ _ hrow3
          have hb4 : Below W1.heap.size W2 (w3.setCell ⟨W1.heap.size, 6, none⟩ (.string v)) := (HB.out.trans (hb3.mono (Nat.le_of_lt (Array.getElem?_eq_some_iff.1 HROW.out).1))).setCell (p := ⟨W1.heap.size, 6, none⟩) (Nat.le_refl _) _
          have HR4 := Lib.hid hrow4
          have HB4 := Lib.hid hb4
          have HV := Lib.hid hv
          have HRW := Lib.hid ((hb4.block W0.heap.size HZ.out.2.1).trans HRR.out)
          subst hw3
          obtain rfl : x = v := hv
          clear hrow3 hrow4 hb4 hb3
          go_wp2_with fail
          go_roundw
          case rel => exact ⟨q + 1, { C with path2 := x }, by go_num, hlt, by rw [HST.out, HPW.out]; rfl, HR4.out, HB4.out⟩
          case measure => simp [intOf]; omega
         ·have e113 : ((b.toNat : Int) == 113) = false := by
           rw [beq_eq_false_iff_ne]
           intro h
           exact h113 (UInt8.toNat_inj.1 (by rw [show (113 : UInt8).toNat = 113 from rfl]; omega))
          have hpw : putW C b x = ({ C with data := (unhexB x).1 }, (unhexB x).2) := by unfold putW; rw [if_neg h110]; rw [if_neg h102]; rw [if_neg h111]; rw [if_neg h107]; rw [if_neg h112]; rw [if_neg h113]; 
          have HPW := Lib.hid hpw
          clear hpw h110 h102 h111 h107 h112 h113
          go_wp2_with fail
          refine (unhex_any x wr HXS.out).mono ?_
          rintro e w3 ⟨rfl, hb3⟩
          have hrow3 := (hb3.block W1.heap.size (Array.getElem?_eq_some_iff.1 HROW.out).1).trans HROW.out
          have oc : w3.cell? ⟨W1.heap.size, 7, none⟩ = some (.string C.data) := by rw [cell_of_row w3 _ _ _ _ (0, 0) hrow3]; rfl
          have of : ∀ j, w3.frozen? ⟨W1.heap.size, j, none⟩ = false := fun j => frozen_of_row w3 _ j _ _ hrow3
          obtain ⟨v, hv⟩ : ∃ v, (unhexB x).1 = v := ⟨_, rfl⟩
          have hrow4 : (w3.setCell ⟨W1.heap.size, 7, none⟩ (.string v)).heap[W1.heap.size]? = some (.cells #[.int .i64 C.kind, .int .i64 C.core, .int .i64 C.fd, .int .i64 C.off, .int .i64 C.num, .string C.path, .string C.path2, .string v] 73 (0, 0)) := heap_setCell_same w3 _ 7 _ _ _ hrow3
          have hb4 : Below W1.heap.size W2 (w3.setCell ⟨W1.heap.size, 7, none⟩ (.string v)) := (HB.out.trans (hb3.mono (Nat.le_of_lt (Array.getElem?_eq_some_iff.1 HROW.out).1))).setCell (p := ⟨W1.heap.size, 7, none⟩) (Nat.le_refl _) _
          have HR4 := Lib.hid hrow4
          have HB4 := Lib.hid hb4
          have HV := Lib.hid hv
          have HRW := Lib.hid ((hb4.block W0.heap.size HZ.out.2.1).trans HRR.out)
          rw [hv]
          clear hv hrow3 hrow4 hb4 hb3
          obtain ⟨B, hB⟩ : ∃ B, (unhexB x).2 = B := ⟨_, rfl⟩
          rw [hB]
          have HOK := Lib.hid hB
          clear hB
          cases B
          case true =>
           go_wp2_with fail
           go_roundw
           case rel => exact ⟨q + 1, { C with data := v }, by go_num, hlt, by rw [HST.out, HPW.out, HOK.out, HV.out]; rfl, HR4.out, HB4.out⟩
           case measure => simp [intOf]; omega
          case false =>
           have HFIN := Lib.hid (show putWs (call0 k) S.data.toList ws = ({ C with data := v }, false) by rw [HST.out, HPW.out, HOK.out, HV.out]; rfl)
           go_wp2_with (first | (refine load_call W1.heap.size HR4.out _ rfl rfl rfl (by kernel_rfl) ?_) | (refine store_call W0.heap.size HRW.out _ _ rfl rfl rfl rfl (by kernel_rfl) (by kernel_rfl) (by kernel_rfl) ?_) | fail)
           intro W3 hr3 hb3
           have HR3 := Lib.hid hr3
           have HB3 := Lib.hid (hb3 w.heap.size w (Nat.le_of_lt HZ.out.1) (Below.trans HB2.out (HB4.out.mono (Nat.le_of_lt hlt1))))
           clear hr3 hb3
           go_wp2_with fail
           refine bodyPost_ret (call_results _ W0.heap.size { C with data := v } _ _ rfl rfl HR3.out) rfl ?_
           exact ⟨{ C with data := v }, by rw [HCV.out, HFIN.out], by rw [HCV.out, HFIN.out], HB3.out⟩
   ·have hqn : q = n := by omega
    have hfin : putWs (call0 k) S.data.toList ws = (C, true) := by
     rw [HPUT.out, hqn, List.drop_eq_nil_of_le (by rw [HLL.out]; have := HLEN.out; omega)]
     rfl
    have HFIN := Lib.hid hfin
    have hrr := (HB.out.block W0.heap.size HZ.out.2.1).trans HRR.out
    have HRW := Lib.hid hrr
    have q5 : decide (n < S.size) = false := decide_eq_false (by have := HLEN.out; omega)
    have q6 : ¬ n < S.size := by have := HLEN.out; omega
    have q7 : ¬ q < S.size := by have := HLEN.out; omega
    clear hfin hrr
    go_wp2_with (first | (refine load_call W1.heap.size HROW.out _ rfl rfl rfl (by kernel_rfl) ?_) | (refine store_call W0.heap.size HRW.out _ _ rfl rfl rfl rfl (by kernel_rfl) (by kernel_rfl) (by kernel_rfl) ?_) | fail)
    intro W3 hr3 hb3
    have HR3 := Lib.hid hr3
    have HB3 := Lib.hid (hb3 w.heap.size w (Nat.le_of_lt HZ.out.1) (Below.trans HB2.out (HB.out.mono (Nat.le_of_lt hlt1))))
    clear hr3 hb3
    go_wp2_with fail
    refine bodyPost_ret (call_results _ W0.heap.size C _ _ rfl rfl HR3.out) rfl ?_
    exact ⟨C, by rw [HCV.out, HFIN.out], by rw [HCV.out, HFIN.out], HB3.out⟩
 ·have e18 : ((n : Int) != (S.size : Int)) = true := by rw [bne_iff_ne]; omega
  have HCV := Lib.hid (show callV k S.data.toList ws = (call0 k, false) by
   unfold callV
   rw [if_neg (by rw [HL.out, show S.data.toList.length = S.size from Array.length_toList]; exact hlen)])
  clear hlen
  go_wp2_with (first | (refine load_call W1.heap.size (by rw [HW2.out]; exact HRO.out) _ rfl rfl rfl (by kernel_rfl) ?_) | (refine store_call W0.heap.size (by rw [HW2.out]; exact HRR.out) _ _ rfl rfl rfl rfl (by kernel_rfl) (by kernel_rfl) (by kernel_rfl) ?_) | fail)
  intro W3 hr3 hb3
  have HR3 := Lib.hid hr3
  have HB3 := Lib.hid (hb3 w.heap.size w (Nat.le_of_lt HZ.out.1) (by rw [HW2.out]; exact HB2.out))
  clear hr3 hb3
  go_wp2_with fail
  refine bodyPost_ret (call_results _ W0.heap.size (call0 k) _ _ rfl rfl HR3.out) rfl ?_
  exact ⟨call0 k, by rw [HCV.out], by rw [HCV.out], HB3.out⟩
end Go.Proofs.YtilkhmhgjbhfnaaGreatDoor
