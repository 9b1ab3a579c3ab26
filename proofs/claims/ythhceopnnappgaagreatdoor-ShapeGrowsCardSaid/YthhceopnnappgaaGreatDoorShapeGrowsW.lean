/- The walk of the law ShapeGrows (printed by wip/gen_grows.py). -/
import Derived.Test.YthhceopnnappgaaGreatDoorM43
set_option linter.unusedVariables false
set_option linter.unusedSimpArgs false
namespace Go.Proofs.YthhceopnnappgaaGreatDoor
open Go.RowKit
theorem infoCallG : (Tryz.prog.info? 40).map (fun i => (i.zero, i.size, i.bytes)) = some (some (.agg #[.int .i64 0, .int .i64 0, .int .i64 0, .int .i64 0, .int .i64 0, .string ⟨#[]⟩, .string ⟨#[]⟩, .string ⟨#[]⟩]), 8, 88) := by kernel_rfl
def CallsB (w : World) (b : Nat) (cur : Array Value) : Prop := w.heap[b]? = some (.cells cur 40 (0, 0))
theorem CallsB.get {w : World} {b n : Nat} {cur : Array Value} (h : CallsB w b cur) {O G : Bool} (hn : n = (callsG O G).length) (ht : cur.toList.take (n * 8) = cellsG O G) (q : Nat) (c : Ca) (hc : (callsG O G)[q]? = some c) : w.cell? ⟨b, q * 8, none⟩ = some (.int .i64 c.kind) ∧ w.cell? ⟨b, q * 8 + 1, none⟩ = some (.int .i64 c.core) ∧ w.cell? ⟨b, q * 8 + 2, none⟩ = some (.int .i64 c.fd) ∧ w.cell? ⟨b, q * 8 + 3, none⟩ = some (.int .i64 c.off) ∧ w.cell? ⟨b, q * 8 + 4, none⟩ = some (.int .i64 c.num) ∧
  w.cell? ⟨b, q * 8 + 5, none⟩ = some (.string c.path) ∧ w.cell? ⟨b, q * 8 + 6, none⟩ = some (.string c.path2) ∧ w.cell? ⟨b, q * 8 + 7, none⟩ = some (.string c.data) := by
 have key : ∀ i, i < 8 → w.cell? ⟨b, q * 8 + i, none⟩ = (callC c)[i]? := fun i hi => by
  have h1 := cellsG_at hc i hi
  have hq := (List.getElem?_eq_some_iff.1 hc).1
  rw [cell_of_row w b _ _ _ (0, 0) h, ← h1, ← ht, List.getElem?_take, if_pos (by omega), Array.getElem?_toList]
 exact ⟨key 0 (by omega), key 1 (by omega), key 2 (by omega), key 3 (by omega), key 4 (by omega), key 5 (by omega), key 6 (by omega), key 7 (by omega)⟩
theorem one_cells {xs : List Value} (h : ∃ c : Ca, xs = callC c) : ∀ u ∈ xs, u.oneCell' = true := by
 obtain ⟨c, rfl⟩ := h
 intro u hu
 simp only [callC, List.mem_cons, List.not_mem_nil, or_false] at hu
 rcases hu with rfl | rfl | rfl | rfl | rfl | rfl | rfl | rfl <;> rfl
theorem news_call (w : World) (c : Ca) : ∀ (j : Nat) (u : Value), (callC c)[j]? = some u → (w.alloc (.cells (callC c).toArray 40)).cell? ((⟨w.heap.size, 0, none⟩ : Addr).add j) = some u := by
 intro j u hu
 rw [Cv.addr_add, Lib.cell_of_heap (heap_alloc_new w _), ← hu]
 simp
theorem Do_roundG (N q : Nat) (O G : Bool) (c : Ca) (hc : (callsG O G)[q]? = some c) (v : Value) (w u : World) (h : StAt none w v (stG N O G q)) (hu : Below w.heap.size w u) :
  Calls Tryz.prog 19 #[v, caV c] u fun e w' => ∃ A k c E l d D i f r0 r1 r2 r3 r4 r5 r6 r7, e = .returned (.tuple #[.agg #[.slice A k c, .slice E l d, .slice D i f], .agg #[.int .i64 r0, .int .i64 r1, .int .i64 r2, .bool r3, .string r4, .slice r5 r6 r7]]) ∧ StAt (some w.heap.size) w' (.agg #[.slice A k c, .slice E l d, .slice D i f]) (stG N O G (q + 1)) ∧ Below u.heap.size u w' ∧ Below w.heap.size w w' := by
 have hp := callsG_path hc
 refine (Do_doc v (stG N O G q) c u (h.below hu) hp.1 hp.2).mono ?_
 rintro e w' ⟨v', rv, rfl, hst, ⟨F, f, f', rfl, _⟩, hb⟩
 rw [← stG_step hc] at hst
 obtain ⟨A, k, c, E, l, d, D, i, g, rfl, _⟩ := hst.at_
 exact ⟨A, k, c, E, l, d, D, i, g, _, _, _, _, _, _, _, _, rfl, hst.lower hu.size, hb, hu.trans (hb.mono hu.size)⟩
set_option maxRecDepth 100000 in
set_option maxHeartbeats 8000000 in
theorem shapeGrows_og (cores : Int) (w : World) (hT : Tab w) :
  Calls Tryz.prog 5 #[.int .i64 cores, .bool true, .bool true] w fun e w' => e = .returned (.bool true) ∧ Below w.heap.size w w' := by
 obtain ⟨c7, hc7, hcc⟩ := Cv.and_i64 cores 7 (by omega)
 rw [show ((7 : Nat) : Int) = 7 from rfl] at hcc
 have hcv2 : IntKind.i64.wrap (1 + (c7 : Int)) = 1 + (c7 : Int) := IntWalk.i64_in _ (by omega)
 obtain ⟨i0, hi, hz0, hz1, hz2⟩ := info_parts infoCallG
 have HT := Lib.hid hT
 clear hT
 go_enter Tryz.func5, Tryz.ntmps5
 go_wp2_with fail
 refine (awake14 w HT.out).mono ?_
 rintro e w1 ⟨rfl, hb1⟩
 have HB1 := Lib.hid hb1
 clear hb1
 go_wp2_with fail
 refine (new_any (1 + c7) (by omega) (by omega) w1).mono ?_
 rintro e w2 ⟨v2, rfl, hst2, hb2⟩
 obtain ⟨A2, n2, c2, E2, m2, d2, D2, k2, e2, rfl, _⟩ := hst2.at_
 have HB2 := Lib.hid (Cv.next HB1.out hb2)
 have HST2 := Lib.hid hst2.weak
 clear hb2 hst2
 obtain ⟨N, hN⟩ : ∃ N, 1 + c7 = N := ⟨_, rfl⟩
 have hN1 : 1 ≤ N := by omega
 have hN8 : N ≤ 8 := by omega
 have hNi : 1 + (c7 : Int) = (N : Int) := by omega
 rw [hN] at HST2
 have HST2' : Hid (StAt none w2 (.agg #[.slice A2 n2 c2, .slice E2 m2 d2, .slice D2 k2 e2]) (stG N true true 0)) := HST2
 obtain ⟨W1, hW1, _, _, _, hal1, hl1⟩ := box_st w2 A2 n2 c2 E2 m2 d2 D2 k2 e2
 have hout1 : OutAt W1 w2.heap.size (.slice A2 n2 c2) (.slice E2 m2 d2) (.slice D2 k2 e2) := by rw [← hW1]; exact heap_alloc_new w2 _
 have hzz1 : W1.heap.size = w2.heap.size + 1 := by rw [← hW1]; simp
 obtain ⟨W, hW⟩ : ∃ X, W1.alloc (.cells #[.int .i64 0, .int .i64 0, .int .i64 0, .int .i64 0, .int .i64 0, .string ⟨#[47, 113]⟩, .string ⟨#[]⟩, .string ⟨#[]⟩] 40) = X := ⟨_, rfl⟩
 have halW : Below W1.heap.size W1 W := by rw [← hW]; exact (Below.refl _ _).alloc (Nat.le_refl _) _
 have hrowW : w2.heap.size + 1 ≤ W.heap.size := by have := halW.size; omega
 have hout : OutAt W w2.heap.size (.slice A2 n2 c2) (.slice E2 m2 d2) (.slice D2 k2 e2) := (halW.block _ hl1).trans hout1
 have hbel : Below w2.heap.size w2 W := hal1.trans (halW.mono hal1.size)
 have hlt : w2.heap.size < W.heap.size := hrowW
 have hown : W.ownsRow (w2.heap.size + 1) 40 8 (.slice (some ⟨w2.heap.size + 1, 0, none⟩) 1 1) 1 (cellsG false false) := by
  rw [← hW, ← hzz1]
  exact World.ownsRow_lit (base := W1.heap.size) (e := 40) (size := 8) W1 (callC (caQ 0)).toArray 1 (by omega) (by unfold maxLen; omega) rfl
 have hhp : W.heap[w2.heap.size + 1]? = some (.cells #[.int .i64 0, .int .i64 0, .int .i64 0, .int .i64 0, .int .i64 0, .string ⟨#[47, 113]⟩, .string ⟨#[]⟩, .string ⟨#[]⟩] 40 (0, 0)) := by rw [← hW, ← hzz1]; exact heap_alloc_new W1 _
 clear hal1 halW hout1
 obtain ⟨W4, hW4⟩ : ∃ X, W.alloc (.cells #[.int .i64 2, .int .i64 0, .int .i64 0, .int .i64 0, .int .i64 0, .string ⟨#[47, 113]⟩, .string ⟨#[]⟩, .string ⟨#[]⟩] 40) = X := ⟨_, rfl⟩
 have hal4 : Below W.heap.size W W4 := by rw [← hW4]; exact (Below.refl _ _).alloc (Nat.le_refl _) _
 have how4 : W4.ownsRow (w2.heap.size + 1) 40 8 (.slice (some ⟨w2.heap.size + 1, 0, none⟩) 1 1) 1 (cellsG false false) := by rw [← hW4]; exact World.ownsRow.alloc hown _
 have hnw4 : ∀ (j : Nat) (u : Value), (callC (caQ 2))[j]? = some u → W4.cell? ((⟨W.heap.size, 0, none⟩ : Addr).add j) = some u := by rw [← hW4]; exact news_call W (caQ 2)
 have hbl4 := hbel.trans (hal4.mono hbel.size)
 have hot4 : OutAt W4 w2.heap.size (.slice A2 n2 c2) (.slice E2 m2 d2) (.slice D2 k2 e2) := (hal4.block _ hlt).trans hout
 have hlt4 : w2.heap.size < W4.heap.size := Nat.lt_of_lt_of_le hlt hal4.size
 go_wp2_with (at_builtin; refine wpList_append_own _ rfl _ _ 41 rfl (w2.heap.size + 1) 40 i0 _ 8 88 Tryz.underlying41 hi hz0 hz1 hz2 rfl (by decide) (.slice (some ⟨w2.heap.size + 1, 0, none⟩) 1 1) 1 (cellsG false false) rfl how4 ⟨W.heap.size, 0, none⟩ 1 1 (callC (caQ 2)) rfl rfl hnw4 (one_cells ⟨_, rfl⟩) (by unfold maxLen; omega) (by omega) (by have := hal4.size; have := hrowW; omega) ?_)
 intro v4 w4 hown hgr4 _
 have hnb4 : ((.slice (some ⟨w2.heap.size + 1, 0, none⟩) 1 1) : Value).ownBlock ≠ some w2.heap.size := fun e => by
  obtain ⟨h1, _⟩ := how4.lt w2.heap.size e
  omega
 have hout : OutAt w4 w2.heap.size (.slice A2 n2 c2) (.slice E2 m2 d2) (.slice D2 k2 e2) := (hgr4.block w2.heap.size hlt4 (fun e => hnb4 e.symm)).trans hot4
 have hbel := hbl4.grown hgr4 (Nat.le_trans hbel.size hal4.size) (fun g hg => Nat.le_of_succ_le (how4.lt g hg).1)
 have hroww4 : w2.heap.size + 1 ≤ w4.heap.size := Nat.le_trans hrowW (Nat.le_trans hal4.size hgr4.size)
 have hlt : w2.heap.size < w4.heap.size := hroww4
 clear hot4 hbl4 hlt4
 obtain ⟨g4, cap4, cur4, rfl, hbg4, hhp4, hcap4⟩ : ∃ g cap cur, v4 = .slice (some ⟨g, 0, none⟩) 2 cap ∧ w2.heap.size + 1 ≤ g ∧ w4.heap[g]? = some (.cells cur 40 (0, 0)) ∧ cur.toList.take (2 * 8) = (cellsG false false) ++ callC (caQ 2) := by
  rcases hown.2 with ⟨_, h0⟩ | ⟨g, cap, cur, hv, hb, hh, _, _, _, ht⟩
  ·cases h0
  ·exact ⟨g, cap, cur, hv, hb, hh, ht⟩
 obtain ⟨W5, hW5⟩ : ∃ X, w4.alloc (.cells #[.int .i64 9, .int .i64 0, .int .i64 0, .int .i64 0, .int .i64 0, .string ⟨#[47, 113]⟩, .string ⟨#[]⟩, .string ⟨#[]⟩] 40) = X := ⟨_, rfl⟩
 have hal5 : Below w4.heap.size w4 W5 := by rw [← hW5]; exact (Below.refl _ _).alloc (Nat.le_refl _) _
 have how5 : W5.ownsRow (w2.heap.size + 1) 40 8 (.slice (some ⟨g4, 0, none⟩) 2 cap4) 2 ((cellsG false false) ++ callC (caQ 2)) := by rw [← hW5]; exact World.ownsRow.alloc hown _
 have hnw5 : ∀ (j : Nat) (u : Value), (callC (caQ 9))[j]? = some u → W5.cell? ((⟨w4.heap.size, 0, none⟩ : Addr).add j) = some u := by rw [← hW5]; exact news_call w4 (caQ 9)
 have hbl5 := hbel.trans (hal5.mono hbel.size)
 have hot5 : OutAt W5 w2.heap.size (.slice A2 n2 c2) (.slice E2 m2 d2) (.slice D2 k2 e2) := (hal5.block _ hlt).trans hout
 have hlt5 : w2.heap.size < W5.heap.size := Nat.lt_of_lt_of_le hlt hal5.size
 go_wp2_with (at_builtin; refine wpList_append_own _ rfl _ _ 41 rfl (w2.heap.size + 1) 40 i0 _ 8 88 Tryz.underlying41 hi hz0 hz1 hz2 rfl (by decide) (.slice (some ⟨g4, 0, none⟩) 2 cap4) 2 ((cellsG false false) ++ callC (caQ 2)) rfl how5 ⟨w4.heap.size, 0, none⟩ 1 1 (callC (caQ 9)) rfl rfl hnw5 (one_cells ⟨_, rfl⟩) (by unfold maxLen; omega) (by omega) (by have := hal5.size; have := hroww4; omega) ?_)
 intro v5 w5 hown hgr5 _
 have hnb5 : ((.slice (some ⟨g4, 0, none⟩) 2 cap4) : Value).ownBlock ≠ some w2.heap.size := fun e => by
  obtain ⟨h1, _⟩ := how5.lt w2.heap.size e
  omega
 have hout : OutAt w5 w2.heap.size (.slice A2 n2 c2) (.slice E2 m2 d2) (.slice D2 k2 e2) := (hgr5.block w2.heap.size hlt5 (fun e => hnb5 e.symm)).trans hot5
 have hbel := hbl5.grown hgr5 (Nat.le_trans hbel.size hal5.size) (fun g hg => Nat.le_of_succ_le (how5.lt g hg).1)
 have hroww5 : w2.heap.size + 1 ≤ w5.heap.size := Nat.le_trans hroww4 (Nat.le_trans hal5.size hgr5.size)
 have hlt : w2.heap.size < w5.heap.size := hroww5
 clear hot5 hbl5 hlt5
 obtain ⟨g5, cap5, cur5, rfl, hbg5, hhp5, hcap5⟩ : ∃ g cap cur, v5 = .slice (some ⟨g, 0, none⟩) 3 cap ∧ w2.heap.size + 1 ≤ g ∧ w5.heap[g]? = some (.cells cur 40 (0, 0)) ∧ cur.toList.take (3 * 8) = ((cellsG false false) ++ callC (caQ 2)) ++ callC (caQ 9) := by
  rcases hown.2 with ⟨_, h0⟩ | ⟨g, cap, cur, hv, hb, hh, _, _, _, ht⟩
  ·cases h0
  ·exact ⟨g, cap, cur, hv, hb, hh, ht⟩
 obtain ⟨gb, hgb⟩ : ∃ gb, gb = g5 := ⟨_, rfl⟩
 obtain ⟨cur, hcl0, htk0, hng⟩ : ∃ cur, CallsB w5 gb cur ∧ cur.toList.take (3 * 8) = cellsG true true ∧ w2.heap.size ≠ gb := by
  rw [hgb]
  exact ⟨_, hhp5, hcap5, by omega⟩
 have HNG := Lib.hid (Ne.symm hng)
 have HTK := Lib.hid htk0
 have HCL0 := Lib.hid hcl0
 have HOUT0 := Lib.hid hout
 have HBEL0 := Lib.hid hbel
 have hlen3 : (callsG true true).length = 3 := rfl
 clear hcl0 htk0 hout hbel hown hhp5 
 rw [← hgb]
 clear hgb
 go_wp2_with fail
 go_loopw [11] (fun j wr => ∃ (q : Nat) (v : Value), j = .int .i64 q ∧ q ≤ 3 ∧ StAt none wr v (stG N true true q) ∧ CallsB wr gb cur ∧ (∃ A k c E l d D i f, v = .agg #[.slice A k c, .slice E l d, .slice D i f] ∧ OutAt wr w2.heap.size (.slice A k c) (.slice E l d) (.slice D i f)) ∧ Below w2.heap.size w2 wr) (fun j _ => 3 - (intOf j).toNat)
 case atStart => exact ⟨0, _, rfl, by omega, HST2'.out.below HBEL0.out, HCL0.out, ⟨A2, n2, c2, E2, m2, d2, D2, k2, e2, rfl, HOUT0.out⟩, HBEL0.out⟩
 case round =>
  obtain ⟨q, v, rfl, hq, hst, hcl, ⟨A, k9, c, E, l, d, D, i9, f9, rfl, hout⟩, hbel⟩ := hrel
  have HB := Lib.hid hbel
  have HST := Lib.hid hst
  have HOUT := Lib.hid hout
  have HCL := Lib.hid hcl
  have hsz := hbel.size
  have hl6 : w2.heap.size < wr.heap.size := (Array.getElem?_eq_some_iff.1 hout).1
  have hl7 : gb < wr.heap.size := (Array.getElem?_eq_some_iff.1 hcl).1
  obtain ⟨s0, s1, s2, sf⟩ := hout.get
  by_cases hlt9 : q < 3
  ·obtain ⟨cq, hcq⟩ : ∃ cq, (callsG true true)[q]? = some cq := ⟨_, List.getElem?_eq_getElem (by rw [hlen3]; exact hlt9)⟩
   obtain ⟨k0, k1, k2, k3, k4, k5, k6, k7⟩ := hcl.get hlen3.symm HTK.out q cq hcq
   have q0 : (0 : Int) ≤ (q : Int) := by omega
   have q1 : (q : Int) < 3 := by omega
   have HC := Lib.hid (fun u => Do_roundG N q true true cq hcq _ wr u hst)
   clear hbel hst hout hcl sf hcq
   go_upto_region 13 with fail
   go_cut [12] (fun p wx => ∃ b A k c E l d D i f, p = .pointer (some ⟨b, 0, .none⟩) ∧ OutAt wx b (.slice A k c) (.slice E l d) (.slice D i f) ∧ StAt (some wr.heap.size) wx (.agg #[.slice A k c, .slice E l d, .slice D i f]) (stG N true true (q + 1)) ∧ Below wr.heap.size wr wx ∧ wr.heap.size ≤ b)
   case first =>
    have q2 : (q : Int).toNat = q := by omega
    have z1 : wr.heap.size ≠ w2.heap.size := by omega
    have z2 : wr.heap.size ≠ gb := by omega
    have z3 : wr.heap.size + 1 ≠ w2.heap.size := by omega
    have z4 : wr.heap.size + 1 ≠ gb := by omega
    go_region_held3 (fun w' => w'.cell? ⟨w2.heap.size, 0, none⟩ = some (.slice A k9 c) ∧ w'.cell? ⟨w2.heap.size, 1, none⟩ = some (.slice E l d) ∧ w'.cell? ⟨w2.heap.size, 2, none⟩ = some (.slice D i9 f9) ∧
     w'.cell? ⟨gb, q * 8, none⟩ = some (.int .i64 (cq).kind) ∧ w'.cell? ⟨gb, q * 8 + 1, none⟩ = some (.int .i64 (cq).core) ∧ w'.cell? ⟨gb, q * 8 + 2, none⟩ = some (.int .i64 (cq).fd) ∧ w'.cell? ⟨gb, q * 8 + 3, none⟩ = some (.int .i64 (cq).off) ∧
     w'.cell? ⟨gb, q * 8 + 4, none⟩ = some (.int .i64 (cq).num) ∧ w'.cell? ⟨gb, q * 8 + 5, none⟩ = some (.string (cq).path) ∧ w'.cell? ⟨gb, q * 8 + 6, none⟩ = some (.string (cq).path2) ∧ w'.cell? ⟨gb, q * 8 + 7, none⟩ = some (.string (cq).data))
     (first | go_keep | (trace_state; fail))
     ((go_at_call 19; refine (HC.out _ (by first | exact Cv.drewN_below (Below.refl _ _) 1 | exact (Cv.drewN_below (Below.refl _ _) 1).alloc (by simp) _ | exact ((Cv.drewN_below (Below.refl _ _) 1).alloc (by simp) _).alloc (by simp) _)).mono ?_; rintro e5 w5 ⟨A5, n5, c5, E5, m5, d5, D5, i5, f5, z0, z1', z2', z3', z4', z5', z6', z7', rfl, hst5, hb5, hbw5⟩; have g0 := (hbw5.cell (p := ⟨w2.heap.size, 0, none⟩) hl6).trans s0; have g1 := (hbw5.cell (p := ⟨w2.heap.size, 1, none⟩) hl6).trans s1; have g2 := (hbw5.cell (p := ⟨w2.heap.size, 2, none⟩) hl6).trans s2; have j0 := (hbw5.cell (p := ⟨gb, q * 8, none⟩) hl7).trans k0; have j1 := (hbw5.cell (p := ⟨gb, q * 8 + 1, none⟩) hl7).trans k1; have j2 := (hbw5.cell (p := ⟨gb, q * 8 + 2, none⟩) hl7).trans k2; have j3 := (hbw5.cell (p := ⟨gb, q * 8 + 3, none⟩) hl7).trans k3; have j4 := (hbw5.cell (p := ⟨gb, q * 8 + 4, none⟩) hl7).trans k4; have j5 := (hbw5.cell (p := ⟨gb, q * 8 + 5, none⟩) hl7).trans k5; have j6 := (hbw5.cell (p := ⟨gb, q * 8 + 6, none⟩) hl7).trans k6; have j7 := (hbw5.cell (p := ⟨gb, q * 8 + 7, none⟩) hl7).trans k7; (first | (have am := row_kept hb5 (al2a wr (.cells #[.slice none 0 0, .slice none 0 0, .slice none 0 0] 26) (.cells #[.int .i64 0, .int .i64 0, .int .i64 0, .bool false, .string ⟨#[]⟩, .slice none 0 0] 44)); have an := row_kept hb5 (al2b wr (.cells #[.slice none 0 0, .slice none 0 0, .slice none 0 0] 26) (.cells #[.int .i64 0, .int .i64 0, .int .i64 0, .bool false, .string ⟨#[]⟩, .slice none 0 0] 44)); obtain ⟨m0, m1, m2', mf⟩ := OutAt.get am; obtain ⟨n0', n1', n2', n3', n4', n5', nf⟩ := ResAt.get an; have lm := (Array.getElem?_eq_some_iff.1 am).1; have ln := (Array.getElem?_eq_some_iff.1 an).1; have nm : w5.heap.size ≠ wr.heap.size := Nat.ne_of_gt lm; have HAM := Lib.hid am; have nm' := Ne.symm nm; have y1 : w5.heap.size ≠ w2.heap.size := (by omega); have y2 : w5.heap.size ≠ w2.heap.size + 1 := (by omega); have nn : w5.heap.size ≠ wr.heap.size + 1 := Nat.ne_of_gt ln; have nn' := Ne.symm nn; have HAN := Lib.hid an; clear am an) | (have am := row_kept hb5 (al2a wr (.cells #[.int .i64 0, .int .i64 0, .int .i64 0, .bool false, .string ⟨#[]⟩, .slice none 0 0] 44) (.cells #[.slice none 0 0, .slice none 0 0, .slice none 0 0] 26)); have an := row_kept hb5 (al2b wr (.cells #[.int .i64 0, .int .i64 0, .int .i64 0, .bool false, .string ⟨#[]⟩, .slice none 0 0] 44) (.cells #[.slice none 0 0, .slice none 0 0, .slice none 0 0] 26)); obtain ⟨m0, m1, m2', mf⟩ := OutAt.get an; obtain ⟨n0', n1', n2', n3', n4', n5', nf⟩ := ResAt.get am; have lm := (Array.getElem?_eq_some_iff.1 am).1; have ln := (Array.getElem?_eq_some_iff.1 an).1; have nm : w5.heap.size ≠ wr.heap.size := Nat.ne_of_gt lm; have HAM := Lib.hid am; have nm' := Ne.symm nm; have y1 : w5.heap.size ≠ w2.heap.size := (by omega); have y2 : w5.heap.size ≠ w2.heap.size + 1 := (by omega); have nn : w5.heap.size ≠ wr.heap.size + 1 := Nat.ne_of_gt ln; have nn' := Ne.symm nn; have HAN := Lib.hid an; clear am an) | (have am := row_kept hb5 (al1 wr (.cells #[.slice none 0 0, .slice none 0 0, .slice none 0 0] 26)); obtain ⟨m0, m1, m2', mf⟩ := OutAt.get am; have lm := (Array.getElem?_eq_some_iff.1 am).1; have nm : w5.heap.size ≠ wr.heap.size := Nat.ne_of_gt lm; have HAM := Lib.hid am; have nm' := Ne.symm nm; have y1 : w5.heap.size ≠ w2.heap.size := (by omega); have y2 : w5.heap.size ≠ w2.heap.size + 1 := (by omega); clear am) | (have am := row_kept hb5 (al1 wr (.cells #[.int .i64 0, .int .i64 0, .int .i64 0, .bool false, .string ⟨#[]⟩, .slice none 0 0] 44)); obtain ⟨m0, m1, m2', m3, m4, m5', mf⟩ := ResAt.get am; have lm := (Array.getElem?_eq_some_iff.1 am).1; have nm : w5.heap.size ≠ wr.heap.size := Nat.ne_of_gt lm; have HAM := Lib.hid am; have nm' := Ne.symm nm; have y1 : w5.heap.size ≠ w2.heap.size := (by omega); have y2 : w5.heap.size ≠ w2.heap.size + 1 := (by omega); clear am) | skip)))
    all_goals (
     go_wp2_with fail
     go_meet
     clear HB HST HC HCL HOUT HST2 HB2
     first
      | with_reducible exact ⟨_, A5, n5, c5, E5, m5, d5, D5, i5, f5, rfl, round1 hst5 hbw5⟩
      | with_reducible exact ⟨_, A5, n5, c5, E5, m5, d5, D5, i5, f5, rfl, round2 hst5 hbw5⟩
      | with_reducible exact ⟨_, A5, n5, c5, E5, m5, d5, D5, i5, f5, rfl, round3 hst5 hbw5 HAM.out⟩
      | with_reducible exact ⟨_, A5, n5, c5, E5, m5, d5, D5, i5, f5, rfl, round5 hst5 hbw5 HAM.out⟩
      | with_reducible exact ⟨_, A5, n5, c5, E5, m5, d5, D5, i5, f5, rfl, round4 hst5 hbw5 HAM.out HAN.out⟩
      | with_reducible exact ⟨_, A5, n5, c5, E5, m5, d5, D5, i5, f5, rfl, round6 hst5 hbw5 HAM.out HAN.out⟩)
   case rest =>
    obtain ⟨b, A5, n5, c5, E5, m5, d5, D5, i5, f5, rfl, ho5, hst5, hb5, hle⟩ := hcut
    have hrow : OutAt wc w2.heap.size _ _ _ := (hb5.block w2.heap.size hl6).trans HOUT.out
    have hcl5 : CallsB wc gb cur := (hb5.block gb hl7).trans HCL.out
    obtain ⟨s0', s1', s2', sf'⟩ := hrow.get
    obtain ⟨y0, y1, y2, _⟩ := ho5.get
    have hne : b ≠ w2.heap.size := by omega
    have hne' := Ne.symm hne
    have HR := Lib.hid hrow
    have HST5 := Lib.hid hst5
    have HB5 := Lib.hid (HB.out.trans (hb5.mono hsz))
    have HCL5 := Lib.hid hcl5
    clear hrow hst5 hb5 hcl5 ho5 s0 s1 s2
    go_wp2_with fail
    go_roundw
    case rel =>
     refine ⟨q + 1, _, by go_num, by omega, ((HST5.out.set3 HR.out _ _ _).weak), row_far3 HCL5.out HNG.out _ _ _, ⟨A5, n5, c5, E5, m5, d5, D5, i5, f5, rfl, row_three HR.out _ _ _⟩, below_set3 HB5.out (Nat.le_refl _) _ _ _⟩
    case measure => simp [intOf]; omega
  ·have e3 : q = 3 := by omega
   subst e3
   obtain ⟨hx1, hx2, hx3⟩ := grows_text N hN1 hN8 true true
   rw [hlen3] at hx1 hx2 hx3
   have HTX := Lib.hid hx1
   have HTF := Lib.hid (congrArg txt hx2)
   have HTC := Lib.hid hx3
   clear hbel hst hout hcl sf hx1 hx2 hx3
   obtain ⟨FB, hFB⟩ : ∃ F, txt (filG true) = F := ⟨_, rfl⟩
   have HFB := Lib.hid hFB
   clear hFB
   go_wp2_with fail
   go_loop [14, 16] (fun t i => ∃ (q : Nat) (X : ByteArray), i = .int .i64 q ∧ 1 ≤ q ∧ q ≤ N ∧ t = .string X ∧ X.data.toList = preG true true ++ zerG (q - 1)) (fun _ i => N - (intOf i).toNat)
   case atStart => exact ⟨1, _, rfl, by omega, by omega, rfl, by decide⟩
   case round =>
    obtain ⟨q, X, rfl, hq1, hqN, rfl, hX⟩ := hrel
    have hX6 : X.size = (preG true true).length + 2 * (q - 1) := by
     have : X.size = X.data.toList.length := by rw [Array.length_toList]; rfl
     rw [this, hX, List.length_append, zerG_len]
    have hpl : (preG true true).length = 23 := rfl
    rw [hpl] at hX6
    have x2 : ¬ 9223372036854775807 < X.size + 2 := by omega
    have x1 : ¬ 9223372036854775807 < X.size + 1 := by omega
    clear hpl
    have HX := Lib.hid hX
    have HX6 := Lib.hid hX6
    clear hX hX6
    by_cases hqn : q < N
    ·go_wp2_with fail
     go_round
     case rel =>
      refine ⟨q + 1, _, by go_num, by omega, by omega, rfl, ?_⟩
      have hz : q + 1 - 1 = (q - 1) + 1 := by omega
      rw [hz, zerG, ByteArray.data_append, Array.toList_append, HX.out, List.append_assoc]
     case measure => simp [intOf]; omega
    ·have hqe : q = N := by omega
     subst hqe
     have hx9 : txt (ofO (stG q true true 3)) = X ++ ⟨#[10]⟩ := by
      refine ByteArray.ext (Array.toList_inj.1 ?_)
      rw [txt_listSh, HTX.out, ByteArray.data_append, Array.toList_append, HX.out]
     have HX9 := Lib.hid hx9
     clear hx9
     go_wp2_with fail
     have h1 := shof_any _ _ wr HST.out (HT.out.below (Cv.next HB2.out HB.out))
     rw [HX9.out, HTC.out] at h1
     refine h1.mono ?_
     clear h1
     rintro e w6 ⟨rfl, hb6⟩
     have HST6 := Lib.hid (HST.out.below hb6)
     have HB6 := Lib.hid (Cv.next (Cv.next HB2.out HB.out) hb6)
     have p0 := (hb6.cell (p := ⟨w2.heap.size, 0, none⟩) hl6).trans s0
     have p1 := (hb6.cell (p := ⟨w2.heap.size, 1, none⟩) hl6).trans s1
     have p2 := (hb6.cell (p := ⟨w2.heap.size, 2, none⟩) hl6).trans s2
     clear hb6
     go_wp2_with fail
     have h1 := shfiles_any _ _ w6 HST6.out (HT.out.below HB6.out)
     rw [HTF.out, HFB.out, HTC.out] at h1
     refine h1.mono ?_
     clear h1
     rintro e w7 ⟨rfl, hb7⟩
     have HB7 := Lib.hid (Cv.next HB6.out hb7)
     clear hb7
     go_wp2_with fail
     refine (num14 _ _).mono ?_
     rintro e w7' ⟨rfl, rfl⟩
     go_wp2_with fail
     refine (num14 _ _).mono ?_
     rintro e w7' ⟨rfl, rfl⟩
     go_wp2_with fail
     go_ret
     have hfb : FB.toList = filG true := by rw [← HFB.out, ByteArray.toList_eq, txt_listSh]
     refine ⟨?_, HB7.out⟩
     rw [hfb]
     first | rfl | (rw [ByteArray.toList_eq, ByteArray.data_append, Array.toList_append]; rfl)
set_option maxRecDepth 100000 in
set_option maxHeartbeats 8000000 in
theorem shapeGrows_o (cores : Int) (w : World) (hT : Tab w) :
  Calls Tryz.prog 5 #[.int .i64 cores, .bool true, .bool false] w fun e w' => e = .returned (.bool true) ∧ Below w.heap.size w w' := by
 obtain ⟨c7, hc7, hcc⟩ := Cv.and_i64 cores 7 (by omega)
 rw [show ((7 : Nat) : Int) = 7 from rfl] at hcc
 have hcv2 : IntKind.i64.wrap (1 + (c7 : Int)) = 1 + (c7 : Int) := IntWalk.i64_in _ (by omega)
 obtain ⟨i0, hi, hz0, hz1, hz2⟩ := info_parts infoCallG
 have HT := Lib.hid hT
 clear hT
 go_enter Tryz.func5, Tryz.ntmps5
 go_wp2_with fail
 refine (awake14 w HT.out).mono ?_
 rintro e w1 ⟨rfl, hb1⟩
 have HB1 := Lib.hid hb1
 clear hb1
 go_wp2_with fail
 refine (new_any (1 + c7) (by omega) (by omega) w1).mono ?_
 rintro e w2 ⟨v2, rfl, hst2, hb2⟩
 obtain ⟨A2, n2, c2, E2, m2, d2, D2, k2, e2, rfl, _⟩ := hst2.at_
 have HB2 := Lib.hid (Cv.next HB1.out hb2)
 have HST2 := Lib.hid hst2.weak
 clear hb2 hst2
 obtain ⟨N, hN⟩ : ∃ N, 1 + c7 = N := ⟨_, rfl⟩
 have hN1 : 1 ≤ N := by omega
 have hN8 : N ≤ 8 := by omega
 have hNi : 1 + (c7 : Int) = (N : Int) := by omega
 rw [hN] at HST2
 have HST2' : Hid (StAt none w2 (.agg #[.slice A2 n2 c2, .slice E2 m2 d2, .slice D2 k2 e2]) (stG N true false 0)) := HST2
 obtain ⟨W1, hW1, _, _, _, hal1, hl1⟩ := box_st w2 A2 n2 c2 E2 m2 d2 D2 k2 e2
 have hout1 : OutAt W1 w2.heap.size (.slice A2 n2 c2) (.slice E2 m2 d2) (.slice D2 k2 e2) := by rw [← hW1]; exact heap_alloc_new w2 _
 have hzz1 : W1.heap.size = w2.heap.size + 1 := by rw [← hW1]; simp
 obtain ⟨W, hW⟩ : ∃ X, W1.alloc (.cells #[.int .i64 0, .int .i64 0, .int .i64 0, .int .i64 0, .int .i64 0, .string ⟨#[47, 113]⟩, .string ⟨#[]⟩, .string ⟨#[]⟩] 40) = X := ⟨_, rfl⟩
 have halW : Below W1.heap.size W1 W := by rw [← hW]; exact (Below.refl _ _).alloc (Nat.le_refl _) _
 have hrowW : w2.heap.size + 1 ≤ W.heap.size := by have := halW.size; omega
 have hout : OutAt W w2.heap.size (.slice A2 n2 c2) (.slice E2 m2 d2) (.slice D2 k2 e2) := (halW.block _ hl1).trans hout1
 have hbel : Below w2.heap.size w2 W := hal1.trans (halW.mono hal1.size)
 have hlt : w2.heap.size < W.heap.size := hrowW
 have hown : W.ownsRow (w2.heap.size + 1) 40 8 (.slice (some ⟨w2.heap.size + 1, 0, none⟩) 1 1) 1 (cellsG false false) := by
  rw [← hW, ← hzz1]
  exact World.ownsRow_lit (base := W1.heap.size) (e := 40) (size := 8) W1 (callC (caQ 0)).toArray 1 (by omega) (by unfold maxLen; omega) rfl
 have hhp : W.heap[w2.heap.size + 1]? = some (.cells #[.int .i64 0, .int .i64 0, .int .i64 0, .int .i64 0, .int .i64 0, .string ⟨#[47, 113]⟩, .string ⟨#[]⟩, .string ⟨#[]⟩] 40 (0, 0)) := by rw [← hW, ← hzz1]; exact heap_alloc_new W1 _
 clear hal1 halW hout1
 obtain ⟨W4, hW4⟩ : ∃ X, W.alloc (.cells #[.int .i64 2, .int .i64 0, .int .i64 0, .int .i64 0, .int .i64 0, .string ⟨#[47, 113]⟩, .string ⟨#[]⟩, .string ⟨#[]⟩] 40) = X := ⟨_, rfl⟩
 have hal4 : Below W.heap.size W W4 := by rw [← hW4]; exact (Below.refl _ _).alloc (Nat.le_refl _) _
 have how4 : W4.ownsRow (w2.heap.size + 1) 40 8 (.slice (some ⟨w2.heap.size + 1, 0, none⟩) 1 1) 1 (cellsG false false) := by rw [← hW4]; exact World.ownsRow.alloc hown _
 have hnw4 : ∀ (j : Nat) (u : Value), (callC (caQ 2))[j]? = some u → W4.cell? ((⟨W.heap.size, 0, none⟩ : Addr).add j) = some u := by rw [← hW4]; exact news_call W (caQ 2)
 have hbl4 := hbel.trans (hal4.mono hbel.size)
 have hot4 : OutAt W4 w2.heap.size (.slice A2 n2 c2) (.slice E2 m2 d2) (.slice D2 k2 e2) := (hal4.block _ hlt).trans hout
 have hlt4 : w2.heap.size < W4.heap.size := Nat.lt_of_lt_of_le hlt hal4.size
 go_wp2_with (at_builtin; refine wpList_append_own _ rfl _ _ 41 rfl (w2.heap.size + 1) 40 i0 _ 8 88 Tryz.underlying41 hi hz0 hz1 hz2 rfl (by decide) (.slice (some ⟨w2.heap.size + 1, 0, none⟩) 1 1) 1 (cellsG false false) rfl how4 ⟨W.heap.size, 0, none⟩ 1 1 (callC (caQ 2)) rfl rfl hnw4 (one_cells ⟨_, rfl⟩) (by unfold maxLen; omega) (by omega) (by have := hal4.size; have := hrowW; omega) ?_)
 intro v4 w4 hown hgr4 _
 have hnb4 : ((.slice (some ⟨w2.heap.size + 1, 0, none⟩) 1 1) : Value).ownBlock ≠ some w2.heap.size := fun e => by
  obtain ⟨h1, _⟩ := how4.lt w2.heap.size e
  omega
 have hout : OutAt w4 w2.heap.size (.slice A2 n2 c2) (.slice E2 m2 d2) (.slice D2 k2 e2) := (hgr4.block w2.heap.size hlt4 (fun e => hnb4 e.symm)).trans hot4
 have hbel := hbl4.grown hgr4 (Nat.le_trans hbel.size hal4.size) (fun g hg => Nat.le_of_succ_le (how4.lt g hg).1)
 have hroww4 : w2.heap.size + 1 ≤ w4.heap.size := Nat.le_trans hrowW (Nat.le_trans hal4.size hgr4.size)
 have hlt : w2.heap.size < w4.heap.size := hroww4
 clear hot4 hbl4 hlt4
 obtain ⟨g4, cap4, cur4, rfl, hbg4, hhp4, hcap4⟩ : ∃ g cap cur, v4 = .slice (some ⟨g, 0, none⟩) 2 cap ∧ w2.heap.size + 1 ≤ g ∧ w4.heap[g]? = some (.cells cur 40 (0, 0)) ∧ cur.toList.take (2 * 8) = (cellsG false false) ++ callC (caQ 2) := by
  rcases hown.2 with ⟨_, h0⟩ | ⟨g, cap, cur, hv, hb, hh, _, _, _, ht⟩
  ·cases h0
  ·exact ⟨g, cap, cur, hv, hb, hh, ht⟩
 obtain ⟨gb, hgb⟩ : ∃ gb, gb = g4 := ⟨_, rfl⟩
 obtain ⟨cur, hcl0, htk0, hng⟩ : ∃ cur, CallsB w4 gb cur ∧ cur.toList.take (2 * 8) = cellsG true false ∧ w2.heap.size ≠ gb := by
  rw [hgb]
  exact ⟨_, hhp4, hcap4, by omega⟩
 have HNG := Lib.hid (Ne.symm hng)
 have HTK := Lib.hid htk0
 have HCL0 := Lib.hid hcl0
 have HOUT0 := Lib.hid hout
 have HBEL0 := Lib.hid hbel
 have hlen3 : (callsG true false).length = 2 := rfl
 clear hcl0 htk0 hout hbel hown hhp4 
 rw [← hgb]
 clear hgb
 go_wp2_with fail
 go_loopw [11] (fun j wr => ∃ (q : Nat) (v : Value), j = .int .i64 q ∧ q ≤ 2 ∧ StAt none wr v (stG N true false q) ∧ CallsB wr gb cur ∧ (∃ A k c E l d D i f, v = .agg #[.slice A k c, .slice E l d, .slice D i f] ∧ OutAt wr w2.heap.size (.slice A k c) (.slice E l d) (.slice D i f)) ∧ Below w2.heap.size w2 wr) (fun j _ => 2 - (intOf j).toNat)
 case atStart => exact ⟨0, _, rfl, by omega, HST2'.out.below HBEL0.out, HCL0.out, ⟨A2, n2, c2, E2, m2, d2, D2, k2, e2, rfl, HOUT0.out⟩, HBEL0.out⟩
 case round =>
  obtain ⟨q, v, rfl, hq, hst, hcl, ⟨A, k9, c, E, l, d, D, i9, f9, rfl, hout⟩, hbel⟩ := hrel
  have HB := Lib.hid hbel
  have HST := Lib.hid hst
  have HOUT := Lib.hid hout
  have HCL := Lib.hid hcl
  have hsz := hbel.size
  have hl6 : w2.heap.size < wr.heap.size := (Array.getElem?_eq_some_iff.1 hout).1
  have hl7 : gb < wr.heap.size := (Array.getElem?_eq_some_iff.1 hcl).1
  obtain ⟨s0, s1, s2, sf⟩ := hout.get
  by_cases hlt9 : q < 2
  ·obtain ⟨cq, hcq⟩ : ∃ cq, (callsG true false)[q]? = some cq := ⟨_, List.getElem?_eq_getElem (by rw [hlen3]; exact hlt9)⟩
   obtain ⟨k0, k1, k2, k3, k4, k5, k6, k7⟩ := hcl.get hlen3.symm HTK.out q cq hcq
   have q0 : (0 : Int) ≤ (q : Int) := by omega
   have q1 : (q : Int) < 2 := by omega
   have HC := Lib.hid (fun u => Do_roundG N q true false cq hcq _ wr u hst)
   clear hbel hst hout hcl sf hcq
   go_upto_region 13 with fail
   go_cut [12] (fun p wx => ∃ b A k c E l d D i f, p = .pointer (some ⟨b, 0, .none⟩) ∧ OutAt wx b (.slice A k c) (.slice E l d) (.slice D i f) ∧ StAt (some wr.heap.size) wx (.agg #[.slice A k c, .slice E l d, .slice D i f]) (stG N true false (q + 1)) ∧ Below wr.heap.size wr wx ∧ wr.heap.size ≤ b)
   case first =>
    have q2 : (q : Int).toNat = q := by omega
    have z1 : wr.heap.size ≠ w2.heap.size := by omega
    have z2 : wr.heap.size ≠ gb := by omega
    have z3 : wr.heap.size + 1 ≠ w2.heap.size := by omega
    have z4 : wr.heap.size + 1 ≠ gb := by omega
    go_region_held3 (fun w' => w'.cell? ⟨w2.heap.size, 0, none⟩ = some (.slice A k9 c) ∧ w'.cell? ⟨w2.heap.size, 1, none⟩ = some (.slice E l d) ∧ w'.cell? ⟨w2.heap.size, 2, none⟩ = some (.slice D i9 f9) ∧
     w'.cell? ⟨gb, q * 8, none⟩ = some (.int .i64 (cq).kind) ∧ w'.cell? ⟨gb, q * 8 + 1, none⟩ = some (.int .i64 (cq).core) ∧ w'.cell? ⟨gb, q * 8 + 2, none⟩ = some (.int .i64 (cq).fd) ∧ w'.cell? ⟨gb, q * 8 + 3, none⟩ = some (.int .i64 (cq).off) ∧
     w'.cell? ⟨gb, q * 8 + 4, none⟩ = some (.int .i64 (cq).num) ∧ w'.cell? ⟨gb, q * 8 + 5, none⟩ = some (.string (cq).path) ∧ w'.cell? ⟨gb, q * 8 + 6, none⟩ = some (.string (cq).path2) ∧ w'.cell? ⟨gb, q * 8 + 7, none⟩ = some (.string (cq).data))
     (first | go_keep | (trace_state; fail))
     ((go_at_call 19; refine (HC.out _ (by first | exact Cv.drewN_below (Below.refl _ _) 1 | exact (Cv.drewN_below (Below.refl _ _) 1).alloc (by simp) _ | exact ((Cv.drewN_below (Below.refl _ _) 1).alloc (by simp) _).alloc (by simp) _)).mono ?_; rintro e5 w5 ⟨A5, n5, c5, E5, m5, d5, D5, i5, f5, z0, z1', z2', z3', z4', z5', z6', z7', rfl, hst5, hb5, hbw5⟩; have g0 := (hbw5.cell (p := ⟨w2.heap.size, 0, none⟩) hl6).trans s0; have g1 := (hbw5.cell (p := ⟨w2.heap.size, 1, none⟩) hl6).trans s1; have g2 := (hbw5.cell (p := ⟨w2.heap.size, 2, none⟩) hl6).trans s2; have j0 := (hbw5.cell (p := ⟨gb, q * 8, none⟩) hl7).trans k0; have j1 := (hbw5.cell (p := ⟨gb, q * 8 + 1, none⟩) hl7).trans k1; have j2 := (hbw5.cell (p := ⟨gb, q * 8 + 2, none⟩) hl7).trans k2; have j3 := (hbw5.cell (p := ⟨gb, q * 8 + 3, none⟩) hl7).trans k3; have j4 := (hbw5.cell (p := ⟨gb, q * 8 + 4, none⟩) hl7).trans k4; have j5 := (hbw5.cell (p := ⟨gb, q * 8 + 5, none⟩) hl7).trans k5; have j6 := (hbw5.cell (p := ⟨gb, q * 8 + 6, none⟩) hl7).trans k6; have j7 := (hbw5.cell (p := ⟨gb, q * 8 + 7, none⟩) hl7).trans k7; (first | (have am := row_kept hb5 (al2a wr (.cells #[.slice none 0 0, .slice none 0 0, .slice none 0 0] 26) (.cells #[.int .i64 0, .int .i64 0, .int .i64 0, .bool false, .string ⟨#[]⟩, .slice none 0 0] 44)); have an := row_kept hb5 (al2b wr (.cells #[.slice none 0 0, .slice none 0 0, .slice none 0 0] 26) (.cells #[.int .i64 0, .int .i64 0, .int .i64 0, .bool false, .string ⟨#[]⟩, .slice none 0 0] 44)); obtain ⟨m0, m1, m2', mf⟩ := OutAt.get am; obtain ⟨n0', n1', n2', n3', n4', n5', nf⟩ := ResAt.get an; have lm := (Array.getElem?_eq_some_iff.1 am).1; have ln := (Array.getElem?_eq_some_iff.1 an).1; have nm : w5.heap.size ≠ wr.heap.size := Nat.ne_of_gt lm; have HAM := Lib.hid am; have nm' := Ne.symm nm; have y1 : w5.heap.size ≠ w2.heap.size := (by omega); have y2 : w5.heap.size ≠ w2.heap.size + 1 := (by omega); have nn : w5.heap.size ≠ wr.heap.size + 1 := Nat.ne_of_gt ln; have nn' := Ne.symm nn; have HAN := Lib.hid an; clear am an) | (have am := row_kept hb5 (al2a wr (.cells #[.int .i64 0, .int .i64 0, .int .i64 0, .bool false, .string ⟨#[]⟩, .slice none 0 0] 44) (.cells #[.slice none 0 0, .slice none 0 0, .slice none 0 0] 26)); have an := row_kept hb5 (al2b wr (.cells #[.int .i64 0, .int .i64 0, .int .i64 0, .bool false, .string ⟨#[]⟩, .slice none 0 0] 44) (.cells #[.slice none 0 0, .slice none 0 0, .slice none 0 0] 26)); obtain ⟨m0, m1, m2', mf⟩ := OutAt.get an; obtain ⟨n0', n1', n2', n3', n4', n5', nf⟩ := ResAt.get am; have lm := (Array.getElem?_eq_some_iff.1 am).1; have ln := (Array.getElem?_eq_some_iff.1 an).1; have nm : w5.heap.size ≠ wr.heap.size := Nat.ne_of_gt lm; have HAM := Lib.hid am; have nm' := Ne.symm nm; have y1 : w5.heap.size ≠ w2.heap.size := (by omega); have y2 : w5.heap.size ≠ w2.heap.size + 1 := (by omega); have nn : w5.heap.size ≠ wr.heap.size + 1 := Nat.ne_of_gt ln; have nn' := Ne.symm nn; have HAN := Lib.hid an; clear am an) | (have am := row_kept hb5 (al1 wr (.cells #[.slice none 0 0, .slice none 0 0, .slice none 0 0] 26)); obtain ⟨m0, m1, m2', mf⟩ := OutAt.get am; have lm := (Array.getElem?_eq_some_iff.1 am).1; have nm : w5.heap.size ≠ wr.heap.size := Nat.ne_of_gt lm; have HAM := Lib.hid am; have nm' := Ne.symm nm; have y1 : w5.heap.size ≠ w2.heap.size := (by omega); have y2 : w5.heap.size ≠ w2.heap.size + 1 := (by omega); clear am) | (have am := row_kept hb5 (al1 wr (.cells #[.int .i64 0, .int .i64 0, .int .i64 0, .bool false, .string ⟨#[]⟩, .slice none 0 0] 44)); obtain ⟨m0, m1, m2', m3, m4, m5', mf⟩ := ResAt.get am; have lm := (Array.getElem?_eq_some_iff.1 am).1; have nm : w5.heap.size ≠ wr.heap.size := Nat.ne_of_gt lm; have HAM := Lib.hid am; have nm' := Ne.symm nm; have y1 : w5.heap.size ≠ w2.heap.size := (by omega); have y2 : w5.heap.size ≠ w2.heap.size + 1 := (by omega); clear am) | skip)))
    all_goals (
     go_wp2_with fail
     go_meet
     clear HB HST HC HCL HOUT HST2 HB2
     first
      | with_reducible exact ⟨_, A5, n5, c5, E5, m5, d5, D5, i5, f5, rfl, round1 hst5 hbw5⟩
      | with_reducible exact ⟨_, A5, n5, c5, E5, m5, d5, D5, i5, f5, rfl, round2 hst5 hbw5⟩
      | with_reducible exact ⟨_, A5, n5, c5, E5, m5, d5, D5, i5, f5, rfl, round3 hst5 hbw5 HAM.out⟩
      | with_reducible exact ⟨_, A5, n5, c5, E5, m5, d5, D5, i5, f5, rfl, round5 hst5 hbw5 HAM.out⟩
      | with_reducible exact ⟨_, A5, n5, c5, E5, m5, d5, D5, i5, f5, rfl, round4 hst5 hbw5 HAM.out HAN.out⟩
      | with_reducible exact ⟨_, A5, n5, c5, E5, m5, d5, D5, i5, f5, rfl, round6 hst5 hbw5 HAM.out HAN.out⟩)
   case rest =>
    obtain ⟨b, A5, n5, c5, E5, m5, d5, D5, i5, f5, rfl, ho5, hst5, hb5, hle⟩ := hcut
    have hrow : OutAt wc w2.heap.size _ _ _ := (hb5.block w2.heap.size hl6).trans HOUT.out
    have hcl5 : CallsB wc gb cur := (hb5.block gb hl7).trans HCL.out
    obtain ⟨s0', s1', s2', sf'⟩ := hrow.get
    obtain ⟨y0, y1, y2, _⟩ := ho5.get
    have hne : b ≠ w2.heap.size := by omega
    have hne' := Ne.symm hne
    have HR := Lib.hid hrow
    have HST5 := Lib.hid hst5
    have HB5 := Lib.hid (HB.out.trans (hb5.mono hsz))
    have HCL5 := Lib.hid hcl5
    clear hrow hst5 hb5 hcl5 ho5 s0 s1 s2
    go_wp2_with fail
    go_roundw
    case rel =>
     refine ⟨q + 1, _, by go_num, by omega, ((HST5.out.set3 HR.out _ _ _).weak), row_far3 HCL5.out HNG.out _ _ _, ⟨A5, n5, c5, E5, m5, d5, D5, i5, f5, rfl, row_three HR.out _ _ _⟩, below_set3 HB5.out (Nat.le_refl _) _ _ _⟩
    case measure => simp [intOf]; omega
  ·have e3 : q = 2 := by omega
   subst e3
   obtain ⟨hx1, hx2, hx3⟩ := grows_text N hN1 hN8 true false
   rw [hlen3] at hx1 hx2 hx3
   have HTX := Lib.hid hx1
   have HTF := Lib.hid (congrArg txt hx2)
   have HTC := Lib.hid hx3
   clear hbel hst hout hcl sf hx1 hx2 hx3
   obtain ⟨FB, hFB⟩ : ∃ F, txt (filG false) = F := ⟨_, rfl⟩
   have HFB := Lib.hid hFB
   clear hFB
   go_wp2_with fail
   go_loop [14, 16] (fun t i => ∃ (q : Nat) (X : ByteArray), i = .int .i64 q ∧ 1 ≤ q ∧ q ≤ N ∧ t = .string X ∧ X.data.toList = preG true false ++ zerG (q - 1)) (fun _ i => N - (intOf i).toNat)
   case atStart => exact ⟨1, _, rfl, by omega, by omega, rfl, by decide⟩
   case round =>
    obtain ⟨q, X, rfl, hq1, hqN, rfl, hX⟩ := hrel
    have hX6 : X.size = (preG true false).length + 2 * (q - 1) := by
     have : X.size = X.data.toList.length := by rw [Array.length_toList]; rfl
     rw [this, hX, List.length_append, zerG_len]
    have hpl : (preG true false).length = 26 := rfl
    rw [hpl] at hX6
    have x2 : ¬ 9223372036854775807 < X.size + 2 := by omega
    have x1 : ¬ 9223372036854775807 < X.size + 1 := by omega
    clear hpl
    have HX := Lib.hid hX
    have HX6 := Lib.hid hX6
    clear hX hX6
    by_cases hqn : q < N
    ·go_wp2_with fail
     go_round
     case rel =>
      refine ⟨q + 1, _, by go_num, by omega, by omega, rfl, ?_⟩
      have hz : q + 1 - 1 = (q - 1) + 1 := by omega
      rw [hz, zerG, ByteArray.data_append, Array.toList_append, HX.out, List.append_assoc]
     case measure => simp [intOf]; omega
    ·have hqe : q = N := by omega
     subst hqe
     have hx9 : txt (ofO (stG q true false 2)) = X ++ ⟨#[10]⟩ := by
      refine ByteArray.ext (Array.toList_inj.1 ?_)
      rw [txt_listSh, HTX.out, ByteArray.data_append, Array.toList_append, HX.out]
     have HX9 := Lib.hid hx9
     clear hx9
     go_wp2_with fail
     have h1 := shof_any _ _ wr HST.out (HT.out.below (Cv.next HB2.out HB.out))
     rw [HX9.out, HTC.out] at h1
     refine h1.mono ?_
     clear h1
     rintro e w6 ⟨rfl, hb6⟩
     have HST6 := Lib.hid (HST.out.below hb6)
     have HB6 := Lib.hid (Cv.next (Cv.next HB2.out HB.out) hb6)
     have p0 := (hb6.cell (p := ⟨w2.heap.size, 0, none⟩) hl6).trans s0
     have p1 := (hb6.cell (p := ⟨w2.heap.size, 1, none⟩) hl6).trans s1
     have p2 := (hb6.cell (p := ⟨w2.heap.size, 2, none⟩) hl6).trans s2
     clear hb6
     go_wp2_with fail
     have h1 := shfiles_any _ _ w6 HST6.out (HT.out.below HB6.out)
     rw [HTF.out, HFB.out, HTC.out] at h1
     refine h1.mono ?_
     clear h1
     rintro e w7 ⟨rfl, hb7⟩
     have HB7 := Lib.hid (Cv.next HB6.out hb7)
     clear hb7
     go_wp2_with fail
     refine (num14 _ _).mono ?_
     rintro e w7' ⟨rfl, rfl⟩
     go_wp2_with fail
     refine (num14 _ _).mono ?_
     rintro e w7' ⟨rfl, rfl⟩
     go_wp2_with fail
     go_ret
     have hfb : FB.toList = filG false := by rw [← HFB.out, ByteArray.toList_eq, txt_listSh]
     refine ⟨?_, HB7.out⟩
     rw [hfb]
     first | rfl | (rw [ByteArray.toList_eq, ByteArray.data_append, Array.toList_append]; rfl)
set_option maxRecDepth 100000 in
set_option maxHeartbeats 8000000 in
theorem shapeGrows_g (cores : Int) (w : World) (hT : Tab w) :
  Calls Tryz.prog 5 #[.int .i64 cores, .bool false, .bool true] w fun e w' => e = .returned (.bool true) ∧ Below w.heap.size w w' := by
 obtain ⟨c7, hc7, hcc⟩ := Cv.and_i64 cores 7 (by omega)
 rw [show ((7 : Nat) : Int) = 7 from rfl] at hcc
 have hcv2 : IntKind.i64.wrap (1 + (c7 : Int)) = 1 + (c7 : Int) := IntWalk.i64_in _ (by omega)
 obtain ⟨i0, hi, hz0, hz1, hz2⟩ := info_parts infoCallG
 have HT := Lib.hid hT
 clear hT
 go_enter Tryz.func5, Tryz.ntmps5
 go_wp2_with fail
 refine (awake14 w HT.out).mono ?_
 rintro e w1 ⟨rfl, hb1⟩
 have HB1 := Lib.hid hb1
 clear hb1
 go_wp2_with fail
 refine (new_any (1 + c7) (by omega) (by omega) w1).mono ?_
 rintro e w2 ⟨v2, rfl, hst2, hb2⟩
 obtain ⟨A2, n2, c2, E2, m2, d2, D2, k2, e2, rfl, _⟩ := hst2.at_
 have HB2 := Lib.hid (Cv.next HB1.out hb2)
 have HST2 := Lib.hid hst2.weak
 clear hb2 hst2
 obtain ⟨N, hN⟩ : ∃ N, 1 + c7 = N := ⟨_, rfl⟩
 have hN1 : 1 ≤ N := by omega
 have hN8 : N ≤ 8 := by omega
 have hNi : 1 + (c7 : Int) = (N : Int) := by omega
 rw [hN] at HST2
 have HST2' : Hid (StAt none w2 (.agg #[.slice A2 n2 c2, .slice E2 m2 d2, .slice D2 k2 e2]) (stG N false true 0)) := HST2
 obtain ⟨W1, hW1, _, _, _, hal1, hl1⟩ := box_st w2 A2 n2 c2 E2 m2 d2 D2 k2 e2
 have hout1 : OutAt W1 w2.heap.size (.slice A2 n2 c2) (.slice E2 m2 d2) (.slice D2 k2 e2) := by rw [← hW1]; exact heap_alloc_new w2 _
 have hzz1 : W1.heap.size = w2.heap.size + 1 := by rw [← hW1]; simp
 obtain ⟨W, hW⟩ : ∃ X, W1.alloc (.cells #[.int .i64 0, .int .i64 0, .int .i64 0, .int .i64 0, .int .i64 0, .string ⟨#[47, 113]⟩, .string ⟨#[]⟩, .string ⟨#[]⟩] 40) = X := ⟨_, rfl⟩
 have halW : Below W1.heap.size W1 W := by rw [← hW]; exact (Below.refl _ _).alloc (Nat.le_refl _) _
 have hrowW : w2.heap.size + 1 ≤ W.heap.size := by have := halW.size; omega
 have hout : OutAt W w2.heap.size (.slice A2 n2 c2) (.slice E2 m2 d2) (.slice D2 k2 e2) := (halW.block _ hl1).trans hout1
 have hbel : Below w2.heap.size w2 W := hal1.trans (halW.mono hal1.size)
 have hlt : w2.heap.size < W.heap.size := hrowW
 have hown : W.ownsRow (w2.heap.size + 1) 40 8 (.slice (some ⟨w2.heap.size + 1, 0, none⟩) 1 1) 1 (cellsG false false) := by
  rw [← hW, ← hzz1]
  exact World.ownsRow_lit (base := W1.heap.size) (e := 40) (size := 8) W1 (callC (caQ 0)).toArray 1 (by omega) (by unfold maxLen; omega) rfl
 have hhp : W.heap[w2.heap.size + 1]? = some (.cells #[.int .i64 0, .int .i64 0, .int .i64 0, .int .i64 0, .int .i64 0, .string ⟨#[47, 113]⟩, .string ⟨#[]⟩, .string ⟨#[]⟩] 40 (0, 0)) := by rw [← hW, ← hzz1]; exact heap_alloc_new W1 _
 clear hal1 halW hout1
 obtain ⟨W5, hW5⟩ : ∃ X, W.alloc (.cells #[.int .i64 9, .int .i64 0, .int .i64 0, .int .i64 0, .int .i64 0, .string ⟨#[47, 113]⟩, .string ⟨#[]⟩, .string ⟨#[]⟩] 40) = X := ⟨_, rfl⟩
 have hal5 : Below W.heap.size W W5 := by rw [← hW5]; exact (Below.refl _ _).alloc (Nat.le_refl _) _
 have how5 : W5.ownsRow (w2.heap.size + 1) 40 8 (.slice (some ⟨w2.heap.size + 1, 0, none⟩) 1 1) 1 (cellsG false false) := by rw [← hW5]; exact World.ownsRow.alloc hown _
 have hnw5 : ∀ (j : Nat) (u : Value), (callC (caQ 9))[j]? = some u → W5.cell? ((⟨W.heap.size, 0, none⟩ : Addr).add j) = some u := by rw [← hW5]; exact news_call W (caQ 9)
 have hbl5 := hbel.trans (hal5.mono hbel.size)
 have hot5 : OutAt W5 w2.heap.size (.slice A2 n2 c2) (.slice E2 m2 d2) (.slice D2 k2 e2) := (hal5.block _ hlt).trans hout
 have hlt5 : w2.heap.size < W5.heap.size := Nat.lt_of_lt_of_le hlt hal5.size
 go_wp2_with (at_builtin; refine wpList_append_own _ rfl _ _ 41 rfl (w2.heap.size + 1) 40 i0 _ 8 88 Tryz.underlying41 hi hz0 hz1 hz2 rfl (by decide) (.slice (some ⟨w2.heap.size + 1, 0, none⟩) 1 1) 1 (cellsG false false) rfl how5 ⟨W.heap.size, 0, none⟩ 1 1 (callC (caQ 9)) rfl rfl hnw5 (one_cells ⟨_, rfl⟩) (by unfold maxLen; omega) (by omega) (by have := hal5.size; have := hrowW; omega) ?_)
 intro v5 w5 hown hgr5 _
 have hnb5 : ((.slice (some ⟨w2.heap.size + 1, 0, none⟩) 1 1) : Value).ownBlock ≠ some w2.heap.size := fun e => by
  obtain ⟨h1, _⟩ := how5.lt w2.heap.size e
  omega
 have hout : OutAt w5 w2.heap.size (.slice A2 n2 c2) (.slice E2 m2 d2) (.slice D2 k2 e2) := (hgr5.block w2.heap.size hlt5 (fun e => hnb5 e.symm)).trans hot5
 have hbel := hbl5.grown hgr5 (Nat.le_trans hbel.size hal5.size) (fun g hg => Nat.le_of_succ_le (how5.lt g hg).1)
 have hroww5 : w2.heap.size + 1 ≤ w5.heap.size := Nat.le_trans hrowW (Nat.le_trans hal5.size hgr5.size)
 have hlt : w2.heap.size < w5.heap.size := hroww5
 clear hot5 hbl5 hlt5
 obtain ⟨g5, cap5, cur5, rfl, hbg5, hhp5, hcap5⟩ : ∃ g cap cur, v5 = .slice (some ⟨g, 0, none⟩) 2 cap ∧ w2.heap.size + 1 ≤ g ∧ w5.heap[g]? = some (.cells cur 40 (0, 0)) ∧ cur.toList.take (2 * 8) = (cellsG false false) ++ callC (caQ 9) := by
  rcases hown.2 with ⟨_, h0⟩ | ⟨g, cap, cur, hv, hb, hh, _, _, _, ht⟩
  ·cases h0
  ·exact ⟨g, cap, cur, hv, hb, hh, ht⟩
 obtain ⟨gb, hgb⟩ : ∃ gb, gb = g5 := ⟨_, rfl⟩
 obtain ⟨cur, hcl0, htk0, hng⟩ : ∃ cur, CallsB w5 gb cur ∧ cur.toList.take (2 * 8) = cellsG false true ∧ w2.heap.size ≠ gb := by
  rw [hgb]
  exact ⟨_, hhp5, hcap5, by omega⟩
 have HNG := Lib.hid (Ne.symm hng)
 have HTK := Lib.hid htk0
 have HCL0 := Lib.hid hcl0
 have HOUT0 := Lib.hid hout
 have HBEL0 := Lib.hid hbel
 have hlen3 : (callsG false true).length = 2 := rfl
 clear hcl0 htk0 hout hbel hown hhp5 
 rw [← hgb]
 clear hgb
 go_wp2_with fail
 go_loopw [11] (fun j wr => ∃ (q : Nat) (v : Value), j = .int .i64 q ∧ q ≤ 2 ∧ StAt none wr v (stG N false true q) ∧ CallsB wr gb cur ∧ (∃ A k c E l d D i f, v = .agg #[.slice A k c, .slice E l d, .slice D i f] ∧ OutAt wr w2.heap.size (.slice A k c) (.slice E l d) (.slice D i f)) ∧ Below w2.heap.size w2 wr) (fun j _ => 2 - (intOf j).toNat)
 case atStart => exact ⟨0, _, rfl, by omega, HST2'.out.below HBEL0.out, HCL0.out, ⟨A2, n2, c2, E2, m2, d2, D2, k2, e2, rfl, HOUT0.out⟩, HBEL0.out⟩
 case round =>
  obtain ⟨q, v, rfl, hq, hst, hcl, ⟨A, k9, c, E, l, d, D, i9, f9, rfl, hout⟩, hbel⟩ := hrel
  have HB := Lib.hid hbel
  have HST := Lib.hid hst
  have HOUT := Lib.hid hout
  have HCL := Lib.hid hcl
  have hsz := hbel.size
  have hl6 : w2.heap.size < wr.heap.size := (Array.getElem?_eq_some_iff.1 hout).1
  have hl7 : gb < wr.heap.size := (Array.getElem?_eq_some_iff.1 hcl).1
  obtain ⟨s0, s1, s2, sf⟩ := hout.get
  by_cases hlt9 : q < 2
  ·obtain ⟨cq, hcq⟩ : ∃ cq, (callsG false true)[q]? = some cq := ⟨_, List.getElem?_eq_getElem (by rw [hlen3]; exact hlt9)⟩
   obtain ⟨k0, k1, k2, k3, k4, k5, k6, k7⟩ := hcl.get hlen3.symm HTK.out q cq hcq
   have q0 : (0 : Int) ≤ (q : Int) := by omega
   have q1 : (q : Int) < 2 := by omega
   have HC := Lib.hid (fun u => Do_roundG N q false true cq hcq _ wr u hst)
   clear hbel hst hout hcl sf hcq
   go_upto_region 13 with fail
   go_cut [12] (fun p wx => ∃ b A k c E l d D i f, p = .pointer (some ⟨b, 0, .none⟩) ∧ OutAt wx b (.slice A k c) (.slice E l d) (.slice D i f) ∧ StAt (some wr.heap.size) wx (.agg #[.slice A k c, .slice E l d, .slice D i f]) (stG N false true (q + 1)) ∧ Below wr.heap.size wr wx ∧ wr.heap.size ≤ b)
   case first =>
    have q2 : (q : Int).toNat = q := by omega
    have z1 : wr.heap.size ≠ w2.heap.size := by omega
    have z2 : wr.heap.size ≠ gb := by omega
    have z3 : wr.heap.size + 1 ≠ w2.heap.size := by omega
    have z4 : wr.heap.size + 1 ≠ gb := by omega
    go_region_held3 (fun w' => w'.cell? ⟨w2.heap.size, 0, none⟩ = some (.slice A k9 c) ∧ w'.cell? ⟨w2.heap.size, 1, none⟩ = some (.slice E l d) ∧ w'.cell? ⟨w2.heap.size, 2, none⟩ = some (.slice D i9 f9) ∧
     w'.cell? ⟨gb, q * 8, none⟩ = some (.int .i64 (cq).kind) ∧ w'.cell? ⟨gb, q * 8 + 1, none⟩ = some (.int .i64 (cq).core) ∧ w'.cell? ⟨gb, q * 8 + 2, none⟩ = some (.int .i64 (cq).fd) ∧ w'.cell? ⟨gb, q * 8 + 3, none⟩ = some (.int .i64 (cq).off) ∧
     w'.cell? ⟨gb, q * 8 + 4, none⟩ = some (.int .i64 (cq).num) ∧ w'.cell? ⟨gb, q * 8 + 5, none⟩ = some (.string (cq).path) ∧ w'.cell? ⟨gb, q * 8 + 6, none⟩ = some (.string (cq).path2) ∧ w'.cell? ⟨gb, q * 8 + 7, none⟩ = some (.string (cq).data))
     (first | go_keep | (trace_state; fail))
     ((go_at_call 19; refine (HC.out _ (by first | exact Cv.drewN_below (Below.refl _ _) 1 | exact (Cv.drewN_below (Below.refl _ _) 1).alloc (by simp) _ | exact ((Cv.drewN_below (Below.refl _ _) 1).alloc (by simp) _).alloc (by simp) _)).mono ?_; rintro e5 w5 ⟨A5, n5, c5, E5, m5, d5, D5, i5, f5, z0, z1', z2', z3', z4', z5', z6', z7', rfl, hst5, hb5, hbw5⟩; have g0 := (hbw5.cell (p := ⟨w2.heap.size, 0, none⟩) hl6).trans s0; have g1 := (hbw5.cell (p := ⟨w2.heap.size, 1, none⟩) hl6).trans s1; have g2 := (hbw5.cell (p := ⟨w2.heap.size, 2, none⟩) hl6).trans s2; have j0 := (hbw5.cell (p := ⟨gb, q * 8, none⟩) hl7).trans k0; have j1 := (hbw5.cell (p := ⟨gb, q * 8 + 1, none⟩) hl7).trans k1; have j2 := (hbw5.cell (p := ⟨gb, q * 8 + 2, none⟩) hl7).trans k2; have j3 := (hbw5.cell (p := ⟨gb, q * 8 + 3, none⟩) hl7).trans k3; have j4 := (hbw5.cell (p := ⟨gb, q * 8 + 4, none⟩) hl7).trans k4; have j5 := (hbw5.cell (p := ⟨gb, q * 8 + 5, none⟩) hl7).trans k5; have j6 := (hbw5.cell (p := ⟨gb, q * 8 + 6, none⟩) hl7).trans k6; have j7 := (hbw5.cell (p := ⟨gb, q * 8 + 7, none⟩) hl7).trans k7; (first | (have am := row_kept hb5 (al2a wr (.cells #[.slice none 0 0, .slice none 0 0, .slice none 0 0] 26) (.cells #[.int .i64 0, .int .i64 0, .int .i64 0, .bool false, .string ⟨#[]⟩, .slice none 0 0] 44)); have an := row_kept hb5 (al2b wr (.cells #[.slice none 0 0, .slice none 0 0, .slice none 0 0] 26) (.cells #[.int .i64 0, .int .i64 0, .int .i64 0, .bool false, .string ⟨#[]⟩, .slice none 0 0] 44)); obtain ⟨m0, m1, m2', mf⟩ := OutAt.get am; obtain ⟨n0', n1', n2', n3', n4', n5', nf⟩ := ResAt.get an; have lm := (Array.getElem?_eq_some_iff.1 am).1; have ln := (Array.getElem?_eq_some_iff.1 an).1; have nm : w5.heap.size ≠ wr.heap.size := Nat.ne_of_gt lm; have HAM := Lib.hid am; have nm' := Ne.symm nm; have y1 : w5.heap.size ≠ w2.heap.size := (by omega); have y2 : w5.heap.size ≠ w2.heap.size + 1 := (by omega); have nn : w5.heap.size ≠ wr.heap.size + 1 := Nat.ne_of_gt ln; have nn' := Ne.symm nn; have HAN := Lib.hid an; clear am an) | (have am := row_kept hb5 (al2a wr (.cells #[.int .i64 0, .int .i64 0, .int .i64 0, .bool false, .string ⟨#[]⟩, .slice none 0 0] 44) (.cells #[.slice none 0 0, .slice none 0 0, .slice none 0 0] 26)); have an := row_kept hb5 (al2b wr (.cells #[.int .i64 0, .int .i64 0, .int .i64 0, .bool false, .string ⟨#[]⟩, .slice none 0 0] 44) (.cells #[.slice none 0 0, .slice none 0 0, .slice none 0 0] 26)); obtain ⟨m0, m1, m2', mf⟩ := OutAt.get an; obtain ⟨n0', n1', n2', n3', n4', n5', nf⟩ := ResAt.get am; have lm := (Array.getElem?_eq_some_iff.1 am).1; have ln := (Array.getElem?_eq_some_iff.1 an).1; have nm : w5.heap.size ≠ wr.heap.size := Nat.ne_of_gt lm; have HAM := Lib.hid am; have nm' := Ne.symm nm; have y1 : w5.heap.size ≠ w2.heap.size := (by omega); have y2 : w5.heap.size ≠ w2.heap.size + 1 := (by omega); have nn : w5.heap.size ≠ wr.heap.size + 1 := Nat.ne_of_gt ln; have nn' := Ne.symm nn; have HAN := Lib.hid an; clear am an) | (have am := row_kept hb5 (al1 wr (.cells #[.slice none 0 0, .slice none 0 0, .slice none 0 0] 26)); obtain ⟨m0, m1, m2', mf⟩ := OutAt.get am; have lm := (Array.getElem?_eq_some_iff.1 am).1; have nm : w5.heap.size ≠ wr.heap.size := Nat.ne_of_gt lm; have HAM := Lib.hid am; have nm' := Ne.symm nm; have y1 : w5.heap.size ≠ w2.heap.size := (by omega); have y2 : w5.heap.size ≠ w2.heap.size + 1 := (by omega); clear am) | (have am := row_kept hb5 (al1 wr (.cells #[.int .i64 0, .int .i64 0, .int .i64 0, .bool false, .string ⟨#[]⟩, .slice none 0 0] 44)); obtain ⟨m0, m1, m2', m3, m4, m5', mf⟩ := ResAt.get am; have lm := (Array.getElem?_eq_some_iff.1 am).1; have nm : w5.heap.size ≠ wr.heap.size := Nat.ne_of_gt lm; have HAM := Lib.hid am; have nm' := Ne.symm nm; have y1 : w5.heap.size ≠ w2.heap.size := (by omega); have y2 : w5.heap.size ≠ w2.heap.size + 1 := (by omega); clear am) | skip)))
    all_goals (
     go_wp2_with fail
     go_meet
     clear HB HST HC HCL HOUT HST2 HB2
     first
      | with_reducible exact ⟨_, A5, n5, c5, E5, m5, d5, D5, i5, f5, rfl, round1 hst5 hbw5⟩
      | with_reducible exact ⟨_, A5, n5, c5, E5, m5, d5, D5, i5, f5, rfl, round2 hst5 hbw5⟩
      | with_reducible exact ⟨_, A5, n5, c5, E5, m5, d5, D5, i5, f5, rfl, round3 hst5 hbw5 HAM.out⟩
      | with_reducible exact ⟨_, A5, n5, c5, E5, m5, d5, D5, i5, f5, rfl, round5 hst5 hbw5 HAM.out⟩
      | with_reducible exact ⟨_, A5, n5, c5, E5, m5, d5, D5, i5, f5, rfl, round4 hst5 hbw5 HAM.out HAN.out⟩
      | with_reducible exact ⟨_, A5, n5, c5, E5, m5, d5, D5, i5, f5, rfl, round6 hst5 hbw5 HAM.out HAN.out⟩)
   case rest =>
    obtain ⟨b, A5, n5, c5, E5, m5, d5, D5, i5, f5, rfl, ho5, hst5, hb5, hle⟩ := hcut
    have hrow : OutAt wc w2.heap.size _ _ _ := (hb5.block w2.heap.size hl6).trans HOUT.out
    have hcl5 : CallsB wc gb cur := (hb5.block gb hl7).trans HCL.out
    obtain ⟨s0', s1', s2', sf'⟩ := hrow.get
    obtain ⟨y0, y1, y2, _⟩ := ho5.get
    have hne : b ≠ w2.heap.size := by omega
    have hne' := Ne.symm hne
    have HR := Lib.hid hrow
    have HST5 := Lib.hid hst5
    have HB5 := Lib.hid (HB.out.trans (hb5.mono hsz))
    have HCL5 := Lib.hid hcl5
    clear hrow hst5 hb5 hcl5 ho5 s0 s1 s2
    go_wp2_with fail
    go_roundw
    case rel =>
     refine ⟨q + 1, _, by go_num, by omega, ((HST5.out.set3 HR.out _ _ _).weak), row_far3 HCL5.out HNG.out _ _ _, ⟨A5, n5, c5, E5, m5, d5, D5, i5, f5, rfl, row_three HR.out _ _ _⟩, below_set3 HB5.out (Nat.le_refl _) _ _ _⟩
    case measure => simp [intOf]; omega
  ·have e3 : q = 2 := by omega
   subst e3
   obtain ⟨hx1, hx2, hx3⟩ := grows_text N hN1 hN8 false true
   rw [hlen3] at hx1 hx2 hx3
   have HTX := Lib.hid hx1
   have HTF := Lib.hid (congrArg txt hx2)
   have HTC := Lib.hid hx3
   clear hbel hst hout hcl sf hx1 hx2 hx3
   obtain ⟨FB, hFB⟩ : ∃ F, txt (filG true) = F := ⟨_, rfl⟩
   have HFB := Lib.hid hFB
   clear hFB
   go_wp2_with fail
   go_loop [14, 16] (fun t i => ∃ (q : Nat) (X : ByteArray), i = .int .i64 q ∧ 1 ≤ q ∧ q ≤ N ∧ t = .string X ∧ X.data.toList = preG false true ++ zerG (q - 1)) (fun _ i => N - (intOf i).toNat)
   case atStart => exact ⟨1, _, rfl, by omega, by omega, rfl, by decide⟩
   case round =>
    obtain ⟨q, X, rfl, hq1, hqN, rfl, hX⟩ := hrel
    have hX6 : X.size = (preG false true).length + 2 * (q - 1) := by
     have : X.size = X.data.toList.length := by rw [Array.length_toList]; rfl
     rw [this, hX, List.length_append, zerG_len]
    have hpl : (preG false true).length = 9 := rfl
    rw [hpl] at hX6
    have x2 : ¬ 9223372036854775807 < X.size + 2 := by omega
    have x1 : ¬ 9223372036854775807 < X.size + 1 := by omega
    clear hpl
    have HX := Lib.hid hX
    have HX6 := Lib.hid hX6
    clear hX hX6
    by_cases hqn : q < N
    ·go_wp2_with fail
     go_round
     case rel =>
      refine ⟨q + 1, _, by go_num, by omega, by omega, rfl, ?_⟩
      have hz : q + 1 - 1 = (q - 1) + 1 := by omega
      rw [hz, zerG, ByteArray.data_append, Array.toList_append, HX.out, List.append_assoc]
     case measure => simp [intOf]; omega
    ·have hqe : q = N := by omega
     subst hqe
     have hx9 : txt (ofO (stG q false true 2)) = X ++ ⟨#[10]⟩ := by
      refine ByteArray.ext (Array.toList_inj.1 ?_)
      rw [txt_listSh, HTX.out, ByteArray.data_append, Array.toList_append, HX.out]
     have HX9 := Lib.hid hx9
     clear hx9
     go_wp2_with fail
     have h1 := shof_any _ _ wr HST.out (HT.out.below (Cv.next HB2.out HB.out))
     rw [HX9.out, HTC.out] at h1
     refine h1.mono ?_
     clear h1
     rintro e w6 ⟨rfl, hb6⟩
     have HST6 := Lib.hid (HST.out.below hb6)
     have HB6 := Lib.hid (Cv.next (Cv.next HB2.out HB.out) hb6)
     have p0 := (hb6.cell (p := ⟨w2.heap.size, 0, none⟩) hl6).trans s0
     have p1 := (hb6.cell (p := ⟨w2.heap.size, 1, none⟩) hl6).trans s1
     have p2 := (hb6.cell (p := ⟨w2.heap.size, 2, none⟩) hl6).trans s2
     clear hb6
     go_wp2_with fail
     have h1 := shfiles_any _ _ w6 HST6.out (HT.out.below HB6.out)
     rw [HTF.out, HFB.out, HTC.out] at h1
     refine h1.mono ?_
     clear h1
     rintro e w7 ⟨rfl, hb7⟩
     have HB7 := Lib.hid (Cv.next HB6.out hb7)
     clear hb7
     go_wp2_with fail
     refine (num14 _ _).mono ?_
     rintro e w7' ⟨rfl, rfl⟩
     go_wp2_with fail
     refine (num14 _ _).mono ?_
     rintro e w7' ⟨rfl, rfl⟩
     go_wp2_with fail
     go_ret
     have hfb : FB.toList = filG true := by rw [← HFB.out, ByteArray.toList_eq, txt_listSh]
     refine ⟨?_, HB7.out⟩
     rw [hfb]
     first | rfl | (rw [ByteArray.toList_eq, ByteArray.data_append, Array.toList_append]; rfl)
set_option maxRecDepth 100000 in
set_option maxHeartbeats 8000000 in
theorem shapeGrows_n (cores : Int) (w : World) (hT : Tab w) :
  Calls Tryz.prog 5 #[.int .i64 cores, .bool false, .bool false] w fun e w' => e = .returned (.bool true) ∧ Below w.heap.size w w' := by
 obtain ⟨c7, hc7, hcc⟩ := Cv.and_i64 cores 7 (by omega)
 rw [show ((7 : Nat) : Int) = 7 from rfl] at hcc
 have hcv2 : IntKind.i64.wrap (1 + (c7 : Int)) = 1 + (c7 : Int) := IntWalk.i64_in _ (by omega)
 obtain ⟨i0, hi, hz0, hz1, hz2⟩ := info_parts infoCallG
 have HT := Lib.hid hT
 clear hT
 go_enter Tryz.func5, Tryz.ntmps5
 go_wp2_with fail
 refine (awake14 w HT.out).mono ?_
 rintro e w1 ⟨rfl, hb1⟩
 have HB1 := Lib.hid hb1
 clear hb1
 go_wp2_with fail
 refine (new_any (1 + c7) (by omega) (by omega) w1).mono ?_
 rintro e w2 ⟨v2, rfl, hst2, hb2⟩
 obtain ⟨A2, n2, c2, E2, m2, d2, D2, k2, e2, rfl, _⟩ := hst2.at_
 have HB2 := Lib.hid (Cv.next HB1.out hb2)
 have HST2 := Lib.hid hst2.weak
 clear hb2 hst2
 obtain ⟨N, hN⟩ : ∃ N, 1 + c7 = N := ⟨_, rfl⟩
 have hN1 : 1 ≤ N := by omega
 have hN8 : N ≤ 8 := by omega
 have hNi : 1 + (c7 : Int) = (N : Int) := by omega
 rw [hN] at HST2
 have HST2' : Hid (StAt none w2 (.agg #[.slice A2 n2 c2, .slice E2 m2 d2, .slice D2 k2 e2]) (stG N false false 0)) := HST2
 obtain ⟨W1, hW1, _, _, _, hal1, hl1⟩ := box_st w2 A2 n2 c2 E2 m2 d2 D2 k2 e2
 have hout1 : OutAt W1 w2.heap.size (.slice A2 n2 c2) (.slice E2 m2 d2) (.slice D2 k2 e2) := by rw [← hW1]; exact heap_alloc_new w2 _
 have hzz1 : W1.heap.size = w2.heap.size + 1 := by rw [← hW1]; simp
 obtain ⟨W, hW⟩ : ∃ X, W1.alloc (.cells #[.int .i64 0, .int .i64 0, .int .i64 0, .int .i64 0, .int .i64 0, .string ⟨#[47, 113]⟩, .string ⟨#[]⟩, .string ⟨#[]⟩] 40) = X := ⟨_, rfl⟩
 have halW : Below W1.heap.size W1 W := by rw [← hW]; exact (Below.refl _ _).alloc (Nat.le_refl _) _
 have hrowW : w2.heap.size + 1 ≤ W.heap.size := by have := halW.size; omega
 have hout : OutAt W w2.heap.size (.slice A2 n2 c2) (.slice E2 m2 d2) (.slice D2 k2 e2) := (halW.block _ hl1).trans hout1
 have hbel : Below w2.heap.size w2 W := hal1.trans (halW.mono hal1.size)
 have hlt : w2.heap.size < W.heap.size := hrowW
 have hown : W.ownsRow (w2.heap.size + 1) 40 8 (.slice (some ⟨w2.heap.size + 1, 0, none⟩) 1 1) 1 (cellsG false false) := by
  rw [← hW, ← hzz1]
  exact World.ownsRow_lit (base := W1.heap.size) (e := 40) (size := 8) W1 (callC (caQ 0)).toArray 1 (by omega) (by unfold maxLen; omega) rfl
 have hhp : W.heap[w2.heap.size + 1]? = some (.cells #[.int .i64 0, .int .i64 0, .int .i64 0, .int .i64 0, .int .i64 0, .string ⟨#[47, 113]⟩, .string ⟨#[]⟩, .string ⟨#[]⟩] 40 (0, 0)) := by rw [← hW, ← hzz1]; exact heap_alloc_new W1 _
 clear hal1 halW hout1
 obtain ⟨gb, hgb⟩ : ∃ gb, gb = (w2.heap.size + 1) := ⟨_, rfl⟩
 obtain ⟨cur, hcl0, htk0, hng⟩ : ∃ cur, CallsB W gb cur ∧ cur.toList.take (1 * 8) = cellsG false false ∧ w2.heap.size ≠ gb := by
  rw [hgb]
  exact ⟨_, hhp, rfl, by omega⟩
 have HNG := Lib.hid (Ne.symm hng)
 have HTK := Lib.hid htk0
 have HCL0 := Lib.hid hcl0
 have HOUT0 := Lib.hid hout
 have HBEL0 := Lib.hid hbel
 have hlen3 : (callsG false false).length = 1 := rfl
 clear hcl0 htk0 hout hbel hown hhp 
 go_wp2_with fail
 try rw [hW1]
 try rw [hW]
 rw [← hgb]
 clear hgb
 go_loopw [11] (fun j wr => ∃ (q : Nat) (v : Value), j = .int .i64 q ∧ q ≤ 1 ∧ StAt none wr v (stG N false false q) ∧ CallsB wr gb cur ∧ (∃ A k c E l d D i f, v = .agg #[.slice A k c, .slice E l d, .slice D i f] ∧ OutAt wr w2.heap.size (.slice A k c) (.slice E l d) (.slice D i f)) ∧ Below w2.heap.size w2 wr) (fun j _ => 1 - (intOf j).toNat)
 case atStart => exact ⟨0, _, rfl, by omega, HST2'.out.below HBEL0.out, HCL0.out, ⟨A2, n2, c2, E2, m2, d2, D2, k2, e2, rfl, HOUT0.out⟩, HBEL0.out⟩
 case round =>
  obtain ⟨q, v, rfl, hq, hst, hcl, ⟨A, k9, c, E, l, d, D, i9, f9, rfl, hout⟩, hbel⟩ := hrel
  have HB := Lib.hid hbel
  have HST := Lib.hid hst
  have HOUT := Lib.hid hout
  have HCL := Lib.hid hcl
  have hsz := hbel.size
  have hl6 : w2.heap.size < wr.heap.size := (Array.getElem?_eq_some_iff.1 hout).1
  have hl7 : gb < wr.heap.size := (Array.getElem?_eq_some_iff.1 hcl).1
  obtain ⟨s0, s1, s2, sf⟩ := hout.get
  by_cases hlt9 : q < 1
  ·obtain ⟨cq, hcq⟩ : ∃ cq, (callsG false false)[q]? = some cq := ⟨_, List.getElem?_eq_getElem (by rw [hlen3]; exact hlt9)⟩
   obtain ⟨k0, k1, k2, k3, k4, k5, k6, k7⟩ := hcl.get hlen3.symm HTK.out q cq hcq
   have q0 : (0 : Int) ≤ (q : Int) := by omega
   have q1 : (q : Int) < 1 := by omega
   have HC := Lib.hid (fun u => Do_roundG N q false false cq hcq _ wr u hst)
   clear hbel hst hout hcl sf hcq
   go_upto_region 13 with fail
   go_cut [12] (fun p wx => ∃ b A k c E l d D i f, p = .pointer (some ⟨b, 0, .none⟩) ∧ OutAt wx b (.slice A k c) (.slice E l d) (.slice D i f) ∧ StAt (some wr.heap.size) wx (.agg #[.slice A k c, .slice E l d, .slice D i f]) (stG N false false (q + 1)) ∧ Below wr.heap.size wr wx ∧ wr.heap.size ≤ b)
   case first =>
    have q2 : (q : Int).toNat = q := by omega
    have z1 : wr.heap.size ≠ w2.heap.size := by omega
    have z2 : wr.heap.size ≠ gb := by omega
    have z3 : wr.heap.size + 1 ≠ w2.heap.size := by omega
    have z4 : wr.heap.size + 1 ≠ gb := by omega
    go_region_held3 (fun w' => w'.cell? ⟨w2.heap.size, 0, none⟩ = some (.slice A k9 c) ∧ w'.cell? ⟨w2.heap.size, 1, none⟩ = some (.slice E l d) ∧ w'.cell? ⟨w2.heap.size, 2, none⟩ = some (.slice D i9 f9) ∧
     w'.cell? ⟨gb, q * 8, none⟩ = some (.int .i64 (cq).kind) ∧ w'.cell? ⟨gb, q * 8 + 1, none⟩ = some (.int .i64 (cq).core) ∧ w'.cell? ⟨gb, q * 8 + 2, none⟩ = some (.int .i64 (cq).fd) ∧ w'.cell? ⟨gb, q * 8 + 3, none⟩ = some (.int .i64 (cq).off) ∧
     w'.cell? ⟨gb, q * 8 + 4, none⟩ = some (.int .i64 (cq).num) ∧ w'.cell? ⟨gb, q * 8 + 5, none⟩ = some (.string (cq).path) ∧ w'.cell? ⟨gb, q * 8 + 6, none⟩ = some (.string (cq).path2) ∧ w'.cell? ⟨gb, q * 8 + 7, none⟩ = some (.string (cq).data))
     (first | go_keep | (trace_state; fail))
     ((go_at_call 19; refine (HC.out _ (by first | exact Cv.drewN_below (Below.refl _ _) 1 | exact (Cv.drewN_below (Below.refl _ _) 1).alloc (by simp) _ | exact ((Cv.drewN_below (Below.refl _ _) 1).alloc (by simp) _).alloc (by simp) _)).mono ?_; rintro e5 w5 ⟨A5, n5, c5, E5, m5, d5, D5, i5, f5, z0, z1', z2', z3', z4', z5', z6', z7', rfl, hst5, hb5, hbw5⟩; have g0 := (hbw5.cell (p := ⟨w2.heap.size, 0, none⟩) hl6).trans s0; have g1 := (hbw5.cell (p := ⟨w2.heap.size, 1, none⟩) hl6).trans s1; have g2 := (hbw5.cell (p := ⟨w2.heap.size, 2, none⟩) hl6).trans s2; have j0 := (hbw5.cell (p := ⟨gb, q * 8, none⟩) hl7).trans k0; have j1 := (hbw5.cell (p := ⟨gb, q * 8 + 1, none⟩) hl7).trans k1; have j2 := (hbw5.cell (p := ⟨gb, q * 8 + 2, none⟩) hl7).trans k2; have j3 := (hbw5.cell (p := ⟨gb, q * 8 + 3, none⟩) hl7).trans k3; have j4 := (hbw5.cell (p := ⟨gb, q * 8 + 4, none⟩) hl7).trans k4; have j5 := (hbw5.cell (p := ⟨gb, q * 8 + 5, none⟩) hl7).trans k5; have j6 := (hbw5.cell (p := ⟨gb, q * 8 + 6, none⟩) hl7).trans k6; have j7 := (hbw5.cell (p := ⟨gb, q * 8 + 7, none⟩) hl7).trans k7; (first | (have am := row_kept hb5 (al2a wr (.cells #[.slice none 0 0, .slice none 0 0, .slice none 0 0] 26) (.cells #[.int .i64 0, .int .i64 0, .int .i64 0, .bool false, .string ⟨#[]⟩, .slice none 0 0] 44)); have an := row_kept hb5 (al2b wr (.cells #[.slice none 0 0, .slice none 0 0, .slice none 0 0] 26) (.cells #[.int .i64 0, .int .i64 0, .int .i64 0, .bool false, .string ⟨#[]⟩, .slice none 0 0] 44)); obtain ⟨m0, m1, m2', mf⟩ := OutAt.get am; obtain ⟨n0', n1', n2', n3', n4', n5', nf⟩ := ResAt.get an; have lm := (Array.getElem?_eq_some_iff.1 am).1; have ln := (Array.getElem?_eq_some_iff.1 an).1; have nm : w5.heap.size ≠ wr.heap.size := Nat.ne_of_gt lm; have HAM := Lib.hid am; have nm' := Ne.symm nm; have y1 : w5.heap.size ≠ w2.heap.size := (by omega); have y2 : w5.heap.size ≠ w2.heap.size + 1 := (by omega); have nn : w5.heap.size ≠ wr.heap.size + 1 := Nat.ne_of_gt ln; have nn' := Ne.symm nn; have HAN := Lib.hid an; clear am an) | (have am := row_kept hb5 (al2a wr (.cells #[.int .i64 0, .int .i64 0, .int .i64 0, .bool false, .string ⟨#[]⟩, .slice none 0 0] 44) (.cells #[.slice none 0 0, .slice none 0 0, .slice none 0 0] 26)); have an := row_kept hb5 (al2b wr (.cells #[.int .i64 0, .int .i64 0, .int .i64 0, .bool false, .string ⟨#[]⟩, .slice none 0 0] 44) (.cells #[.slice none 0 0, .slice none 0 0, .slice none 0 0] 26)); obtain ⟨m0, m1, m2', mf⟩ := OutAt.get an; obtain ⟨n0', n1', n2', n3', n4', n5', nf⟩ := ResAt.get am; have lm := (Array.getElem?_eq_some_iff.1 am).1; have ln := (Array.getElem?_eq_some_iff.1 an).1; have nm : w5.heap.size ≠ wr.heap.size := Nat.ne_of_gt lm; have HAM := Lib.hid am; have nm' := Ne.symm nm; have y1 : w5.heap.size ≠ w2.heap.size := (by omega); have y2 : w5.heap.size ≠ w2.heap.size + 1 := (by omega); have nn : w5.heap.size ≠ wr.heap.size + 1 := Nat.ne_of_gt ln; have nn' := Ne.symm nn; have HAN := Lib.hid an; clear am an) | (have am := row_kept hb5 (al1 wr (.cells #[.slice none 0 0, .slice none 0 0, .slice none 0 0] 26)); obtain ⟨m0, m1, m2', mf⟩ := OutAt.get am; have lm := (Array.getElem?_eq_some_iff.1 am).1; have nm : w5.heap.size ≠ wr.heap.size := Nat.ne_of_gt lm; have HAM := Lib.hid am; have nm' := Ne.symm nm; have y1 : w5.heap.size ≠ w2.heap.size := (by omega); have y2 : w5.heap.size ≠ w2.heap.size + 1 := (by omega); clear am) | (have am := row_kept hb5 (al1 wr (.cells #[.int .i64 0, .int .i64 0, .int .i64 0, .bool false, .string ⟨#[]⟩, .slice none 0 0] 44)); obtain ⟨m0, m1, m2', m3, m4, m5', mf⟩ := ResAt.get am; have lm := (Array.getElem?_eq_some_iff.1 am).1; have nm : w5.heap.size ≠ wr.heap.size := Nat.ne_of_gt lm; have HAM := Lib.hid am; have nm' := Ne.symm nm; have y1 : w5.heap.size ≠ w2.heap.size := (by omega); have y2 : w5.heap.size ≠ w2.heap.size + 1 := (by omega); clear am) | skip)))
    all_goals (
     go_wp2_with fail
     go_meet
     clear HB HST HC HCL HOUT HST2 HB2
     first
      | with_reducible exact ⟨_, A5, n5, c5, E5, m5, d5, D5, i5, f5, rfl, round1 hst5 hbw5⟩
      | with_reducible exact ⟨_, A5, n5, c5, E5, m5, d5, D5, i5, f5, rfl, round2 hst5 hbw5⟩
      | with_reducible exact ⟨_, A5, n5, c5, E5, m5, d5, D5, i5, f5, rfl, round3 hst5 hbw5 HAM.out⟩
      | with_reducible exact ⟨_, A5, n5, c5, E5, m5, d5, D5, i5, f5, rfl, round5 hst5 hbw5 HAM.out⟩
      | with_reducible exact ⟨_, A5, n5, c5, E5, m5, d5, D5, i5, f5, rfl, round4 hst5 hbw5 HAM.out HAN.out⟩
      | with_reducible exact ⟨_, A5, n5, c5, E5, m5, d5, D5, i5, f5, rfl, round6 hst5 hbw5 HAM.out HAN.out⟩)
   case rest =>
    obtain ⟨b, A5, n5, c5, E5, m5, d5, D5, i5, f5, rfl, ho5, hst5, hb5, hle⟩ := hcut
    have hrow : OutAt wc w2.heap.size _ _ _ := (hb5.block w2.heap.size hl6).trans HOUT.out
    have hcl5 : CallsB wc gb cur := (hb5.block gb hl7).trans HCL.out
    obtain ⟨s0', s1', s2', sf'⟩ := hrow.get
    obtain ⟨y0, y1, y2, _⟩ := ho5.get
    have hne : b ≠ w2.heap.size := by omega
    have hne' := Ne.symm hne
    have HR := Lib.hid hrow
    have HST5 := Lib.hid hst5
    have HB5 := Lib.hid (HB.out.trans (hb5.mono hsz))
    have HCL5 := Lib.hid hcl5
    clear hrow hst5 hb5 hcl5 ho5 s0 s1 s2
    go_wp2_with fail
    go_roundw
    case rel =>
     refine ⟨q + 1, _, by go_num, by omega, ((HST5.out.set3 HR.out _ _ _).weak), row_far3 HCL5.out HNG.out _ _ _, ⟨A5, n5, c5, E5, m5, d5, D5, i5, f5, rfl, row_three HR.out _ _ _⟩, below_set3 HB5.out (Nat.le_refl _) _ _ _⟩
    case measure => simp [intOf]; omega
  ·have e3 : q = 1 := by omega
   subst e3
   obtain ⟨hx1, hx2, hx3⟩ := grows_text N hN1 hN8 false false
   rw [hlen3] at hx1 hx2 hx3
   have HTX := Lib.hid hx1
   have HTF := Lib.hid (congrArg txt hx2)
   have HTC := Lib.hid hx3
   clear hbel hst hout hcl sf hx1 hx2 hx3
   obtain ⟨FB, hFB⟩ : ∃ F, txt (filG false) = F := ⟨_, rfl⟩
   have HFB := Lib.hid hFB
   clear hFB
   go_wp2_with fail
   go_loop [14, 16] (fun t i => ∃ (q : Nat) (X : ByteArray), i = .int .i64 q ∧ 1 ≤ q ∧ q ≤ N ∧ t = .string X ∧ X.data.toList = preG false false ++ zerG (q - 1)) (fun _ i => N - (intOf i).toNat)
   case atStart => exact ⟨1, _, rfl, by omega, by omega, rfl, by decide⟩
   case round =>
    obtain ⟨q, X, rfl, hq1, hqN, rfl, hX⟩ := hrel
    have hX6 : X.size = (preG false false).length + 2 * (q - 1) := by
     have : X.size = X.data.toList.length := by rw [Array.length_toList]; rfl
     rw [this, hX, List.length_append, zerG_len]
    have hpl : (preG false false).length = 18 := rfl
    rw [hpl] at hX6
    have x2 : ¬ 9223372036854775807 < X.size + 2 := by omega
    have x1 : ¬ 9223372036854775807 < X.size + 1 := by omega
    clear hpl
    have HX := Lib.hid hX
    have HX6 := Lib.hid hX6
    clear hX hX6
    by_cases hqn : q < N
    ·go_wp2_with fail
     go_round
     case rel =>
      refine ⟨q + 1, _, by go_num, by omega, by omega, rfl, ?_⟩
      have hz : q + 1 - 1 = (q - 1) + 1 := by omega
      rw [hz, zerG, ByteArray.data_append, Array.toList_append, HX.out, List.append_assoc]
     case measure => simp [intOf]; omega
    ·have hqe : q = N := by omega
     subst hqe
     have hx9 : txt (ofO (stG q false false 1)) = X ++ ⟨#[10]⟩ := by
      refine ByteArray.ext (Array.toList_inj.1 ?_)
      rw [txt_listSh, HTX.out, ByteArray.data_append, Array.toList_append, HX.out]
     have HX9 := Lib.hid hx9
     clear hx9
     go_wp2_with fail
     have h1 := shof_any _ _ wr HST.out (HT.out.below (Cv.next HB2.out HB.out))
     rw [HX9.out, HTC.out] at h1
     refine h1.mono ?_
     clear h1
     rintro e w6 ⟨rfl, hb6⟩
     have HST6 := Lib.hid (HST.out.below hb6)
     have HB6 := Lib.hid (Cv.next (Cv.next HB2.out HB.out) hb6)
     have p0 := (hb6.cell (p := ⟨w2.heap.size, 0, none⟩) hl6).trans s0
     have p1 := (hb6.cell (p := ⟨w2.heap.size, 1, none⟩) hl6).trans s1
     have p2 := (hb6.cell (p := ⟨w2.heap.size, 2, none⟩) hl6).trans s2
     clear hb6
     go_wp2_with fail
     have h1 := shfiles_any _ _ w6 HST6.out (HT.out.below HB6.out)
     rw [HTF.out, HFB.out, HTC.out] at h1
     refine h1.mono ?_
     clear h1
     rintro e w7 ⟨rfl, hb7⟩
     have HB7 := Lib.hid (Cv.next HB6.out hb7)
     clear hb7
     go_wp2_with fail
     refine (num14 _ _).mono ?_
     rintro e w7' ⟨rfl, rfl⟩
     go_wp2_with fail
     refine (num14 _ _).mono ?_
     rintro e w7' ⟨rfl, rfl⟩
     go_wp2_with fail
     go_ret
     have hfb : FB.toList = filG false := by rw [← HFB.out, ByteArray.toList_eq, txt_listSh]
     refine ⟨?_, HB7.out⟩
     rw [hfb]
     first | rfl | (rw [ByteArray.toList_eq, ByteArray.data_append, Array.toList_append]; rfl)
end Go.Proofs.YthhceopnnappgaaGreatDoor
