/- The law ModelDeep: its walk (printed by wip/gen_deep.py). -/
import Derived.Test.YtndcloohcfhejaaM48
import Derived.Test.YtndcloohcfhejaaM41
set_option linter.unusedVariables false
set_option linter.unusedSimpArgs false
namespace Go.Proofs.Ytndcloohcfhejaa
open Go.RowKit
theorem deepP_size (q : Nat) : (deepP q).size ≤ 8 := by
 unfold deepP
 split <;> decide
theorem deepP_next : ∀ q < 4, (deepP q ++ (⟨#[47]⟩ : ByteArray)) ++ (⟨#[UInt8.ofNat (97 + q)]⟩ : ByteArray) = deepP (q + 1) := by decide
theorem deepP_n : ∀ q < 5, deepP q ++ (⟨#[47, 110]⟩ : ByteArray) = ⟨(deepP q).data ++ #[47, 110]⟩ := by decide
theorem deepP_z : ∀ q < 5, 0 < q → (⟨#[47, 122]⟩ : ByteArray) ++ (deepP q).extract 2 (deepP q).size = deepQ q := by decide
theorem deepP_two : ∀ q < 5, 0 < q → 2 ≤ (deepP q).size := by decide
theorem deepQ_size (q : Nat) : (deepQ q).size ≤ 8 := by
 unfold deepQ
 split <;> decide
theorem deep_cell (W : World) (q : Nat) (hq : q < 4) (W1 : World) (h : W.alloc (.cells #[.int .u8 (97 + (q : Int))] 5) = W1) : W1.cell? ⟨W.heap.size, 0, none⟩ = some (.int .u8 ((UInt8.ofNat (97 + q)).toNat : Int)) := by
 have e : ((UInt8.ofNat (97 + q)).toNat : Int) = 97 + (q : Int) := by rw [UInt8.toNat_ofNat']; omega
 rw [e, ← h, cell_of_row _ _ _ _ _ (0, 0) (heap_alloc_new W _)]
 rfl
set_option maxRecDepth 100000 in
set_option maxHeartbeats 8000000 in
theorem modelDeep_walk (many : Int) (h0 : (Lit.int .i64 many).wf = true) (file : Bool) (w : World) : Calls Try.prog 3 #[.int .i64 many, .bool file] w fun e w' => e = .returned (.bool true) ∧ Below w.heap.size w w' := by
 clear h0
 obtain ⟨m, hm, hmm⟩ := Cv.and_i64 many 3 (by omega)
 rw [show ((3 : Nat) : Int) = 3 from rfl] at hmm
 obtain ⟨k, hk⟩ : ∃ k, m + 1 = k := ⟨_, rfl⟩
 have hk1 : 0 < k := by omega
 have hk5 : k < 5 := by omega
 have wk : IntKind.i64.wrap (1 + (m : Int)) = (k : Int) := by rw [IntWalk.i64_in _ (by omega)]; omega
 have wk1 : IntKind.i64.wrap ((k : Int) - 1) = (k : Int) - 1 := IntWalk.i64_in _ (by omega)
 have HK0 := Lib.hid hk1
 have HK5 := Lib.hid hk5
 clear hk hm
 go_enter Try.func3, Try.ntmps3
 go_wp2_with fail
 refine (awake13 _).mono ?_
 rintro ea V1 ⟨rfl, hb1⟩
 have HB := Lib.hid hb1
 have hw1 := hb1.size
 clear hb1
 go_wp2_with fail
 refine (new_any 1 (by omega) (by omega) V1).mono ?_
 rintro eb x0 ⟨v0, rfl, hst, hb1⟩
 obtain ⟨A0, n0, c0, E0, m0, d0, D0, k0, g0, rfl, hI0, -⟩ := hst.at_
 obtain ⟨w0, hV0, hyz0, ho, hb⟩ := box_s x0 (.slice A0 n0 c0) (.slice E0 m0 d0) (.slice D0 k0 g0)
 replace HB := Lib.hid (Cv.next HB.out (Cv.next hb1 hb))
 have HS0 : Hid (StAt (some 0) w0 _ (deepS k file 0)) := Lib.hid ((hst.lower (Nat.zero_le _)).below hb)
 have hxz0 := hb1.size
 have HO0 := Lib.hid ho
 clear hst hb1 ho hb hI0
 go_wp2_with fail
 go_loopw [8, 9] (fun s i wr => ∃ (q : Nat) (A0 : Option Addr) (n0 c0 : Nat) (E0 : Option Addr) (m0 d0 : Nat) (D0 : Option Addr) (k0 g0 : Nat), s = .string (deepP q) ∧ i = .int .i64 q ∧ q ≤ k ∧ OutAt wr x0.heap.size (.slice A0 n0 c0) (.slice E0 m0 d0) (.slice D0 k0 g0) ∧ StAt (some 0) wr (.agg #[.slice A0 n0 c0, .slice E0 m0 d0, .slice D0 k0 g0]) (deepS k file q) ∧ Below w.heap.size w wr) (fun s i _ => k - (intOf i).toNat)
 case atStart => exact ⟨0, A0, n0, c0, E0, m0, d0, D0, k0, g0, rfl, rfl, by omega, HO0.out, HS0.out, HB.out⟩
 case round =>
  clear HO0 HS0 HB
  obtain ⟨q, A0, n0, c0, E0, m0, d0, D0, k0, g0, rfl, rfl, hq, ho, hs, hb⟩ := hrel
  have HO0 := Lib.hid ho
  have HS0 := Lib.hid hs
  have HB := Lib.hid hb
  have hlt0 := (Array.getElem?_eq_some_iff.1 ho).1
  clear ho hs hb
  have hk5 := HK5.out
  obtain ⟨PQ, hPQ⟩ : ∃ PQ, deepP q = PQ := ⟨_, rfl⟩
  have hps := deepP_size q
  rw [hPQ] at hps
  have HPQ := Lib.hid hPQ
  rw [hPQ]
  clear hPQ
  by_cases hlt : q < k
  ·have g1 : (q : Int) < (k : Int) := by omega
   cases file
   ·have hdk : deepK k q false = 1 := rfl
    obtain ⟨PN, hPN⟩ : ∃ PN, deepP (q + 1) = PN := ⟨_, rfl⟩
    have hns := deepP_size (q + 1)
    rw [hPN] at hns
    have hcat := deepP_next q (by omega)
    rw [HPQ.out, hPN] at hcat
    have HPN := Lib.hid hPN
    obtain ⟨hr1, hr2⟩ := deep_round k hk5 false q hlt
    rw [hdk, hPN] at hr1
    rw [hPN] at hr2
    have HR_1 := Lib.hid hr1
    have HR_2 := Lib.hid hr2
    have HDK := Lib.hid hdk
    clear hPN hr1 hr2 hdk
    have wq : IntKind.i64.wrap (97 + (q : Int)) = 97 + (q : Int) := IntWalk.i64_in _ (by omega)
    obtain ⟨W1, hW1, hr, hb, hzW⟩ := boxR wr #[.int .u8 (97 + (q : Int))] 5
    have hch := Cv.conv_one W1 wr.heap.size 1 _ (deep_cell wr q (by omega) W1 hW1)
    obtain ⟨W2, hW2, hr2, hb2, hzW2⟩ := boxR W1 #[.int .i64 1, .int .i64 0, .int .i64 0, .int .i64 0, .int .i64 0, .string PN, .string ⟨#[]⟩, .string ⟨#[]⟩] 32
    have q6 : W2.setCell ⟨W1.heap.size, 6, none⟩ (.string ⟨#[]⟩) = W2 := by rw [← hW2, World.setCell_alloc_new]; rfl
    have q7 : W2.setCell ⟨W1.heap.size, 7, none⟩ (.string ⟨#[]⟩) = W2 := by rw [← hW2, World.setCell_alloc_new]; rfl
    rw [hzW] at hr2 q6 q7
    have hb3 : Below wr.heap.size wr W2 := Cv.next hb hb2
    have fz0 := frozen_of_row W2 (wr.heap.size + 1) 0 _ _ hr2
    have fz1 := frozen_of_row W2 (wr.heap.size + 1) 1 _ _ hr2
    have fz2 := frozen_of_row W2 (wr.heap.size + 1) 2 _ _ hr2
    have fz3 := frozen_of_row W2 (wr.heap.size + 1) 3 _ _ hr2
    have fz4 := frozen_of_row W2 (wr.heap.size + 1) 4 _ _ hr2
    have fz5 := frozen_of_row W2 (wr.heap.size + 1) 5 _ _ hr2
    have fz6 := frozen_of_row W2 (wr.heap.size + 1) 6 _ _ hr2
    have fz7 := frozen_of_row W2 (wr.heap.size + 1) 7 _ _ hr2
    have j0 : W2.cell? ⟨wr.heap.size + 1, 0, none⟩ = some (.int .i64 1) := by rw [cell_of_row W2 _ _ _ _ (0, 0) hr2]; rfl
    have j1 : W2.cell? ⟨wr.heap.size + 1, 1, none⟩ = some (.int .i64 0) := by rw [cell_of_row W2 _ _ _ _ (0, 0) hr2]; rfl
    have j2 : W2.cell? ⟨wr.heap.size + 1, 2, none⟩ = some (.int .i64 0) := by rw [cell_of_row W2 _ _ _ _ (0, 0) hr2]; rfl
    have j3 : W2.cell? ⟨wr.heap.size + 1, 3, none⟩ = some (.int .i64 0) := by rw [cell_of_row W2 _ _ _ _ (0, 0) hr2]; rfl
    have j4 : W2.cell? ⟨wr.heap.size + 1, 4, none⟩ = some (.int .i64 0) := by rw [cell_of_row W2 _ _ _ _ (0, 0) hr2]; rfl
    have j5 : W2.cell? ⟨wr.heap.size + 1, 5, none⟩ = some (.string PN) := by rw [cell_of_row W2 _ _ _ _ (0, 0) hr2]; rfl
    have j6 : W2.cell? ⟨wr.heap.size + 1, 6, none⟩ = some (.string ⟨#[]⟩) := by rw [cell_of_row W2 _ _ _ _ (0, 0) hr2]; rfl
    have j7 : W2.cell? ⟨wr.heap.size + 1, 7, none⟩ = some (.string ⟨#[]⟩) := by rw [cell_of_row W2 _ _ _ _ (0, 0) hr2]; rfl
    replace HO0 := Lib.hid (HO0.out.mv hb3)
    replace HS0 := Lib.hid (HS0.out.below hb3)
    replace HB := Lib.hid (Cv.next HB.out hb3)
    clear hr hb hr2 hb2
    obtain ⟨UC, hUC⟩ : ∃ UC, (⟨#[UInt8.ofNat (97 + q)]⟩ : ByteArray) = UC := ⟨_, rfl⟩
    have husz : UC.size = 1 := by rw [← hUC]; rfl
    rw [hUC] at hch hcat
    clear hUC
    obtain ⟨i0, i1, i2, _⟩ := HO0.out.get
    go_wp2_with fail
    have hdo := mDo_any (.agg #[.slice A0 n0 c0, .slice E0 m0 d0, .slice D0 k0 g0]) (deepS k false q) ⟨1, 0, 0, 0, 0, PN, ⟨#[]⟩, ⟨#[]⟩⟩ W2 HS0.out.weak (by show PN.size ≤ _; omega) (by show (0 : Nat) ≤ _; omega) (by show (0 : Nat) ≤ _; omega)
    obtain ⟨R1, hR1⟩ : ∃ R, doV (deepS k false q) ⟨1, 0, 0, 0, 0, PN, ⟨#[]⟩, ⟨#[]⟩⟩ = R := ⟨_, rfl⟩
    rw [hR1] at hdo
    have HR1E := Lib.hid hR1
    refine hdo.mono ?_
    clear hdo hR1
    rintro e1 x1 ⟨v1, rv1, rfl, hst, ⟨F1, f1, p1, rfl, hokF, hnF⟩, hb1⟩
    obtain ⟨A1, n1, c1, E1, m1, d1, D1, k1, g1, rfl, hIk, hDk, -⟩ := hst.at_
    obtain ⟨U1, w1, hU1, hV1, hy1, hyz1, ho, hr, hb⟩ := box_sr x1 (.slice A1 n1 c1) (.slice E1 m1 d1) (.slice D1 k1 g1) R1.2.code R1.2.fd R1.2.num R1.2.dir R1.2.data F1 f1 p1
    have hbb : Below W2.heap.size W2 w1 := Cv.next hb1 hb
    replace HO0 := Lib.hid (HO0.out.mv hbb)
    replace HS0 := Lib.hid (HS0.out.below hbb)
    replace HB := Lib.hid (Cv.next HB.out hbb)
    clear i0 i1 i2
    have HS1 := Lib.hid ((hst.lower (Nat.zero_le _)).below hb)
    have hxz1 := hb1.size
    have HO1 := Lib.hid ho
    have HR1 := Lib.hid hr
    have hsz1 := hbb.size
    clear hst hb1 ho hr hb hbb hokF hnF hIk hDk
    have hnx : deepS k false (q + 1) = R1.1 := by
     show (doV (deepS k false q) ⟨deepK k q false, 0, 0, 0, 0, deepP (q + 1), ⟨#[]⟩, ⟨#[]⟩⟩).1 = R1.1
     rw [HDK.out, HPN.out, HR1E.out]
    have f1 : R1.2.code = 0 := by rw [← HR1E.out]; exact HR_1.out
    replace HS1 : Hid (StAt (some 0) w1 (.agg #[.slice A1 n1 c1, .slice E1 m1 d1, .slice D1 k1 g1]) (deepS k false (q + 1))) := Lib.hid (by rw [hnx]; exact HS1.out)
    clear hnx
    obtain ⟨r0, r1, r2, r3, r4, r5, _⟩ := HR1.out.get
    rw [f1] at r0
    clear f1
    obtain ⟨i0, i1, i2, _⟩ := HO0.out.get
    go_wp2_with fail
    have h := code13_any (.agg #[.slice A0 n0 c0, .slice E0 m0 d0, .slice D0 k0 g0]) (deepS k false q) ⟨13, 0, 0, 0, 0, PN, ⟨#[]⟩, ⟨#[]⟩⟩ w1 HS0.out.weak (by show PN.size ≤ _; omega) (by show (0 : Nat) ≤ _; omega) (by show (0 : Nat) ≤ _; omega)
    rw [HR_2.out] at h
    refine h.mono ?_
    clear h
    rintro e2 y2 ⟨rfl, hb⟩
    replace HO0 := Lib.hid (HO0.out.mv hb)
    replace HO1 := Lib.hid (HO1.out.mv hb)
    replace HR1 := Lib.hid (HR1.out.mv hb)
    replace HS0 := Lib.hid (HS0.out.below hb)
    replace HS1 := Lib.hid (HS1.out.below hb)
    replace HB := Lib.hid (Cv.next HB.out hb)
    clear r0 r1 r2 r3 r4 r5 i0 i1 i2
    clear hb
    obtain ⟨t0, t1, t2, _⟩ := HO1.out.get
    obtain ⟨s0, s1, s2, sf⟩ := HO0.out.get
    have sf0 := sf 0
    have sf1 := sf 1
    have sf2 := sf 2
    obtain ⟨z1, hz1, hoy, kC, hbC⟩ := HO0.out.three (.slice A1 n1 c1) (.slice E1 m1 d1) (.slice D1 k1 g1)
    have HS2 := Lib.hid (HS1.out.keep3 (kC _ (by decide)) (kC _ (by decide)) (kC _ (by decide)) (kC _ (by decide)))
    have HO2 := Lib.hid hoy
    have HB2 := Lib.hid (hbC w.heap.size w (by omega) HB.out)
    clear hoy kC hbC sf
    go_wp2_with fail
    go_roundw
    case rel => exact ⟨q + 1, A1, n1, c1, E1, m1, d1, D1, k1, g1, by rw [HPN.out], by go_num, by omega, HO2.out, HS2.out, HB2.out⟩
    case measure => simp [intOf]; omega
   ·by_cases hkq : q + 1 = k
    ·have hdk : deepK k q true = 0 := by unfold deepK; rw [decide_eq_true hkq]; rfl
     have ge : ((q : Int) == (k : Int) - 1) = true := by rw [beq_iff_eq]; omega
     obtain ⟨PN, hPN⟩ : ∃ PN, deepP (q + 1) = PN := ⟨_, rfl⟩
     have hns := deepP_size (q + 1)
     rw [hPN] at hns
     have hcat := deepP_next q (by omega)
     rw [HPQ.out, hPN] at hcat
     have HPN := Lib.hid hPN
     obtain ⟨hr1, hr2⟩ := deep_round k hk5 true q hlt
     rw [hdk, hPN] at hr1
     rw [hPN] at hr2
     have HR_1 := Lib.hid hr1
     have HR_2 := Lib.hid hr2
     have HDK := Lib.hid hdk
     clear hPN hr1 hr2 hdk
     have wq : IntKind.i64.wrap (97 + (q : Int)) = 97 + (q : Int) := IntWalk.i64_in _ (by omega)
     obtain ⟨W1, hW1, hr, hb, hzW⟩ := boxR wr #[.int .u8 (97 + (q : Int))] 5
     have hch := Cv.conv_one W1 wr.heap.size 1 _ (deep_cell wr q (by omega) W1 hW1)
     obtain ⟨W2, hW2, hr2, hb2, hzW2⟩ := boxR W1 #[.int .i64 1, .int .i64 0, .int .i64 0, .int .i64 0, .int .i64 0, .string PN, .string ⟨#[]⟩, .string ⟨#[]⟩] 32
     have q6 : W2.setCell ⟨W1.heap.size, 6, none⟩ (.string ⟨#[]⟩) = W2 := by rw [← hW2, World.setCell_alloc_new]; rfl
     have q7 : W2.setCell ⟨W1.heap.size, 7, none⟩ (.string ⟨#[]⟩) = W2 := by rw [← hW2, World.setCell_alloc_new]; rfl
     rw [hzW] at hr2 q6 q7
     have hb3 : Below wr.heap.size wr W2 := Cv.next hb hb2
     have fz0 := frozen_of_row W2 (wr.heap.size + 1) 0 _ _ hr2
     have fz1 := frozen_of_row W2 (wr.heap.size + 1) 1 _ _ hr2
     have fz2 := frozen_of_row W2 (wr.heap.size + 1) 2 _ _ hr2
     have fz3 := frozen_of_row W2 (wr.heap.size + 1) 3 _ _ hr2
     have fz4 := frozen_of_row W2 (wr.heap.size + 1) 4 _ _ hr2
     have fz5 := frozen_of_row W2 (wr.heap.size + 1) 5 _ _ hr2
     have fz6 := frozen_of_row W2 (wr.heap.size + 1) 6 _ _ hr2
     have fz7 := frozen_of_row W2 (wr.heap.size + 1) 7 _ _ hr2
     obtain ⟨W3, hW3⟩ : ∃ W3, W2.setCell ⟨wr.heap.size + 1, 0, none⟩ (.int .i64 0) = W3 := ⟨_, rfl⟩
     have hr3 : W3.heap[wr.heap.size + 1]? = some (.cells #[.int .i64 0, .int .i64 0, .int .i64 0, .int .i64 0, .int .i64 0, .string PN, .string ⟨#[]⟩, .string ⟨#[]⟩] 32 (0, 0)) := by rw [← hW3]; exact heap_setCell_same W2 _ 0 _ _ _ hr2
     replace hb3 : Below wr.heap.size wr W3 := by rw [← hW3]; exact hb3.setCell (by show wr.heap.size ≤ wr.heap.size + 1; omega) _
     have cc0 : W2.cell? ⟨wr.heap.size + 1, 0, none⟩ = some (.int .i64 1) := by rw [cell_of_row W2 _ _ _ _ (0, 0) hr2]; rfl
     have cc1 : W2.cell? ⟨wr.heap.size + 1, 1, none⟩ = some (.int .i64 0) := by rw [cell_of_row W2 _ _ _ _ (0, 0) hr2]; rfl
     have cc2 : W2.cell? ⟨wr.heap.size + 1, 2, none⟩ = some (.int .i64 0) := by rw [cell_of_row W2 _ _ _ _ (0, 0) hr2]; rfl
     have cc3 : W2.cell? ⟨wr.heap.size + 1, 3, none⟩ = some (.int .i64 0) := by rw [cell_of_row W2 _ _ _ _ (0, 0) hr2]; rfl
     have cc4 : W2.cell? ⟨wr.heap.size + 1, 4, none⟩ = some (.int .i64 0) := by rw [cell_of_row W2 _ _ _ _ (0, 0) hr2]; rfl
     have cc5 : W2.cell? ⟨wr.heap.size + 1, 5, none⟩ = some (.string PN) := by rw [cell_of_row W2 _ _ _ _ (0, 0) hr2]; rfl
     have cc6 : W2.cell? ⟨wr.heap.size + 1, 6, none⟩ = some (.string ⟨#[]⟩) := by rw [cell_of_row W2 _ _ _ _ (0, 0) hr2]; rfl
     have cc7 : W2.cell? ⟨wr.heap.size + 1, 7, none⟩ = some (.string ⟨#[]⟩) := by rw [cell_of_row W2 _ _ _ _ (0, 0) hr2]; rfl
     have j0 : W3.cell? ⟨wr.heap.size + 1, 0, none⟩ = some (.int .i64 0) := by rw [cell_of_row W3 _ _ _ _ (0, 0) hr3]; rfl
     have j1 : W3.cell? ⟨wr.heap.size + 1, 1, none⟩ = some (.int .i64 0) := by rw [cell_of_row W3 _ _ _ _ (0, 0) hr3]; rfl
     have j2 : W3.cell? ⟨wr.heap.size + 1, 2, none⟩ = some (.int .i64 0) := by rw [cell_of_row W3 _ _ _ _ (0, 0) hr3]; rfl
     have j3 : W3.cell? ⟨wr.heap.size + 1, 3, none⟩ = some (.int .i64 0) := by rw [cell_of_row W3 _ _ _ _ (0, 0) hr3]; rfl
     have j4 : W3.cell? ⟨wr.heap.size + 1, 4, none⟩ = some (.int .i64 0) := by rw [cell_of_row W3 _ _ _ _ (0, 0) hr3]; rfl
     have j5 : W3.cell? ⟨wr.heap.size + 1, 5, none⟩ = some (.string PN) := by rw [cell_of_row W3 _ _ _ _ (0, 0) hr3]; rfl
     have j6 : W3.cell? ⟨wr.heap.size + 1, 6, none⟩ = some (.string ⟨#[]⟩) := by rw [cell_of_row W3 _ _ _ _ (0, 0) hr3]; rfl
     have j7 : W3.cell? ⟨wr.heap.size + 1, 7, none⟩ = some (.string ⟨#[]⟩) := by rw [cell_of_row W3 _ _ _ _ (0, 0) hr3]; rfl
     replace HO0 := Lib.hid (HO0.out.mv hb3)
     replace HS0 := Lib.hid (HS0.out.below hb3)
     replace HB := Lib.hid (Cv.next HB.out hb3)
     clear hr hb hr2 hb2 hr3
     obtain ⟨UC, hUC⟩ : ∃ UC, (⟨#[UInt8.ofNat (97 + q)]⟩ : ByteArray) = UC := ⟨_, rfl⟩
     have husz : UC.size = 1 := by rw [← hUC]; rfl
     rw [hUC] at hch hcat
     clear hUC
     obtain ⟨i0, i1, i2, _⟩ := HO0.out.get
     go_wp2_with fail
     have hdo := mDo_any (.agg #[.slice A0 n0 c0, .slice E0 m0 d0, .slice D0 k0 g0]) (deepS k true q) ⟨0, 0, 0, 0, 0, PN, ⟨#[]⟩, ⟨#[]⟩⟩ W3 HS0.out.weak (by show PN.size ≤ _; omega) (by show (0 : Nat) ≤ _; omega) (by show (0 : Nat) ≤ _; omega)
     obtain ⟨R1, hR1⟩ : ∃ R, doV (deepS k true q) ⟨0, 0, 0, 0, 0, PN, ⟨#[]⟩, ⟨#[]⟩⟩ = R := ⟨_, rfl⟩
     rw [hR1] at hdo
     have HR1E := Lib.hid hR1
     refine hdo.mono ?_
     clear hdo hR1
     rintro e1 x1 ⟨v1, rv1, rfl, hst, ⟨F1, f1, p1, rfl, hokF, hnF⟩, hb1⟩
     obtain ⟨A1, n1, c1, E1, m1, d1, D1, k1, g1, rfl, hIk, hDk, -⟩ := hst.at_
     obtain ⟨U1, w1, hU1, hV1, hy1, hyz1, ho, hr, hb⟩ := box_sr x1 (.slice A1 n1 c1) (.slice E1 m1 d1) (.slice D1 k1 g1) R1.2.code R1.2.fd R1.2.num R1.2.dir R1.2.data F1 f1 p1
     have hbb : Below W3.heap.size W3 w1 := Cv.next hb1 hb
     replace HO0 := Lib.hid (HO0.out.mv hbb)
     replace HS0 := Lib.hid (HS0.out.below hbb)
     replace HB := Lib.hid (Cv.next HB.out hbb)
     clear i0 i1 i2
     have HS1 := Lib.hid ((hst.lower (Nat.zero_le _)).below hb)
     have hxz1 := hb1.size
     have HO1 := Lib.hid ho
     have HR1 := Lib.hid hr
     have hsz1 := hbb.size
     clear hst hb1 ho hr hb hbb hokF hnF hIk hDk
     have hnx : deepS k true (q + 1) = R1.1 := by
      show (doV (deepS k true q) ⟨deepK k q true, 0, 0, 0, 0, deepP (q + 1), ⟨#[]⟩, ⟨#[]⟩⟩).1 = R1.1
      rw [HDK.out, HPN.out, HR1E.out]
     have f1 : R1.2.code = 0 := by rw [← HR1E.out]; exact HR_1.out
     replace HS1 : Hid (StAt (some 0) w1 (.agg #[.slice A1 n1 c1, .slice E1 m1 d1, .slice D1 k1 g1]) (deepS k true (q + 1))) := Lib.hid (by rw [hnx]; exact HS1.out)
     clear hnx
     obtain ⟨r0, r1, r2, r3, r4, r5, _⟩ := HR1.out.get
     rw [f1] at r0
     clear f1
     obtain ⟨i0, i1, i2, _⟩ := HO0.out.get
     go_wp2_with fail
     have h := code13_any (.agg #[.slice A0 n0 c0, .slice E0 m0 d0, .slice D0 k0 g0]) (deepS k true q) ⟨13, 0, 0, 0, 0, PN, ⟨#[]⟩, ⟨#[]⟩⟩ w1 HS0.out.weak (by show PN.size ≤ _; omega) (by show (0 : Nat) ≤ _; omega) (by show (0 : Nat) ≤ _; omega)
     rw [HR_2.out] at h
     refine h.mono ?_
     clear h
     rintro e2 y2 ⟨rfl, hb⟩
     replace HO0 := Lib.hid (HO0.out.mv hb)
     replace HO1 := Lib.hid (HO1.out.mv hb)
     replace HR1 := Lib.hid (HR1.out.mv hb)
     replace HS0 := Lib.hid (HS0.out.below hb)
     replace HS1 := Lib.hid (HS1.out.below hb)
     replace HB := Lib.hid (Cv.next HB.out hb)
     clear r0 r1 r2 r3 r4 r5 i0 i1 i2
     clear hb
     obtain ⟨t0, t1, t2, _⟩ := HO1.out.get
     obtain ⟨s0, s1, s2, sf⟩ := HO0.out.get
     have sf0 := sf 0
     have sf1 := sf 1
     have sf2 := sf 2
     obtain ⟨z1, hz1, hoy, kC, hbC⟩ := HO0.out.three (.slice A1 n1 c1) (.slice E1 m1 d1) (.slice D1 k1 g1)
     have HS2 := Lib.hid (HS1.out.keep3 (kC _ (by decide)) (kC _ (by decide)) (kC _ (by decide)) (kC _ (by decide)))
     have HO2 := Lib.hid hoy
     have HB2 := Lib.hid (hbC w.heap.size w (by omega) HB.out)
     clear hoy kC hbC sf
     go_wp2_with fail
     go_roundw
     case rel => exact ⟨q + 1, A1, n1, c1, E1, m1, d1, D1, k1, g1, by rw [HPN.out], by go_num, by omega, HO2.out, HS2.out, HB2.out⟩
     case measure => simp [intOf]; omega
    ·have hdk : deepK k q true = 1 := by unfold deepK; rw [decide_eq_false (by omega : ¬ q + 1 = k)]; rfl
     have ge : ((q : Int) == (k : Int) - 1) = false := by rw [beq_eq_false_iff_ne]; omega
     obtain ⟨PN, hPN⟩ : ∃ PN, deepP (q + 1) = PN := ⟨_, rfl⟩
     have hns := deepP_size (q + 1)
     rw [hPN] at hns
     have hcat := deepP_next q (by omega)
     rw [HPQ.out, hPN] at hcat
     have HPN := Lib.hid hPN
     obtain ⟨hr1, hr2⟩ := deep_round k hk5 true q hlt
     rw [hdk, hPN] at hr1
     rw [hPN] at hr2
     have HR_1 := Lib.hid hr1
     have HR_2 := Lib.hid hr2
     have HDK := Lib.hid hdk
     clear hPN hr1 hr2 hdk
     have wq : IntKind.i64.wrap (97 + (q : Int)) = 97 + (q : Int) := IntWalk.i64_in _ (by omega)
     obtain ⟨W1, hW1, hr, hb, hzW⟩ := boxR wr #[.int .u8 (97 + (q : Int))] 5
     have hch := Cv.conv_one W1 wr.heap.size 1 _ (deep_cell wr q (by omega) W1 hW1)
     obtain ⟨W2, hW2, hr2, hb2, hzW2⟩ := boxR W1 #[.int .i64 1, .int .i64 0, .int .i64 0, .int .i64 0, .int .i64 0, .string PN, .string ⟨#[]⟩, .string ⟨#[]⟩] 32
     have q6 : W2.setCell ⟨W1.heap.size, 6, none⟩ (.string ⟨#[]⟩) = W2 := by rw [← hW2, World.setCell_alloc_new]; rfl
     have q7 : W2.setCell ⟨W1.heap.size, 7, none⟩ (.string ⟨#[]⟩) = W2 := by rw [← hW2, World.setCell_alloc_new]; rfl
     rw [hzW] at hr2 q6 q7
     have hb3 : Below wr.heap.size wr W2 := Cv.next hb hb2
     have fz0 := frozen_of_row W2 (wr.heap.size + 1) 0 _ _ hr2
     have fz1 := frozen_of_row W2 (wr.heap.size + 1) 1 _ _ hr2
     have fz2 := frozen_of_row W2 (wr.heap.size + 1) 2 _ _ hr2
     have fz3 := frozen_of_row W2 (wr.heap.size + 1) 3 _ _ hr2
     have fz4 := frozen_of_row W2 (wr.heap.size + 1) 4 _ _ hr2
     have fz5 := frozen_of_row W2 (wr.heap.size + 1) 5 _ _ hr2
     have fz6 := frozen_of_row W2 (wr.heap.size + 1) 6 _ _ hr2
     have fz7 := frozen_of_row W2 (wr.heap.size + 1) 7 _ _ hr2
     have j0 : W2.cell? ⟨wr.heap.size + 1, 0, none⟩ = some (.int .i64 1) := by rw [cell_of_row W2 _ _ _ _ (0, 0) hr2]; rfl
     have j1 : W2.cell? ⟨wr.heap.size + 1, 1, none⟩ = some (.int .i64 0) := by rw [cell_of_row W2 _ _ _ _ (0, 0) hr2]; rfl
     have j2 : W2.cell? ⟨wr.heap.size + 1, 2, none⟩ = some (.int .i64 0) := by rw [cell_of_row W2 _ _ _ _ (0, 0) hr2]; rfl
     have j3 : W2.cell? ⟨wr.heap.size + 1, 3, none⟩ = some (.int .i64 0) := by rw [cell_of_row W2 _ _ _ _ (0, 0) hr2]; rfl
     have j4 : W2.cell? ⟨wr.heap.size + 1, 4, none⟩ = some (.int .i64 0) := by rw [cell_of_row W2 _ _ _ _ (0, 0) hr2]; rfl
     have j5 : W2.cell? ⟨wr.heap.size + 1, 5, none⟩ = some (.string PN) := by rw [cell_of_row W2 _ _ _ _ (0, 0) hr2]; rfl
     have j6 : W2.cell? ⟨wr.heap.size + 1, 6, none⟩ = some (.string ⟨#[]⟩) := by rw [cell_of_row W2 _ _ _ _ (0, 0) hr2]; rfl
     have j7 : W2.cell? ⟨wr.heap.size + 1, 7, none⟩ = some (.string ⟨#[]⟩) := by rw [cell_of_row W2 _ _ _ _ (0, 0) hr2]; rfl
     replace HO0 := Lib.hid (HO0.out.mv hb3)
     replace HS0 := Lib.hid (HS0.out.below hb3)
     replace HB := Lib.hid (Cv.next HB.out hb3)
     clear hr hb hr2 hb2
     obtain ⟨UC, hUC⟩ : ∃ UC, (⟨#[UInt8.ofNat (97 + q)]⟩ : ByteArray) = UC := ⟨_, rfl⟩
     have husz : UC.size = 1 := by rw [← hUC]; rfl
     rw [hUC] at hch hcat
     clear hUC
     obtain ⟨i0, i1, i2, _⟩ := HO0.out.get
     go_wp2_with fail
     have hdo := mDo_any (.agg #[.slice A0 n0 c0, .slice E0 m0 d0, .slice D0 k0 g0]) (deepS k true q) ⟨1, 0, 0, 0, 0, PN, ⟨#[]⟩, ⟨#[]⟩⟩ W2 HS0.out.weak (by show PN.size ≤ _; omega) (by show (0 : Nat) ≤ _; omega) (by show (0 : Nat) ≤ _; omega)
     obtain ⟨R1, hR1⟩ : ∃ R, doV (deepS k true q) ⟨1, 0, 0, 0, 0, PN, ⟨#[]⟩, ⟨#[]⟩⟩ = R := ⟨_, rfl⟩
     rw [hR1] at hdo
     have HR1E := Lib.hid hR1
     refine hdo.mono ?_
     clear hdo hR1
     rintro e1 x1 ⟨v1, rv1, rfl, hst, ⟨F1, f1, p1, rfl, hokF, hnF⟩, hb1⟩
     obtain ⟨A1, n1, c1, E1, m1, d1, D1, k1, g1, rfl, hIk, hDk, -⟩ := hst.at_
     obtain ⟨U1, w1, hU1, hV1, hy1, hyz1, ho, hr, hb⟩ := box_sr x1 (.slice A1 n1 c1) (.slice E1 m1 d1) (.slice D1 k1 g1) R1.2.code R1.2.fd R1.2.num R1.2.dir R1.2.data F1 f1 p1
     have hbb : Below W2.heap.size W2 w1 := Cv.next hb1 hb
     replace HO0 := Lib.hid (HO0.out.mv hbb)
     replace HS0 := Lib.hid (HS0.out.below hbb)
     replace HB := Lib.hid (Cv.next HB.out hbb)
     clear i0 i1 i2
     have HS1 := Lib.hid ((hst.lower (Nat.zero_le _)).below hb)
     have hxz1 := hb1.size
     have HO1 := Lib.hid ho
     have HR1 := Lib.hid hr
     have hsz1 := hbb.size
     clear hst hb1 ho hr hb hbb hokF hnF hIk hDk
     have hnx : deepS k true (q + 1) = R1.1 := by
      show (doV (deepS k true q) ⟨deepK k q true, 0, 0, 0, 0, deepP (q + 1), ⟨#[]⟩, ⟨#[]⟩⟩).1 = R1.1
      rw [HDK.out, HPN.out, HR1E.out]
     have f1 : R1.2.code = 0 := by rw [← HR1E.out]; exact HR_1.out
     replace HS1 : Hid (StAt (some 0) w1 (.agg #[.slice A1 n1 c1, .slice E1 m1 d1, .slice D1 k1 g1]) (deepS k true (q + 1))) := Lib.hid (by rw [hnx]; exact HS1.out)
     clear hnx
     obtain ⟨r0, r1, r2, r3, r4, r5, _⟩ := HR1.out.get
     rw [f1] at r0
     clear f1
     obtain ⟨i0, i1, i2, _⟩ := HO0.out.get
     go_wp2_with fail
     have h := code13_any (.agg #[.slice A0 n0 c0, .slice E0 m0 d0, .slice D0 k0 g0]) (deepS k true q) ⟨13, 0, 0, 0, 0, PN, ⟨#[]⟩, ⟨#[]⟩⟩ w1 HS0.out.weak (by show PN.size ≤ _; omega) (by show (0 : Nat) ≤ _; omega) (by show (0 : Nat) ≤ _; omega)
     rw [HR_2.out] at h
     refine h.mono ?_
     clear h
     rintro e2 y2 ⟨rfl, hb⟩
     replace HO0 := Lib.hid (HO0.out.mv hb)
     replace HO1 := Lib.hid (HO1.out.mv hb)
     replace HR1 := Lib.hid (HR1.out.mv hb)
     replace HS0 := Lib.hid (HS0.out.below hb)
     replace HS1 := Lib.hid (HS1.out.below hb)
     replace HB := Lib.hid (Cv.next HB.out hb)
     clear r0 r1 r2 r3 r4 r5 i0 i1 i2
     clear hb
     obtain ⟨t0, t1, t2, _⟩ := HO1.out.get
     obtain ⟨s0, s1, s2, sf⟩ := HO0.out.get
     have sf0 := sf 0
     have sf1 := sf 1
     have sf2 := sf 2
     obtain ⟨z1, hz1, hoy, kC, hbC⟩ := HO0.out.three (.slice A1 n1 c1) (.slice E1 m1 d1) (.slice D1 k1 g1)
     have HS2 := Lib.hid (HS1.out.keep3 (kC _ (by decide)) (kC _ (by decide)) (kC _ (by decide)) (kC _ (by decide)))
     have HO2 := Lib.hid hoy
     have HB2 := Lib.hid (hbC w.heap.size w (by omega) HB.out)
     clear hoy kC hbC sf
     go_wp2_with fail
     go_roundw
     case rel => exact ⟨q + 1, A1, n1, c1, E1, m1, d1, D1, k1, g1, by rw [HPN.out], by go_num, by omega, HO2.out, HS2.out, HB2.out⟩
     case measure => simp [intOf]; omega
  ·have e9 : q = k := by omega
   subst e9
   have g7 : decide ((q : Int) < (q : Int)) = false := by simp
   obtain ⟨d1, d2, d3, d4⟩ := deep_end q hk5 hk1 file
   have hcn := deepP_n q hk5
   have hcz := deepP_z q hk5 hk1
   have h2 := deepP_two q hk5 hk1
   rw [← hcn] at d2
   rw [HPQ.out] at hcn hcz h2 d2 d4
   obtain ⟨QQ, hQQ⟩ : ∃ QQ, deepQ q = QQ := ⟨_, rfl⟩
   rw [hQQ] at hcz d3
   have hqs : QQ.size ≤ 8 := by rw [← hQQ]; exact deepQ_size q
   obtain ⟨PX, hPX⟩ : ∃ PX, PQ ++ (⟨#[47, 110]⟩ : ByteArray) = PX := ⟨_, rfl⟩
   rw [hPX] at d2
   have hxs : PX.size ≤ 10 := by rw [← hPX, ByteArray.size_append]; show PQ.size + 2 ≤ 10; omega
   have DF1 := Lib.hid d1
   have DF2 := Lib.hid d2
   have DF3 := Lib.hid d3
   have DF4 := Lib.hid d4
   clear d1 d2 d3 d4 hQQ hcn
   obtain ⟨i0, i1, i2, _⟩ := HO0.out.get
   go_wp2_with fail
   have hdo := mDo_any (.agg #[.slice A0 n0 c0, .slice E0 m0 d0, .slice D0 k0 g0]) (deepS q file q) ⟨11, 0, 0, 0, 0, ⟨#[47, 97]⟩, ⟨#[47, 122]⟩, ⟨#[]⟩⟩ wr HS0.out.weak (by show (2 : Nat) ≤ _; omega) (by show (2 : Nat) ≤ _; omega) (by show (0 : Nat) ≤ _; omega)
   obtain ⟨R1, hR1⟩ : ∃ R, doV (deepS q file q) ⟨11, 0, 0, 0, 0, ⟨#[47, 97]⟩, ⟨#[47, 122]⟩, ⟨#[]⟩⟩ = R := ⟨_, rfl⟩
   rw [hR1] at hdo
   have HR1E := Lib.hid hR1
   refine hdo.mono ?_
   clear hdo hR1
   rintro e1 x1 ⟨v1, rv1, rfl, hst, ⟨F1, f1, p1, rfl, hokF, hnF⟩, hb1⟩
   obtain ⟨A1, n1, c1, E1, m1, d1, D1, k1, g1, rfl, hIk, hDk, -⟩ := hst.at_
   obtain ⟨U1, w1, hU1, hV1, hy1, hyz1, ho, hr, hb⟩ := box_sr x1 (.slice A1 n1 c1) (.slice E1 m1 d1) (.slice D1 k1 g1) R1.2.code R1.2.fd R1.2.num R1.2.dir R1.2.data F1 f1 p1
   have hbb : Below wr.heap.size wr w1 := Cv.next hb1 hb
   replace HO0 := Lib.hid (HO0.out.mv hbb)
   replace HS0 := Lib.hid (HS0.out.below hbb)
   replace HB := Lib.hid (Cv.next HB.out hbb)
   clear i0 i1 i2
   have HS1 := Lib.hid ((hst.lower (Nat.zero_le _)).below hb)
   have hxz1 := hb1.size
   have HO1 := Lib.hid ho
   have HR1 := Lib.hid hr
   have hsz1 := hbb.size
   clear hst hb1 ho hr hb hbb hokF hnF hIk hDk
   have f1 : R1.2.code = 0 := by rw [← HR1E.out]; exact DF1.out
   have hnx : deepT q file = R1.1 := by rw [← HR1E.out]; rfl
   replace HS1 : Hid (StAt (some 0) w1 (.agg #[.slice A1 n1 c1, .slice E1 m1 d1, .slice D1 k1 g1]) (deepT q file)) := Lib.hid (by rw [hnx]; exact HS1.out)
   clear hnx
   have HF1 := Lib.hid f1
   clear f1
   obtain ⟨i0, i1, i2, _⟩ := HO0.out.get
   go_wp2_with fail
   clear i0 i1 i2
   by_cases h4 : q = 4
   ·have hw : deepW q file = 6 := by unfold deepW; rw [if_pos h4]
    have ge : ((q : Int) == 4) = true := by rw [beq_iff_eq]; omega
    clear h4
    have DF5 := Lib.hid (DF2.out.trans hw)
    clear hw
    have h := code13_any (.agg #[.slice A0 n0 c0, .slice E0 m0 d0, .slice D0 k0 g0]) (deepS q file q) ⟨0, 0, 0, 0, 0, PX, ⟨#[]⟩, ⟨#[]⟩⟩ w1 HS0.out.weak (by show PX.size ≤ _; omega) (by show (0 : Nat) ≤ _; omega) (by show (0 : Nat) ≤ _; omega)
    rw [DF5.out] at h
    refine h.mono ?_
    clear h
    rintro e2 y2 ⟨rfl, hb⟩
    replace HO0 := Lib.hid (HO0.out.mv hb)
    replace HO1 := Lib.hid (HO1.out.mv hb)
    replace HR1 := Lib.hid (HR1.out.mv hb)
    replace HS0 := Lib.hid (HS0.out.below hb)
    replace HS1 := Lib.hid (HS1.out.below hb)
    replace HB := Lib.hid (Cv.next HB.out hb)
    clear hb
    obtain ⟨r0, r1, r2, r3, r4, r5, _⟩ := HR1.out.get
    have f1 := HF1.out
    rw [f1] at r0
    clear f1
    obtain ⟨t0, t1, t2, _⟩ := HO1.out.get
    go_wp2_with fail
    have h := code13_any (.agg #[.slice A1 n1 c1, .slice E1 m1 d1, .slice D1 k1 g1]) (deepT q file) ⟨13, 0, 0, 0, 0, QQ, ⟨#[]⟩, ⟨#[]⟩⟩ y2 HS1.out.weak (by show QQ.size ≤ _; omega) (by show (0 : Nat) ≤ _; omega) (by show (0 : Nat) ≤ _; omega)
    rw [DF3.out] at h
    refine h.mono ?_
    clear h
    rintro e3 y3 ⟨rfl, hb⟩
    replace HO0 := Lib.hid (HO0.out.mv hb)
    replace HO1 := Lib.hid (HO1.out.mv hb)
    replace HR1 := Lib.hid (HR1.out.mv hb)
    replace HS0 := Lib.hid (HS0.out.below hb)
    replace HS1 := Lib.hid (HS1.out.below hb)
    replace HB := Lib.hid (Cv.next HB.out hb)
    clear r0 r1 r2 r3 r4 r5 t0 t1 t2
    clear hb
    obtain ⟨t0, t1, t2, _⟩ := HO1.out.get
    go_wp2_with fail
    have h := code13_any (.agg #[.slice A1 n1 c1, .slice E1 m1 d1, .slice D1 k1 g1]) (deepT q file) ⟨13, 0, 0, 0, 0, PQ, ⟨#[]⟩, ⟨#[]⟩⟩ y3 HS1.out.weak (by show PQ.size ≤ _; omega) (by show (0 : Nat) ≤ _; omega) (by show (0 : Nat) ≤ _; omega)
    rw [DF4.out] at h
    refine h.mono ?_
    clear h
    rintro e4 y4 ⟨rfl, hb⟩
    replace HO0 := Lib.hid (HO0.out.mv hb)
    replace HO1 := Lib.hid (HO1.out.mv hb)
    replace HR1 := Lib.hid (HR1.out.mv hb)
    replace HS0 := Lib.hid (HS0.out.below hb)
    replace HS1 := Lib.hid (HS1.out.below hb)
    replace HB := Lib.hid (Cv.next HB.out hb)
    clear t0 t1 t2
    clear hb
    go_wp2_with fail
    go_ret
    exact ⟨rfl, HB.out⟩
   ·have ge : ((q : Int) == 4) = false := by rw [beq_eq_false_iff_ne]; omega
    cases file
    ·have hw : deepW q false = 0 := by unfold deepW; rw [if_neg h4]; rfl
     clear h4
     have DF5 := Lib.hid (DF2.out.trans hw)
     clear hw
     have h := code13_any (.agg #[.slice A0 n0 c0, .slice E0 m0 d0, .slice D0 k0 g0]) (deepS q false q) ⟨0, 0, 0, 0, 0, PX, ⟨#[]⟩, ⟨#[]⟩⟩ w1 HS0.out.weak (by show PX.size ≤ _; omega) (by show (0 : Nat) ≤ _; omega) (by show (0 : Nat) ≤ _; omega)
     rw [DF5.out] at h
     refine h.mono ?_
     clear h
     rintro e2 y2 ⟨rfl, hb⟩
     replace HO0 := Lib.hid (HO0.out.mv hb)
     replace HO1 := Lib.hid (HO1.out.mv hb)
     replace HR1 := Lib.hid (HR1.out.mv hb)
     replace HS0 := Lib.hid (HS0.out.below hb)
     replace HS1 := Lib.hid (HS1.out.below hb)
     replace HB := Lib.hid (Cv.next HB.out hb)
     clear hb
     obtain ⟨r0, r1, r2, r3, r4, r5, _⟩ := HR1.out.get
     have f1 := HF1.out
     rw [f1] at r0
     clear f1
     obtain ⟨t0, t1, t2, _⟩ := HO1.out.get
     go_wp2_with fail
     have h := code13_any (.agg #[.slice A1 n1 c1, .slice E1 m1 d1, .slice D1 k1 g1]) (deepT q false) ⟨13, 0, 0, 0, 0, QQ, ⟨#[]⟩, ⟨#[]⟩⟩ y2 HS1.out.weak (by show QQ.size ≤ _; omega) (by show (0 : Nat) ≤ _; omega) (by show (0 : Nat) ≤ _; omega)
     rw [DF3.out] at h
     refine h.mono ?_
     clear h
     rintro e3 y3 ⟨rfl, hb⟩
     replace HO0 := Lib.hid (HO0.out.mv hb)
     replace HO1 := Lib.hid (HO1.out.mv hb)
     replace HR1 := Lib.hid (HR1.out.mv hb)
     replace HS0 := Lib.hid (HS0.out.below hb)
     replace HS1 := Lib.hid (HS1.out.below hb)
     replace HB := Lib.hid (Cv.next HB.out hb)
     clear r0 r1 r2 r3 r4 r5 t0 t1 t2
     clear hb
     obtain ⟨t0, t1, t2, _⟩ := HO1.out.get
     go_wp2_with fail
     have h := code13_any (.agg #[.slice A1 n1 c1, .slice E1 m1 d1, .slice D1 k1 g1]) (deepT q false) ⟨13, 0, 0, 0, 0, PQ, ⟨#[]⟩, ⟨#[]⟩⟩ y3 HS1.out.weak (by show PQ.size ≤ _; omega) (by show (0 : Nat) ≤ _; omega) (by show (0 : Nat) ≤ _; omega)
     rw [DF4.out] at h
     refine h.mono ?_
     clear h
     rintro e4 y4 ⟨rfl, hb⟩
     replace HO0 := Lib.hid (HO0.out.mv hb)
     replace HO1 := Lib.hid (HO1.out.mv hb)
     replace HR1 := Lib.hid (HR1.out.mv hb)
     replace HS0 := Lib.hid (HS0.out.below hb)
     replace HS1 := Lib.hid (HS1.out.below hb)
     replace HB := Lib.hid (Cv.next HB.out hb)
     clear t0 t1 t2
     clear hb
     go_wp2_with fail
     go_ret
     exact ⟨rfl, HB.out⟩
    ·have hw : deepW q true = 7 := by unfold deepW; rw [if_neg h4]; rfl
     clear h4
     have DF5 := Lib.hid (DF2.out.trans hw)
     clear hw
     have h := code13_any (.agg #[.slice A0 n0 c0, .slice E0 m0 d0, .slice D0 k0 g0]) (deepS q true q) ⟨0, 0, 0, 0, 0, PX, ⟨#[]⟩, ⟨#[]⟩⟩ w1 HS0.out.weak (by show PX.size ≤ _; omega) (by show (0 : Nat) ≤ _; omega) (by show (0 : Nat) ≤ _; omega)
     rw [DF5.out] at h
     refine h.mono ?_
     clear h
     rintro e2 y2 ⟨rfl, hb⟩
     replace HO0 := Lib.hid (HO0.out.mv hb)
     replace HO1 := Lib.hid (HO1.out.mv hb)
     replace HR1 := Lib.hid (HR1.out.mv hb)
     replace HS0 := Lib.hid (HS0.out.below hb)
     replace HS1 := Lib.hid (HS1.out.below hb)
     replace HB := Lib.hid (Cv.next HB.out hb)
     clear hb
     obtain ⟨r0, r1, r2, r3, r4, r5, _⟩ := HR1.out.get
     have f1 := HF1.out
     rw [f1] at r0
     clear f1
     obtain ⟨t0, t1, t2, _⟩ := HO1.out.get
     go_wp2_with fail
     have h := code13_any (.agg #[.slice A1 n1 c1, .slice E1 m1 d1, .slice D1 k1 g1]) (deepT q true) ⟨13, 0, 0, 0, 0, QQ, ⟨#[]⟩, ⟨#[]⟩⟩ y2 HS1.out.weak (by show QQ.size ≤ _; omega) (by show (0 : Nat) ≤ _; omega) (by show (0 : Nat) ≤ _; omega)
     rw [DF3.out] at h
     refine h.mono ?_
     clear h
     rintro e3 y3 ⟨rfl, hb⟩
     replace HO0 := Lib.hid (HO0.out.mv hb)
     replace HO1 := Lib.hid (HO1.out.mv hb)
     replace HR1 := Lib.hid (HR1.out.mv hb)
     replace HS0 := Lib.hid (HS0.out.below hb)
     replace HS1 := Lib.hid (HS1.out.below hb)
     replace HB := Lib.hid (Cv.next HB.out hb)
     clear r0 r1 r2 r3 r4 r5 t0 t1 t2
     clear hb
     obtain ⟨t0, t1, t2, _⟩ := HO1.out.get
     go_wp2_with fail
     have h := code13_any (.agg #[.slice A1 n1 c1, .slice E1 m1 d1, .slice D1 k1 g1]) (deepT q true) ⟨13, 0, 0, 0, 0, PQ, ⟨#[]⟩, ⟨#[]⟩⟩ y3 HS1.out.weak (by show PQ.size ≤ _; omega) (by show (0 : Nat) ≤ _; omega) (by show (0 : Nat) ≤ _; omega)
     rw [DF4.out] at h
     refine h.mono ?_
     clear h
     rintro e4 y4 ⟨rfl, hb⟩
     replace HO0 := Lib.hid (HO0.out.mv hb)
     replace HO1 := Lib.hid (HO1.out.mv hb)
     replace HR1 := Lib.hid (HR1.out.mv hb)
     replace HS0 := Lib.hid (HS0.out.below hb)
     replace HS1 := Lib.hid (HS1.out.below hb)
     replace HB := Lib.hid (Cv.next HB.out hb)
     clear t0 t1 t2
     clear hb
     go_wp2_with fail
     go_ret
     exact ⟨rfl, HB.out⟩
end Go.Proofs.Ytndcloohcfhejaa
