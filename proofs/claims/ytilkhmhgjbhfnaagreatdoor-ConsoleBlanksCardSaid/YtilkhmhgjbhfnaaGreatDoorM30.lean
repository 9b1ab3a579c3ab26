/- Parts of the proof, side by side: MoBytes0, MoLay, MoBytes1. -/
import Derived.Test.YtilkhmhgjbhfnaaGreatDoorM06
import Derived.Test.YtilkhmhgjbhfnaaGreatDoorM10
import Derived.Test.YtilkhmhgjbhfnaaGreatDoorM23
import Derived.Test.YtilkhmhgjbhfnaaGreatDoorM09
import Derived.Deep.RegionLaw
set_option linter.unusedVariables false
set_option linter.unusedSimpArgs false
namespace Go.Proofs.YtilkhmhgjbhfnaaGreatDoor
open Go.RowKit
theorem in_any (x : Int) (w : World) : Calls Tryz.prog 142 #[.int .i64 x] w fun e w' => e = .returned (.bool (decide (0 ≤ x ∧ x ≤ 256))) ∧ w = w' := by
 obtain ⟨Y, hY⟩ : ∃ Y, decide (0 ≤ x ∧ x ≤ 256) = Y := ⟨_, rfl⟩
 rw [hY]
 go_enter Tryz.func142, Tryz.ntmps142
 by_cases h1 : 0 ≤ x
 ·have q1 : decide (0 ≤ x) = true := decide_eq_true h1
  have q2 : decide (x ≤ 256) = Y := by rw [← hY]; by_cases h2 : x ≤ 256 <;> simp [h1, h2]
  clear hY
  go_wp2_with fail
  go_ret
  exact ⟨by first | rfl | rw [← q2], rfl⟩
 ·have q1 : decide (0 ≤ x) = false := decide_eq_false h1
  have q2 : Y = false := by rw [← hY]; exact decide_eq_false (fun h => h1 h.1)
  subst q2
  clear hY
  go_wp2_with fail
  go_ret
  exact ⟨rfl, rfl⟩
set_option maxRecDepth 100000 in
set_option maxHeartbeats 4000000 in
theorem cut_long (s : ByteArray) (k : Nat) (w : World) (hs : s.size ≤ k) (hk : k ≤ 65536) :
  Calls Tryz.prog 145 #[.string s, .int .i64 (k : Int)] w fun e w' => e = .returned (.string (txt (sizedL s.data.toList k))) ∧ Below w.heap.size w w' := by
 have hl : s.data.toList.length = s.size := Array.length_toList
 have hmk := run_make_row' (P := Tryz.prog) 37 5 (.int .u8 0) 1 Tryz.underlying37 infoByte rfl .i64 .i64 k (by omega) (by omega) w
 have hg0 := heap_alloc_new w (.cells (madeCells #[.int .u8 0] k) 5)
 have hcs : (madeCells #[Value.int .u8 0] k).size = k := by simp [madeCells]
 have hcp := fun ty => Lib.run_copy_row_string (P := Tryz.prog) (ty := ty) (w.alloc (.cells (madeCells #[.int .u8 0] k) 5)) 37 9 5 w.heap.size 0 k k s _ _ Tryz.underlying37 (by kernel_rfl) hg0 hs (by rw [hcs]; omega)
 obtain ⟨NC, hNC⟩ : ∃ NC : Array Value, (((madeCells #[Value.int .u8 0] k).toList.take 0) ++ Lib.byteCells s.data.toList ++ (madeCells #[Value.int .u8 0] k).toList.drop (0 + s.size)).toArray = NC := ⟨_, rfl⟩
 have hnc : NC = (Lib.byteCells (sizedL s.data.toList k)).toArray := by
  rw [← hNC, sizedL_long _ _ (by omega), Lib.byteCells_append]
  congr 1
  have e1 : (madeCells #[Value.int .u8 0] k).toList = List.replicate k (Value.int .u8 0) := by
   apply List.ext_getElem
   ·simp [madeCells]
   ·intro i h1 h2
    simp [madeCells, Nat.mod_one]
  rw [e1, hl]
  simp [Lib.byteCells]
 rw [hNC, hnc] at hcp
 obtain ⟨W2, hW2⟩ : ∃ W2, w.alloc (.cells (Lib.byteCells (sizedL s.data.toList k)).toArray 5) = W2 := ⟨_, rfl⟩
 have hcp2 : ∀ ty, (Builtin.copy_ #[37, 9] ty #[.slice (some ⟨w.heap.size, 0, none⟩) k k, .string s]).run Tryz.prog (w.alloc (.cells (madeCells #[.int .u8 0] k) 5)) = .ok (goInt s.size) W2 := by
  intro ty
  rw [hcp ty, World.setRow_alloc_new, hW2]
 have hrow : Cv.ByteRow W2 w.heap.size (sizedL s.data.toList k) := by
  have hh : W2.heap[w.heap.size]? = some (.cells (Lib.byteCells (sizedL s.data.toList k)).toArray 5 (0, 0)) := by rw [← hW2]; exact heap_alloc_new w _
  refine ⟨(Array.getElem?_eq_some_iff.1 hh).1, fun j hj => ⟨?_, frozen_of_row W2 w.heap.size j _ _ hh⟩⟩
  rw [cell_of_row W2 w.heap.size j _ _ (0, 0) hh]
  simp [Lib.byteCells, hj]
 have hb : Below w.heap.size w W2 := by rw [← hW2]; exact (Below.refl _ _).alloc (Nat.le_refl _) _
 obtain ⟨NT, hNT⟩ : ∃ NT : ByteArray, txt (sizedL s.data.toList k) = NT := ⟨_, rfl⟩
 have hconv : (convert 37 9 (.slice (some ⟨w.heap.size, 0, none⟩) k k)).run Tryz.prog W2 = .ok (.string NT) W2 := by
  rw [← hNT]
  exact Cv.back_of hrow k k (sizedL_len _ _)
 rw [hNT]
 have HB := Lib.hid hb
 clear hg0 hcs hcp hNC hnc hW2 hrow hb hl hNT
 go_enter Tryz.func145, Tryz.ntmps145
 go_wp2_with fail
 go_ret
 exact ⟨rfl, HB.out⟩
set_option maxRecDepth 100000 in
set_option maxHeartbeats 4000000 in
theorem cut_short (s : ByteArray) (k : Nat) (w : World) (hs : k ≤ s.size) (hk : k ≤ 65536) :
  Calls Tryz.prog 145 #[.string s, .int .i64 (k : Int)] w fun e w' => e = .returned (.string (txt (sizedL s.data.toList k))) ∧ Below w.heap.size w w' := by
 have hl : s.data.toList.length = s.size := Array.length_toList
 have hmk := run_make_row' (P := Tryz.prog) 37 5 (.int .u8 0) 1 Tryz.underlying37 infoByte rfl .i64 .i64 k (by omega) (by omega) w
 have hg0 := heap_alloc_new w (.cells (madeCells #[.int .u8 0] k) 5)
 have hcs : (madeCells #[Value.int .u8 0] k).size = k := by simp [madeCells]
 have hcp := fun ty => run_copy_row_cut (P := Tryz.prog) (ty := ty) (w.alloc (.cells (madeCells #[.int .u8 0] k) 5)) 37 9 5 w.heap.size k k s _ _ Tryz.underlying37 (by kernel_rfl) hg0 hs (by rw [hcs]; omega)
 obtain ⟨NC, hNC⟩ : ∃ NC : Array Value, (Lib.byteCells (s.data.toList.take k) ++ (madeCells #[Value.int .u8 0] k).toList.drop k).toArray = NC := ⟨_, rfl⟩
 have hnc : NC = (Lib.byteCells (sizedL s.data.toList k)).toArray := by
  rw [← hNC, sizedL_short _ _ (by omega), List.drop_of_length_le (by rw [Array.length_toList, hcs]; omega), List.append_nil]
 rw [hNC, hnc] at hcp
 obtain ⟨W2, hW2⟩ : ∃ W2, w.alloc (.cells (Lib.byteCells (sizedL s.data.toList k)).toArray 5) = W2 := ⟨_, rfl⟩
 have hcp2 : ∀ ty, (Builtin.copy_ #[37, 9] ty #[.slice (some ⟨w.heap.size, 0, none⟩) k k, .string s]).run Tryz.prog (w.alloc (.cells (madeCells #[.int .u8 0] k) 5)) = .ok (goInt k) W2 := by
  intro ty
  rw [hcp ty, World.setRow_alloc_new, hW2]
 have hrow : Cv.ByteRow W2 w.heap.size (sizedL s.data.toList k) := by
  have hh : W2.heap[w.heap.size]? = some (.cells (Lib.byteCells (sizedL s.data.toList k)).toArray 5 (0, 0)) := by rw [← hW2]; exact heap_alloc_new w _
  refine ⟨(Array.getElem?_eq_some_iff.1 hh).1, fun j hj => ⟨?_, frozen_of_row W2 w.heap.size j _ _ hh⟩⟩
  rw [cell_of_row W2 w.heap.size j _ _ (0, 0) hh]
  simp [Lib.byteCells, hj]
 have hb : Below w.heap.size w W2 := by rw [← hW2]; exact (Below.refl _ _).alloc (Nat.le_refl _) _
 obtain ⟨NT, hNT⟩ : ∃ NT : ByteArray, txt (sizedL s.data.toList k) = NT := ⟨_, rfl⟩
 have hconv : (convert 37 9 (.slice (some ⟨w.heap.size, 0, none⟩) k k)).run Tryz.prog W2 = .ok (.string NT) W2 := by
  rw [← hNT]
  exact Cv.back_of hrow k k (sizedL_len _ _)
 rw [hNT]
 have HB := Lib.hid hb
 clear hg0 hcs hcp hNC hnc hW2 hrow hb hl hNT
 go_enter Tryz.func145, Tryz.ntmps145
 go_wp2_with fail
 go_ret
 exact ⟨rfl, HB.out⟩
theorem cut_any (s : ByteArray) (k : Nat) (w : World) (hk : k ≤ 65536) :
  Calls Tryz.prog 145 #[.string s, .int .i64 (k : Int)] w fun e w' => e = .returned (.string (txt (sizedL s.data.toList k))) ∧ Below w.heap.size w w' := by
 by_cases h : s.size ≤ k
 ·exact cut_long s k w h hk
 ·exact cut_short s k w (by omega) hk
theorem piece_any (s : ByteArray) (o k : Nat) (w : World) (hs : s.size ≤ 140737488355328) (ho : o ≤ 256) (hk : k ≤ 256) :
  Calls Tryz.prog 143 #[.string s, .int .i64 (o : Int), .int .i64 (k : Int)] w fun e w' => e = .returned (.string (txt ((s.data.toList.drop o).take k))) ∧ w = w' := by
 have hp := piece_eq s o k hs ho hk
 obtain ⟨NT, hNT⟩ : ∃ NT : ByteArray, txt ((s.data.toList.drop o).take k) = NT := ⟨_, rfl⟩
 rw [hNT] at hp ⊢
 have ow : IntKind.i64.wrap ((o : Int) + (k : Int)) = ((o + k : Nat) : Int) := by rw [IntKind.wrap_i64]; omega
 by_cases h : s.size ≤ o
 ·have q1 : decide ((s.size : Int) ≤ (o : Int)) = true := by rw [decide_eq_true_eq]; omega
  have hn : NT = ⟨#[]⟩ := by
   rw [← hNT, List.drop_of_length_le (by rw [Array.length_toList]; exact h), List.take_nil]
   rfl
  subst hn
  clear hp hNT
  go_enter Tryz.func143, Tryz.ntmps143
  go_wp2_with fail
  go_ret
  exact ⟨rfl, rfl⟩
 ·have q1 : decide ((s.size : Int) ≤ (o : Int)) = false := by rw [decide_eq_false_iff_not]; omega
  rw [Nat.min_eq_left (by omega)] at hp
  obtain ⟨M, hM⟩ : ∃ M, min (o + k) s.size = M := ⟨_, rfl⟩
  rw [hM] at hp
  have m1 : min (s.size : Int) ((o + k : Nat) : Int) = (M : Int) := by rw [← hM]; omega
  have m2 : o ≤ M := by omega
  have m3 : M ≤ s.size := by omega
  have m4 : (o : Int) ≤ (M : Int) := by omega
  have m5 : (M : Int) ≤ (s.size : Int) := by omega
  have m6 : (0 : Int) ≤ (o : Int) := by omega
  have HP := Lib.hid hp
  clear hM hNT hp
  go_enter Tryz.func143, Tryz.ntmps143
  go_wp2_with fail
  go_ret
  have e9 : (min (s.size : Int) ((o : Int) + (k : Int))).toNat = M := by omega
  exact ⟨by rw [← HP.out]; show Ending.returned (.string (s.extract o (min (s.size : Int) ((o : Int) + (k : Int))).toNat)) = _; rw [e9], rfl⟩
theorem lay_none (s : ByteArray) (o : Nat) (d : ByteArray) (w : World) (hd : d.size = 0) :
  Calls Tryz.prog 144 #[.string s, .int .i64 (o : Int), .string d] w fun e w' => e = .returned (.string s) ∧ w = w' := by
 have h0 : d = ⟨#[]⟩ := by
  cases d with
  | mk a =>
   have : a.size = 0 := hd
   rw [Array.size_eq_zero_iff.1 this]
 subst h0
 go_enter Tryz.func144, Tryz.ntmps144
 go_wp2_with fail
 go_ret
 exact ⟨rfl, rfl⟩
set_option maxRecDepth 100000 in
set_option maxHeartbeats 4000000 in
theorem lay_any (s : ByteArray) (o : Nat) (d : ByteArray) (w : World) (hd : d.size ≠ 0) (hs : s.size ≤ 10000) (ho : o ≤ 10000) (hd2 : d.size ≤ 10000) :
  Calls Tryz.prog 144 #[.string s, .int .i64 (o : Int), .string d] w fun e w' => e = .returned (.string (txt (layL s.data.toList o d.data.toList))) ∧ Below w.heap.size w w' := by
 have hl : s.data.toList.length = s.size := Array.length_toList
 have hdl : d.data.toList.length = d.size := Array.length_toList
 obtain ⟨k, hk⟩ : ∃ k, max s.size (o + d.size) = k := ⟨_, rfl⟩
 have hks : s.size ≤ k := by omega
 have hko : o + d.size ≤ k := by omega
 have hk6 : k ≤ 65536 := by omega
 have hmax : max (s.size : Int) ((o : Int) + (d.size : Int)) = (k : Int) := by omega
 have hmax2 : max (s.size : Int) ((o + d.size : Nat) : Int) = (k : Int) := by omega
 have ow : IntKind.i64.wrap ((o : Int) + (d.size : Int)) = (o : Int) + (d.size : Int) := by rw [IntKind.wrap_i64]; omega
 have hlay : layL s.data.toList o d.data.toList = (sizedL s.data.toList k).take o ++ d.data.toList ++ (sizedL s.data.toList k).drop (o + d.data.toList.length) := by
  unfold layL
  rw [hl, hdl, hk]
 have hmk := run_make_row' (P := Tryz.prog) 37 5 (.int .u8 0) 1 Tryz.underlying37 infoByte rfl .i64 .i64 k (by omega) (by omega) w
 have hg0 := heap_alloc_new w (.cells (madeCells #[.int .u8 0] k) 5)
 have hcs : (madeCells #[Value.int .u8 0] k).size = k := by simp [madeCells]
 have hcp := fun ty => Lib.run_copy_row_string (P := Tryz.prog) (ty := ty) (w.alloc (.cells (madeCells #[.int .u8 0] k) 5)) 37 9 5 w.heap.size 0 k k s _ _ Tryz.underlying37 (by kernel_rfl) hg0 hks (by rw [hcs]; omega)
 obtain ⟨NC, hNC⟩ : ∃ NC : Array Value, (((madeCells #[Value.int .u8 0] k).toList.take 0) ++ Lib.byteCells s.data.toList ++ (madeCells #[Value.int .u8 0] k).toList.drop (0 + s.size)).toArray = NC := ⟨_, rfl⟩
 have hnc : NC = (Lib.byteCells (sizedL s.data.toList k)).toArray := by
  rw [← hNC, sizedL_long _ _ (by omega), Lib.byteCells_append]
  congr 1
  have e1 : (madeCells #[Value.int .u8 0] k).toList = List.replicate k (Value.int .u8 0) := by
   apply List.ext_getElem
   ·simp [madeCells]
   ·intro i h1 h2
    simp [madeCells, Nat.mod_one]
  rw [e1, hl]
  simp [Lib.byteCells]
 rw [hNC, hnc] at hcp
 obtain ⟨W2, hW2⟩ : ∃ W2, w.alloc (.cells (Lib.byteCells (sizedL s.data.toList k)).toArray 5) = W2 := ⟨_, rfl⟩
 have hcp2 : ∀ ty, (Builtin.copy_ #[37, 9] ty #[.slice (some ⟨w.heap.size, 0, none⟩) k k, .string s]).run Tryz.prog (w.alloc (.cells (madeCells #[.int .u8 0] k) 5)) = .ok (goInt s.size) W2 := by
  intro ty
  rw [hcp ty, World.setRow_alloc_new, hW2]
 have hrow : Cv.ByteRow W2 w.heap.size (sizedL s.data.toList k) := by
  have hh : W2.heap[w.heap.size]? = some (.cells (Lib.byteCells (sizedL s.data.toList k)).toArray 5 (0, 0)) := by rw [← hW2]; exact heap_alloc_new w _
  refine ⟨(Array.getElem?_eq_some_iff.1 hh).1, fun j hj => ⟨?_, frozen_of_row W2 w.heap.size j _ _ hh⟩⟩
  rw [cell_of_row W2 w.heap.size j _ _ (0, 0) hh]
  simp [Lib.byteCells, hj]
 have hb : Below w.heap.size w W2 := by rw [← hW2]; exact (Below.refl _ _).alloc (Nat.le_refl _) _
 have hcp3 : ∀ ty, (Builtin.copy_ #[37, 9] ty #[.slice (some ⟨w.heap.size, o, none⟩) (k - o) (k - o), .string d]).run Tryz.prog W2 = .ok (goInt d.size) (W2.setCells w.heap.size o (d.data.toList.map fun x => Value.int .u8 (x.toNat : Int))) := fun ty =>
  run_copy_string W2 37 9 ty 5 w.heap.size o (k - o) (k - o) d Tryz.underlying37 size_byte (by omega)
   (fun jj hjj => by rw [(hrow.2 (o + jj) (by rw [sizedL_len]; omega)).1]; rfl) (fun jj hjj => (hrow.2 (o + jj) (by rw [sizedL_len]; omega)).2)
 have hrowB := byterow_lay hrow o d.data.toList (by rw [sizedL_len, hdl]; omega)
 rw [← hlay] at hrowB
 obtain ⟨W3, hW3⟩ : ∃ W3, W2.setCells w.heap.size o (d.data.toList.map fun x => Value.int .u8 (x.toNat : Int)) = W3 := ⟨_, rfl⟩
 rw [hW3] at hcp3 hrowB
 have hb3 : Below w.heap.size w W3 := by rw [← hW3]; exact below_setCells (Nat.le_refl _) _ _ _ hb
 obtain ⟨NT, hNT⟩ : ∃ NT : ByteArray, txt (layL s.data.toList o d.data.toList) = NT := ⟨_, rfl⟩
 have hconv : (convert 37 9 (.slice (some ⟨w.heap.size, 0, none⟩) k k)).run Tryz.prog W3 = .ok (.string NT) W3 := by
  rw [← hNT]
  refine Cv.back_of hrowB k k ?_
  rw [layL_len, hl, hdl, hk]
 rw [hNT]
 have hne : (d.toList == []) = false := by
  rw [beq_eq_false_iff_ne]
  intro h
  rw [ByteArray.toList_eq] at h
  rw [h] at hdl
  simp at hdl
  omega
 have ok0 : (0 : Int) ≤ (o : Int) := by omega
 have ok1 : (o : Int) ≤ (k : Int) := by omega
 have ok2 : o ≤ k := by omega
 have ok3 : ¬ (k = o) := by omega
 have HB := Lib.hid hb3
 clear hg0 hcs hcp hNC hnc hW2 hrow hb hl hdl hNT hlay hrowB hW3 hb3 hk
 go_enter Tryz.func144, Tryz.ntmps144
 go_wp2_with fail
 go_ret
 exact ⟨rfl, HB.out⟩
set_option maxRecDepth 100000 in
set_option maxHeartbeats 16000000 in
theorem msize_any (B q p : Nat) (s : St) (c : Ca) (zs : List (Ino × Value)) (vI vO vM : Value) (w : World) (hN : Now B q p s c zs vI vO vM w w) (hg : Good s) (hk : c.kind = 7) :
  Calls Tryz.prog 90 #[.pointer (some ⟨q, 0, .none⟩)] w (Ran B q p c (byFdV s c) w) := by
 obtain ⟨R, hR⟩ : ∃ R, byFdV s c = R := ⟨_, rfl⟩
 rw [hR]
 unfold byFdV at hR
 have HR := Lib.hid hR
 have HN0 := Lib.hid hN
 have HG := Lib.hid hg
 clear hR hN hg
 go_enter Tryz.func90, Tryz.ntmps90
 go_wp2_with fail
 refine (mfile_any B q p s c 0 0 false ⟨#[]⟩ (.slice none 0 0) zs vI vO vM w HN0.out.doer HN0.out.own HG.out).mono ?_
 rintro e1 w1 ⟨hb1, ⟨h0, rfl⟩ | ⟨h0, g, n, d, i, x, k, hvI, hx, hxn, hxd, hfp, rfl⟩⟩
 ·have hr := HR.out
  rw [if_pos h0] at hr
  go_simp
  exact panic_end rfl ((HN0.out.step hb1).fail (by rw [← hr]; simp) (by rw [← hr]))
 have hr := HR.out
 rw [if_neg h0, if_neg (by omega), if_neg (by omega), if_neg (by omega), if_neg (by omega), if_pos hk] at hr
 have HN1 := Lib.hid (HN0.out.step hb1)
 have hat := HG.out.at_ hx hxn
 rw [dataAt_at hat hx] at hr
 have HRF := Lib.hid hr
 obtain ⟨E, m, e, x0, x1, x2, x3, hE, hgl, hm⟩ := HN1.out.ino hvI hx
 have d1 := HN1.out.doer.c1
 rw [hk] at d1
 have r11 := HN1.out.doer.r11
 have z11 := HN1.out.doer.fz 11
 clear hr HR hb1 hE hm hat hxn h0 hfp
 go_wp2_with fail
 go_returns
 exact ⟨HN1.out.low.trans (low_set HN1.out.hq), .inr ⟨by rw [← HRF.out], rfl, ⟨zs, vI, vO, vM, by rw [← HRF.out]; exact HN1.out.doer.set_own HN1.out.own⟩, .slice none 0 0, by rw [← HRF.out]; exact HN1.out.doer.setNum _, by rw [← HRF.out]; exact ⟨rfl, .inl ⟨none, rfl, rfl⟩⟩⟩⟩
set_option maxRecDepth 100000 in
set_option maxHeartbeats 16000000 in
theorem mtrunc_any (B q p : Nat) (s : St) (c : Ca) (zs : List (Ino × Value)) (vI vO vM : Value) (w : World) (hN : Now B q p s c zs vI vO vM w w) (hg : Good s) (hk : c.kind = 6) :
  Calls Tryz.prog 90 #[.pointer (some ⟨q, 0, .none⟩)] w (Ran B q p c (byFdV s c) w) := by
 obtain ⟨R, hR⟩ : ∃ R, byFdV s c = R := ⟨_, rfl⟩
 have hsz := fd_sized hg c
 rw [hR] at hsz ⊢
 unfold byFdV at hR
 have HR := Lib.hid hR
 have HSZ := Lib.hid hsz
 have HN0 := Lib.hid hN
 have HG := Lib.hid hg
 clear hR hN hg hsz
 go_enter Tryz.func90, Tryz.ntmps90
 go_wp2_with fail
 refine (mfile_any B q p s c 0 0 false ⟨#[]⟩ (.slice none 0 0) zs vI vO vM w HN0.out.doer HN0.out.own HG.out).mono ?_
 rintro e1 w1 ⟨hb1, ⟨h0, rfl⟩ | ⟨h0, g, n, d, i, x, k, hvI, hx, hxn, hxd, hfp, rfl⟩⟩
 ·have hr := HR.out
  rw [if_pos h0] at hr
  go_simp
  exact panic_end rfl ((HN0.out.step hb1).fail (by rw [← hr]; simp) (by rw [← hr]))
 have hr := HR.out
 rw [if_neg h0, if_neg (by omega), if_neg (by omega), if_neg (by omega), if_pos hk] at hr
 have HN1 := Lib.hid (HN0.out.step hb1)
 have hat := HG.out.at_ hx hxn
 rw [dataAt_at hat hx, setData_of hat hx] at hr
 have HRF := Lib.hid hr
 have hdat := (HG.out.files x (List.mem_of_getElem? hx) hxd).2
 obtain ⟨g', c', E, m, d2, hv, hz, hgl, _, _, x0, x1, x2, x3, xf, _⟩ := HN1.out.own.at_ hx
 have hgg : g' = g := by rw [hvI] at hv; injection hv with e1 _ _; injection e1 with e1; injection e1 with e1; exact e1.symm
 subst hgg
 have d1 := HN1.out.doer.c1
 rw [hk] at d1
 have d5 := HN1.out.doer.c5
 have x3f := xf (i * 4 + 3)
 have hqg : q ≠ g' := fun e => by
  obtain ⟨gg, _, cur, hvv, _, _, _, hgc, _⟩ := HN1.out.own.rowI.open_ (by have := (List.getElem?_eq_some_iff.1 hz).1; omega)
  rw [hvI] at hvv
  injection hvv with e1 _ _
  injection e1 with e1
  injection e1 with e1
  subst e1
  exact blk_ne HN1.out.doer.cell hgc (by decide) e
 have HZ := Lib.hid hz
 have HVI := Lib.hid hvI
 have hq1 := HN1.out.doer.lt
 obtain ⟨NU, hNU⟩ : ∃ NU, c.num = NU := ⟨_, rfl⟩
 rw [hNU] at d5
 have HNU := Lib.hid hNU
 clear hr HR hb1 hat hxn h0 hfp hz hvI hv xf hx hNU
 go_wp2_with fail
 refine (in_any NU w1).mono ?_
 rintro e2 w2 ⟨rfl, rfl⟩
 by_cases hin : 0 ≤ NU ∧ NU ≤ 256
 rotate_left
 ·have hr := HRF.out
  rw [HNU.out, if_pos (by omega)] at hr
  rw [decide_eq_false hin]
  clear hin
  go_wp2_with fail
  refine (throw_yes _ _).mono ?_
  rintro e3 w3 ⟨rfl, rfl⟩
  go_wp2_with fail
  exact panic_end rfl (HN1.out.fail (by rw [← hr]; simp) (by rw [← hr]))
 have hr := HRF.out
 rw [HNU.out, if_neg (by omega)] at hr
 rw [decide_eq_true hin]
 obtain ⟨nn, rfl⟩ : ∃ nn : Nat, NU = (nn : Int) := ⟨NU.toNat, by omega⟩
 rw [Int.toNat_natCast] at hr
 have hnn : nn ≤ 65536 := by omega
 have hs := HSZ.out
 rw [← hr] at hs
 have HS := Lib.hid hs
 have HR2 := Lib.hid hr
 have hcut := fun w => cut_any x.data nn w hnn
 obtain ⟨NT, hNT⟩ : ∃ NT, txt (sizedL x.data.data.toList nn) = NT := ⟨_, rfl⟩
 rw [hNT] at hcut
 have HCUT := Lib.hid hcut
 have HNT := Lib.hid hNT
 clear hin hr hs hcut hNT
 go_wp2_with fail
 refine (throw_no _ _).mono ?_
 rintro e3 w3 ⟨rfl, rfl⟩
 go_wp2_with fail
 go_region_law (go_simp; go_at_call 145; (refine (HCUT.out w1.drew).mono ?_; rintro e5 w5 ⟨rfl, hb5⟩; have hb5' : Below w1.heap.size w1 w5 := (Cv.drewN_below (Below.refl w1.heap.size w1) 1).trans hb5; have q5 := (hb5'.cell (p := ⟨q, 5, none⟩) hq1).trans d5; have y3 := (hb5'.cell (p := ⟨g', i * 4 + 3, none⟩) hgl).trans x3; have yf : w5.frozen? ⟨g', i * 4 + 3, none⟩ = false := (hb5'.frozen (p := ⟨g', i * 4 + 3, none⟩) hgl).trans x3f))
 all_goals (
  have HN5 := Lib.hid (HN1.out.step hb5')
  have hfin := HN5.out.own.setB HN5.out.hB' HZ.out (d := NT) (by rw [← HNT.out]; exact HS.out) HVI.out
  have HFIN := Lib.hid hfin
  clear hb5 hb5' hfin
  go_wp2_with fail
  go_returns
  exact HN5.out.done (by rw [← HR2.out]) rfl HFIN.out.2 ⟨_, _, _, _, by rw [← HR2.out, HNT.out]; exact HFIN.out.1⟩)
set_option maxRecDepth 100000 in
set_option maxHeartbeats 16000000 in
theorem mread_any (B q p : Nat) (s : St) (c : Ca) (zs : List (Ino × Value)) (vI vO vM : Value) (w : World) (hN : Now B q p s c zs vI vO vM w w) (hg : Good s) (hk : c.kind = 4) :
  Calls Tryz.prog 90 #[.pointer (some ⟨q, 0, .none⟩)] w (Ran B q p c (byFdV s c) w) := by
 obtain ⟨R, hR⟩ : ∃ R, byFdV s c = R := ⟨_, rfl⟩
 rw [hR]
 unfold byFdV at hR
 have HR := Lib.hid hR
 have HN0 := Lib.hid hN
 have HG := Lib.hid hg
 clear hR hN hg
 go_enter Tryz.func90, Tryz.ntmps90
 go_wp2_with fail
 refine (mfile_any B q p s c 0 0 false ⟨#[]⟩ (.slice none 0 0) zs vI vO vM w HN0.out.doer HN0.out.own HG.out).mono ?_
 rintro e1 w1 ⟨hb1, ⟨h0, rfl⟩ | ⟨h0, g, n, d, i, x, k, hvI, hx, hxn, hxd, hfp, rfl⟩⟩
 ·have hr := HR.out
  rw [if_pos h0] at hr
  go_simp
  exact panic_end rfl ((HN0.out.step hb1).fail (by rw [← hr]; simp) (by rw [← hr]))
 have hr := HR.out
 rw [if_neg h0, if_neg (by omega), if_pos hk] at hr
 have HN1 := Lib.hid (HN0.out.step hb1)
 have hat := HG.out.at_ hx hxn
 rw [dataAt_at hat hx] at hr
 have HRF := Lib.hid hr
 have hdat := (HG.out.files x (List.mem_of_getElem? hx) hxd).2
 obtain ⟨E, m, e, x0, x1, x2, x3, hE, hgl, hm⟩ := HN1.out.ino hvI hx
 have d1 := HN1.out.doer.c1
 rw [hk] at d1
 have d4 := HN1.out.doer.c4
 have d5 := HN1.out.doer.c5
 have hq1 := HN1.out.doer.lt
 obtain ⟨NU, hNU⟩ : ∃ NU, c.num = NU := ⟨_, rfl⟩
 obtain ⟨OF, hOF⟩ : ∃ OF, c.off = OF := ⟨_, rfl⟩
 rw [hNU] at d5
 rw [hOF] at d4
 have HNU := Lib.hid hNU
 have HOF := Lib.hid hOF
 have hfail : OF < 0 ∨ 256 < OF ∨ NU < 0 ∨ 256 < NU → Ran B q p c R w (.panicked (faultP 9)) w1 := fun h => by
  have hr := HRF.out
  rw [HNU.out, HOF.out, if_pos h] at hr
  exact HN1.out.fail (by rw [← hr]; simp) (by rw [← hr])
 have HFAIL := Lib.hid hfail
 have hqg : q ≠ g := fun e => by
  obtain ⟨g2, _, _, _, _, hv2, hz2, _⟩ := HN1.out.own.at_ hx
  obtain ⟨gg, _, cur, hvv, _, _, _, hgc, _⟩ := HN1.out.own.rowI.open_ (by have := (List.getElem?_eq_some_iff.1 hz2).1; omega)
  rw [hvI] at hvv
  injection hvv with e1 _ _
  injection e1 with e1
  injection e1 with e1
  subst e1
  exact blk_ne HN1.out.doer.cell hgc (by decide) e
 clear hr HR hb1 hE hm hat hxn h0 hfp hvI hx hNU hOF hfail
 go_wp2_with fail
 refine (in_any OF w1).mono ?_
 rintro e2 w2 ⟨rfl, rfl⟩
 by_cases hin : 0 ≤ OF ∧ OF ≤ 256
 rotate_left
 ·rw [decide_eq_false hin]
  have HIN := Lib.hid hin
  clear hin
  go_wp2_with fail
  refine (throw_yes _ _).mono ?_
  rintro e3 w3 ⟨rfl, rfl⟩
  go_wp2_with fail
  exact panic_end rfl (HFAIL.out (by have := HIN.out; omega))
 rw [decide_eq_true hin]
 have HIN := Lib.hid hin
 clear hin
 go_wp2_with fail
 refine (in_any NU w1).mono ?_
 rintro e2 w2 ⟨rfl, rfl⟩
 by_cases hin2 : 0 ≤ NU ∧ NU ≤ 256
 rotate_left
 ·rw [decide_eq_false hin2]
  have HIN2 := Lib.hid hin2
  clear hin2
  go_wp2_with fail
  refine (throw_yes _ _).mono ?_
  rintro e3 w3 ⟨rfl, rfl⟩
  go_wp2_with fail
  exact panic_end rfl (HFAIL.out (by have := HIN2.out; omega))
 rw [decide_eq_true hin2]
 have hin := HIN.out
 have hr := HRF.out
 rw [HNU.out, HOF.out, if_neg (by omega)] at hr
 obtain ⟨nn, rfl⟩ : ∃ nn : Nat, NU = (nn : Int) := ⟨NU.toNat, by omega⟩
 obtain ⟨oo, rfl⟩ : ∃ oo : Nat, OF = (oo : Int) := ⟨OF.toNat, by omega⟩
 rw [Int.toNat_natCast, Int.toNat_natCast] at hr
 have hpc := fun w => piece_any x.data oo nn w (by omega) (by omega) (by omega)
 obtain ⟨NT, hNT⟩ : ∃ NT, txt ((x.data.data.toList.drop oo).take nn) = NT := ⟨_, rfl⟩
 rw [hNT] at hpc hr
 have HPC := Lib.hid hpc
 have HR2 := Lib.hid hr
 have z13 : w1.drew.frozen? ⟨q, 13, none⟩ = false := HN1.out.doer.fz 13
 have r13 : w1.drew.cell? ⟨q, 13, none⟩ = some (.string ⟨#[]⟩) := HN1.out.doer.r13
 have k3 : (w1.setCell ⟨q, 13, none⟩ (.string NT)).drew.cell? ⟨g, i * 4 + 3, none⟩ = some (.string x.data) := (World.cell?_setCell_other w1 ⟨q, 13, none⟩ ⟨g, i * 4 + 3, none⟩ _ (by simp [hqg, hqg.symm])).trans x3
 have k4 : (w1.setCell ⟨q, 13, none⟩ (.string NT)).drew.cell? ⟨q, 4, none⟩ = some (.int .i64 (oo : Int)) := (World.cell?_setCell_other w1 ⟨q, 13, none⟩ ⟨q, 4, none⟩ _ (by simp)).trans d4
 have k5 : (w1.setCell ⟨q, 13, none⟩ (.string NT)).drew.cell? ⟨q, 5, none⟩ = some (.int .i64 (nn : Int)) := (World.cell?_setCell_other w1 ⟨q, 13, none⟩ ⟨q, 5, none⟩ _ (by simp)).trans d5
 clear hin hin2 hr hpc hNT HFAIL HIN
 go_wp2_with fail
 refine (throw_no _ _).mono ?_
 rintro e3 w3 ⟨rfl, rfl⟩
 go_wp2_with fail
 go_region_held3 (fun w' => w'.cell? ⟨g, i * 4 + 3, none⟩ = some (.string x.data) ∧ w'.cell? ⟨q, 4, none⟩ = some (.int .i64 (oo : Int)) ∧ w'.cell? ⟨q, 5, none⟩ = some (.int .i64 (nn : Int)))
  (first | go_keep | exact ⟨x3, d4, d5⟩ | exact ⟨k3, k4, k5⟩)
  (first
   | (go_at_call 143; (refine (HPC.out w1.drew).mono ?_; rintro e5 w5 ⟨rfl, rfl⟩)))
 all_goals (
  have hdw : Below (w1.setCell ⟨q, 13, none⟩ (.string NT)).heap.size (w1.setCell ⟨q, 13, none⟩ (.string NT)) (w1.setCell ⟨q, 13, none⟩ (.string NT)).drew := Cv.drewN_below (Below.refl _ _) 1
  have ho := (HN1.out.doer.set_own (j := 13) (u := .string NT) HN1.out.own).below hdw
  have hd := (HN1.out.doer.setData NT).below hdw
  have hl := (HN1.out.low.trans (low_set (j := 13) (u := .string NT) HN1.out.hq)).trans (hdw.mono (by have := HN1.out.hB'; simpa [World.setCell] using this))
  have HOO := Lib.hid ho
  have HDD := Lib.hid hd
  have HLL := Lib.hid hl
  clear ho hd hl hdw k3 k4 k5
  go_wp2_with fail
  go_returns
  exact ⟨HLL.out, .inr ⟨by rw [← HR2.out], rfl, ⟨zs, vI, vO, vM, by rw [← HR2.out]; exact HOO.out⟩, .slice none 0 0, by rw [← HR2.out]; exact HDD.out, by rw [← HR2.out]; exact ⟨rfl, .inl ⟨none, rfl, rfl⟩⟩⟩⟩)
end Go.Proofs.YtilkhmhgjbhfnaaGreatDoor
