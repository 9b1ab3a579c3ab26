/- Parts of the proof, side by side: MoInsD, ExtTail. -/
import Derived.Test.YtilkhmhgjbhfnaaGreatDoorM11
import Derived.Test.YtilkhmhgjbhfnaaGreatDoorM03
import Derived.Test.YtilkhmhgjbhfnaaGreatDoorM01
set_option linter.unusedVariables false
set_option linter.unusedSimpArgs false
namespace Go.Proofs.YtilkhmhgjbhfnaaGreatDoor
open Go.RowKit
set_option maxHeartbeats 4000000 in
set_option maxRecDepth 100000 in
theorem insD_shift (g n c i vb : Nat) (cur : Array Value) (x xs seg : List Value) (w : World) (hg : w.heap[g]? = some (.cells cur 97 (0, 0))) (hsz : cur.size = c * 3) (hi : i < n) (hroom : n + 1 ≤ c) (hcm : c ≤ maxLen) (hvb : vb ≠ g) (hxl : x.length = 3)
  (hv : w.heap[vb]? = some (.cells x.toArray 97 (0, 0))) (hxs : cur.toList.take (n * 3) = xs) (h1c : ∀ v ∈ xs, v.oneCell' = true) (h1x : ∀ v ∈ x, v.oneCell' = true) (hseg : seg = xs.drop (i * 3)) :
  Calls Tryz.prog 137 #[.slice (some ⟨g, 0, none⟩) n c, .int .i64 i, .slice (some ⟨vb, 0, none⟩) 1 1] w fun e w' =>
   e = .returned (.slice (some ⟨g, 0, none⟩) (n + 1) c) ∧ w' = w.drew.setRow g (layV (layV cur.toList ((i + 1) * 3) seg) (i * 3) x).toArray := by
 obtain ⟨i0, hi0, hz0, hz1, hz2⟩ := info_parts infoDs
 have hc63 : c ≤ 9223372036854775807 := by unfold maxLen at hcm; omega
 have hsize : (Tryz.prog.info? 97).map (·.size) = some 3 := by rw [hi0]; simp [hz1]
 have hsl : seg.length = (n - i) * 3 := by rw [hseg, ← hxs, List.length_drop, List.length_take, Array.length_toList, hsz]; omega
 have hov : ∀ lb cb, (callFunc 192 #[.slice (some ⟨vb, 0, none⟩) 1 1, .slice (some ⟨g, (i + 1) * 3, none⟩) lb cb]).run Tryz.prog w = .ok (.value (.bool false)) w := fun lb cb => by
  rw [run_callFunc_extern Tryz.func192 (by kernel_rfl) (by kernel_rfl) (by kernel_rfl) (e := Extern.SlicesOverlaps.overlaps #[28, 28] #[4]) (by kernel_rfl),
   Lib.run_overlaps_apart w 28 4 97 Tryz.underlying28 3 (fun w => by simp [Go.sizeOf, typeInfo, hi0, hz1]) ⟨vb, 0, none⟩ ⟨g, (i + 1) * 3, none⟩ 1 1 lb cb hvb 97 97 3 (c * 3) (by simp [World.shape?, hv, hxl]) (by simp [World.shape?, hg, hsz]) (by omega) (by simp [World.frozen?, hv]) (by simp [World.frozen?, hv])]
  rfl
 have hw1 : IntKind.i64.wrap ((i : Int) + (1 : Int)) = ((i + 1 : Nat) : Int) := by rw [IntKind.wrap_i64]; omega
 have hw2 : IntKind.i64.wrap ((n : Int) + (1 : Int)) = ((n + 1 : Nat) : Int) := by rw [IntKind.wrap_i64]; omega
 have hz3 : ¬ ((i : Int) = (n : Int)) := by omega
 have hb2 : ¬ (c = i + 1) := by omega
 have hb4 : ¬ (c = i) := by omega
 have hin : i ≤ n := by omega
 have hin1 : i ≤ n + 1 := by omega
 have hin2 : i + 1 ≤ n + 1 := by omega
 have hin3 : n + 1 ≤ c := by omega
 have hnc : n ≤ c := by omega
 have hp1 : (0 : Int) ≤ (i : Int) + 1 := by omega
 have hp2 : (i : Int) + 1 ≤ (n : Int) + 1 := by omega
 have hp3 : (i : Int) ≤ (n : Int) + 1 := by omega
 have mixed : Tryz.prog.follows Departure.mixedOrders = true := by kernel_rfl
 have hcp1 : ∀ ty dc sc, (Builtin.copy_ #[28, 28] ty #[.slice (some ⟨g, (i + 1) * 3, none⟩) (n - i) dc, .slice (some ⟨g, i * 3, none⟩) (n + 1 - i) sc]).run Tryz.prog w.drew = .ok (goInt (Nat.min (n + 1 - i) (n - i))) (w.drew.setRow g (layV cur.toList ((i + 1) * 3) seg).toArray) := fun ty dc sc => by
  exact run_copy_rowK w.drew _ _ ty 97 3 g ((i + 1) * 3) (n - i) dc ⟨g, i * 3, none⟩ (n + 1 - i) sc cur 97 seg Tryz.underlying28 hsize hg (by rw [hsl]; simp only [Nat.min_def]; split <;> omega)
   (row_cells hg _ _ (fun j v hj => by
    rw [hseg, ← hxs, List.getElem?_drop, List.getElem?_take] at hj
    split at hj
    ·simpa using hj
    ·cases hj)) (by rw [hsl, hsz]; omega) (fun v hv => h1c v (by rw [hseg] at hv; exact List.mem_of_mem_drop hv))
 obtain ⟨C1, hC1⟩ : ∃ C1, C1 = (layV cur.toList ((i + 1) * 3) seg).toArray := ⟨_, rfl⟩
 have hC1s : C1.size = c * 3 := by rw [hC1, layV_size (by rw [hsl, hsz]; omega), hsz]
 have hC1l : layV cur.toList ((i + 1) * 3) seg = C1.toList := by rw [hC1]
 rw [← hC1] at hcp1
 rw [hC1l]
 obtain ⟨W1, hW1⟩ : ∃ W1, W1 = w.drew.setRow g C1 := ⟨_, rfl⟩
 have hg1 : W1.heap[g]? = some (.cells C1 97 (0, 0)) := by rw [hW1]; exact setRow_heap w.drew g cur _ _ _ hg
 have hv1 : W1.heap[vb]? = some (.cells x.toArray 97 (0, 0)) := by rw [hW1, setRow_other w.drew g vb _ hvb]; exact hv
 have hcp2 : ∀ ty dc, (Builtin.copy_ #[28, 28] ty #[.slice (some ⟨g, i * 3, none⟩) (n + 1 - i) dc, .slice (some ⟨vb, 0, none⟩) 1 1]).run Tryz.prog W1 = .ok (goInt (Nat.min 1 (n + 1 - i))) (W1.setRow g (layV C1.toList (i * 3) x).toArray) := fun ty dc => by
  exact run_copy_rowK W1 _ _ ty 97 3 g (i * 3) (n + 1 - i) dc ⟨vb, 0, none⟩ 1 1 C1 97 x Tryz.underlying28 hsize hg1 (by rw [hxl]; simp only [Nat.min_def]; split <;> omega)
   (row_cells hv1 _ _ (fun j v hj => by rw [Nat.zero_add, List.getElem?_toArray]; exact hj)) (by rw [hxl, hC1s]; omega) h1x
 rw [← hW1] at hcp1
 have hfin : W1.setRow g (layV C1.toList (i * 3) x).toArray = w.drew.setRow g (layV C1.toList (i * 3) x).toArray := by rw [hW1, setRow_setRow]
 have HOV := Lib.hid hov
 have HF := Lib.hid hfin
 have HC1 := Lib.hid hcp1
 have HC2 := Lib.hid hcp2
 clear hg1 hv1 hC1 hC1s hC1l hW1 hcp1 hcp2 hfin hseg hsl hsz hg hv h1c h1x hcm hxs
 go_enter Tryz.func137, Tryz.ntmps137
 go_wp2_with (simp only [HOV.out])
 go_region_law_o (refine step_copy_runI rfl _ _ 28 28 rfl (.slice (some ⟨g, (i + 1) * 3, none⟩) (n - i) (c - (i + 1))) (.slice (some ⟨g, i * 3, none⟩) (n + 1 - i) (c - i)) (by simp [Act.eval, Act.put]) (by simp [Act.eval, Act.put]) (HC1.out 3 (c - (i + 1)) (c - i)) ?_)
 go_wp2_with (simp only [HC2.out])
 go_ret
 exact ⟨rfl, HF.out⟩
set_option maxHeartbeats 4000000 in
set_option maxRecDepth 100000 in
theorem insD_grow (g n c i vb : Nat) (cur : Array Value) (x xs seg : List Value) (w : World) (hg : w.heap[g]? = some (.cells cur 97 (0, 0))) (hsz : cur.size = c * 3) (hi : i < n) (hnc : n ≤ c) (hroom : c < n + 1) (hn40 : n + 1 ≤ 1099511627776) (hxl : x.length = 3)
  (hv : w.heap[vb]? = some (.cells x.toArray 97 (0, 0))) (hxs : cur.toList.take (n * 3) = xs) (h1c : ∀ v ∈ xs, v.oneCell' = true) (h1x : ∀ v ∈ x, v.oneCell' = true) (hseg : seg = xs.drop (i * 3)) :
  Calls Tryz.prog 137 #[.slice (some ⟨g, 0, none⟩) n c, .int .i64 i, .slice (some ⟨vb, 0, none⟩) 1 1] w fun e w' =>
   e = .returned (.slice (some ⟨w.heap.size, 0, none⟩) (n + 1) (grownCap w (n + 1) c 97)) ∧ w.grownBy w' none ∧ ∃ cur', w'.heap[w.heap.size]? = some (.cells cur' 97 (0, 0)) ∧ cur'.size = grownCap w (n + 1) c 97 * 3 ∧ cur'.toList.take ((n + 1) * 3) = xs.take (i * 3) ++ x ++ seg := by
 obtain ⟨i0, hi0, hz0, hz1, hz2⟩ := info_parts infoDs
 have hsize : (Tryz.prog.info? 97).map (·.size) = some 3 := by rw [hi0]; simp [hz1]
 have hxsl : xs.length = n * 3 := by rw [← hxs, List.length_take, Array.length_toList, hsz]; omega
 have hsl : seg.length = (n - i) * 3 := by rw [hseg, List.length_drop, hxsl]; omega
 have hbw : g < w.heap.size := (Array.getElem?_eq_some_iff.1 hg).1
 have hvw : vb < w.heap.size := (Array.getElem?_eq_some_iff.1 hv).1
 have hvg : vb ≠ w.heap.size := by omega
 have hgg : g ≠ w.heap.size := by omega
 have hold : (Builtin.firstCells i0.size i (.slice (some ⟨g, 0, none⟩) i c)).run Tryz.prog w.drew = .ok (xs.take (i * 3)).toArray w.drew := by
  rw [hz1]
  refine run_firstCells_some w.drew 3 i ⟨g, 0, none⟩ i c (xs.take (i * 3)) (by rw [List.length_take]; omega) (row_cells hg 0 _ (fun j v hj => ?_))
  rw [List.getElem?_take] at hj
  split at hj
  ·rw [← hxs, List.getElem?_take] at hj
   split at hj
   ·rw [Nat.zero_add]; simpa using hj
   ·cases hj
  ·cases hj
 have hkk : (n : Int) + 1 - (i : Int) = ((n + 1 - i : Nat) : Int) := by omega
 have hik : i + (n + 1 - i) = n + 1 := by omega
 obtain ⟨G, hG⟩ : ∃ G, G = grownCap w (n + 1) c 97 := ⟨_, rfl⟩
 obtain ⟨Z, hZ⟩ : ∃ Z : Value, i0.zero = some Z ∧ Z.cells.size = 3 := ⟨_, hz0, rfl⟩
 obtain ⟨ROW, hROW⟩ : ∃ ROW : Array Value, ROW = (xs.take (i * 3)).toArray ++ Builtin.zeroCells Z.cells (n + 1 - i) ++ Builtin.zeroCells Z.cells (G - (n + 1)) := ⟨_, rfl⟩
 have hGn : n + 1 ≤ G := by rw [hG]; exact grownCap_ge w _ _ _
 have hGm : G ≤ maxLen := by rw [hG]; exact grownCap_le_maxLen w (n + 1) c _ (by unfold maxLen; omega)
 have hG63 : G ≤ 9223372036854775807 := by unfold maxLen at hGm; omega
 have hRs : ROW.size = G * 3 := by rw [hROW, Array.size_append, Array.size_append, List.size_toArray, size_zeroCells, size_zeroCells, hZ.2, List.length_take, hxsl]; omega
 have hRt : ROW.toList.take (i * 3) = xs.take (i * 3) := by
  rw [hROW, Array.toList_append, Array.toList_append, List.append_assoc]
  exact List.take_left' (by rw [List.length_take, hxsl]; omega)
 have hrz : ∀ ty, (Builtin.append_ #[28, 3] ty #[.slice (some ⟨g, 0, none⟩) i c, .int .i64 ((n : Int) + 1 - (i : Int))]).run Tryz.prog w = .ok (.slice (some ⟨w.heap.size, 0, none⟩) (n + 1) G) (w.drew.alloc (.cells ROW 97)) := fun ty => by
  have h := Lib.run_append_grow_zeros w 28 3 ty 97 i0 Z .i64 .i64 Tryz.underlying28 Tryz.underlying3 hi0 hZ.1 (some ⟨g, 0, none⟩) i c (xs.take (i * 3)) hold (n + 1 - i) (by omega) (by omega) (by omega) (by omega) (by rw [hz2]; omega) (by rw [hik]; exact growslice_fits hroom (by rw [hz2]; omega))
  rw [hik, ← hG, ← hROW] at h
  rw [hkk]
  exact h
 obtain ⟨N, hN⟩ : ∃ N, N = w.heap.size := ⟨_, rfl⟩
 obtain ⟨W1, hW1⟩ : ∃ W1, W1 = w.drew.alloc (.cells ROW 97) := ⟨_, rfl⟩
 have g1 : W1.heap[N]? = some (.cells ROW 97 (0, 0)) := by rw [hW1, hN]; exact Go.heap_alloc_new w.drew _
 have g1v : W1.heap[vb]? = some (.cells x.toArray 97 (0, 0)) := by rw [hW1, Go.heap_alloc_old w.drew _ hvw]; exact hv
 have g1g : W1.heap[g]? = some (.cells cur 97 (0, 0)) := by rw [hW1, Go.heap_alloc_old w.drew _ hbw]; exact hg
 have gr1 : w.grownBy W1 none := by rw [hW1]; exact ⟨rfl, rfl, rfl, by simp, fun b hb _ => Go.heap_alloc_old w.drew _ hb⟩
 have hcp1 : ∀ ty dc, (Builtin.copy_ #[28, 28] ty #[.slice (some ⟨N, i * 3, none⟩) (n + 1 - i) dc, .slice (some ⟨vb, 0, none⟩) 1 1]).run Tryz.prog W1 = .ok (goInt (Nat.min 1 (n + 1 - i))) (W1.setRow N (layV ROW.toList (i * 3) x).toArray) := fun ty dc =>
  run_copy_rowK W1 _ _ ty 97 3 N (i * 3) (n + 1 - i) dc ⟨vb, 0, none⟩ 1 1 ROW 97 x Tryz.underlying28 hsize g1 (by rw [hxl]; simp only [Nat.min_def]; split <;> omega)
   (row_cells g1v _ _ (fun j v hj => by rw [Nat.zero_add, List.getElem?_toArray]; exact hj)) (by rw [hxl, hRs]; omega) h1x
 obtain ⟨C1, hC1⟩ : ∃ C1, C1 = (layV ROW.toList (i * 3) x).toArray := ⟨_, rfl⟩
 have hC1s : C1.size = G * 3 := by rw [hC1, layV_size (by rw [hRs, hxl]; omega), hRs]
 rw [← hC1] at hcp1
 obtain ⟨W2, hW2⟩ : ∃ W2, W2 = W1.setRow N C1 := ⟨_, rfl⟩
 rw [← hW2] at hcp1
 have g2 : W2.heap[N]? = some (.cells C1 97 (0, 0)) := by rw [hW2]; exact setRow_heap W1 N ROW _ _ _ g1
 have g2g : W2.heap[g]? = some (.cells cur 97 (0, 0)) := by rw [hW2, setRow_other W1 N g _ (by omega)]; exact g1g
 have gr2 : w.grownBy W2 none := by
  rw [hW2]
  exact ⟨gr1.os, gr1.tape, gr1.output, by rw [World.setRow]; simp; exact gr1.size, fun b hb _ => (setRow_other W1 N b _ (by omega)).trans (gr1.block b hb (by simp))⟩
 have hcp2 : ∀ ty dc sc, (Builtin.copy_ #[28, 28] ty #[.slice (some ⟨N, (i + 1) * 3, none⟩) (n - i) dc, .slice (some ⟨g, i * 3, none⟩) (n - i) sc]).run Tryz.prog W2.drew = .ok (goInt (Nat.min (n - i) (n - i))) (W2.drew.setRow N (layV C1.toList ((i + 1) * 3) seg).toArray) := fun ty dc sc =>
  run_copy_rowK W2.drew _ _ ty 97 3 N ((i + 1) * 3) (n - i) dc ⟨g, i * 3, none⟩ (n - i) sc C1 97 seg Tryz.underlying28 hsize g2 (by rw [hsl]; simp only [Nat.min_def]; split <;> omega)
   (row_cells (w := W2.drew) g2g _ _ (fun j v hj => by
    rw [hseg, ← hxs, List.getElem?_drop, List.getElem?_take] at hj
    split at hj
    ·simpa using hj
    ·cases hj)) (by rw [hsl, hC1s]; omega) (fun v hv => h1c v (by rw [hseg] at hv; exact List.mem_of_mem_drop hv))
 have fin : W2.drew.grownBy (W2.drew.setRow N (layV C1.toList ((i + 1) * 3) seg).toArray) (some N) := rw_setRow
 have hfin : w.grownBy (W2.drew.setRow N (layV C1.toList ((i + 1) * 3) seg).toArray) none := ⟨fin.os.trans gr2.os, fin.tape.trans gr2.tape, fin.output.trans gr2.output, Nat.le_trans gr2.size fin.size, fun b hb _ => (setRow_other W2.drew N b _ (by omega)).trans (gr2.block b hb (by simp))⟩
 have hcell : (W2.drew.setRow N (layV C1.toList ((i + 1) * 3) seg).toArray).heap[N]? = some (.cells (layV C1.toList ((i + 1) * 3) seg).toArray 97 (0, 0)) := setRow_heap W2.drew N C1 _ _ _ g2
 have hcs : (layV C1.toList ((i + 1) * 3) seg).toArray.size = G * 3 := by rw [layV_size (by rw [hsl, hC1s]; omega), hC1s]
 have hct : (layV C1.toList ((i + 1) * 3) seg).toArray.toList.take ((n + 1) * 3) = xs.take (i * 3) ++ x ++ seg := by
  have h := ins_grow (l := ROW.toList) (x := x) (D := seg) hRt (by rw [hxl, hsl, Array.length_toList, hRs]; omega)
  rw [hxl, hsl, show i * 3 + 3 = (i + 1) * 3 by omega, show (i + 1) * 3 + (n - i) * 3 = (n + 1) * 3 by omega] at h
  rw [hC1]
  exact h
 rw [← hW1, ← hN] at hrz
 rw [← hN, ← hG]
 obtain ⟨W3, hW3⟩ : ∃ W3, W3 = W2.drew.setRow N (layV C1.toList ((i + 1) * 3) seg).toArray := ⟨_, rfl⟩
 rw [← hW3] at hcp2 hfin hcell
 obtain ⟨C3, hC3⟩ : ∃ C3, C3 = (layV C1.toList ((i + 1) * 3) seg).toArray := ⟨_, rfl⟩
 rw [← hC3] at hcell hcs hct
 have hw1 : IntKind.i64.wrap ((i : Int) + (1 : Int)) = ((i + 1 : Nat) : Int) := by rw [IntKind.wrap_i64]; omega
 have hw2 : IntKind.i64.wrap ((n : Int) + (1 : Int)) = ((n + 1 : Nat) : Int) := by rw [IntKind.wrap_i64]; omega
 have hz3 : ¬ ((i : Int) = (n : Int)) := by omega
 have hzc : (c : Int) < (n : Int) + 1 := by omega
 have hb2 : ¬ (G = i + 1) := by omega
 have hb4 : ¬ (G = i) := by omega
 have hb5 : ¬ (c = i) := by omega
 have hin : i ≤ n := by omega
 have hin1 : i ≤ n + 1 := by omega
 have hin2 : i + 1 ≤ n + 1 := by omega
 have hp1 : (0 : Int) ≤ (i : Int) + 1 := by omega
 have hp2 : (i : Int) + 1 ≤ (n : Int) + 1 := by omega
 have hp3 : (i : Int) ≤ (n : Int) + 1 := by omega
 have mixed : Tryz.prog.follows Departure.mixedOrders = true := by kernel_rfl
 have HR := Lib.hid hrz
 have HC1 := Lib.hid hcp1
 have HC2 := Lib.hid hcp2
 have HFIN := Lib.hid hfin
 have HCELL := Lib.hid hcell
 have HCS := Lib.hid hcs
 have HCT := Lib.hid hct
 clear hrz hcp1 hcp2 hfin hcell hcs hct hC3 hW3 fin gr2 g2g g2 hW2 hC1s hC1 gr1 g1g g1v g1 hW1 hN hRt hRs hGm hROW hZ hG hik hkk hold hsl hxsl hseg hsz hg hv h1c h1x hxs hbw hvw hvg hgg
 go_enter Tryz.func137, Tryz.ntmps137
 go_wp2_with (first | (at_builtin; refine Lib.wpList_append_run _ rfl _ _ _ _ rfl _ _ rfl rfl _ _ (HR.out _) ?_) | simp only [HC1.out])
 go_region_law_o (refine step_copy_runI rfl _ _ 28 28 rfl (.slice (some ⟨N, (i + 1) * 3, none⟩) (n - i) (G - (i + 1))) (.slice (some ⟨g, i * 3, none⟩) (n - i) (c - i)) (by simp [Act.eval, Act.put]) (by simp [Act.eval, Act.put]) (HC2.out 3 (G - (i + 1)) (c - i)) ?_)
 go_wp2_with fail
 go_ret
 exact ⟨rfl, HFIN.out, C3, HCELL.out, HCS.out, HCT.out⟩
set_option maxHeartbeats 4000000 in
set_option maxRecDepth 100000 in
theorem insD_end (v v' : Value) (n vb : Nat) (w w1 : World) (hv : ∃ A c, v = .slice A n c ∧ n ≤ c ∧ (A = none → c = 0)) (hr : ∀ ty, (Builtin.append_ #[28, 28] ty #[v, .slice (some ⟨vb, 0, none⟩) 1 1]).run Tryz.prog w = .ok v' w1) :
  Calls Tryz.prog 137 #[v, .int .i64 n, .slice (some ⟨vb, 0, none⟩) 1 1] w fun e w' => e = .returned v' ∧ w' = w1 := by
 obtain ⟨A, c, rfl, hnc, hA⟩ := hv
 have HR := Lib.hid hr
 clear hr
 go_enter Tryz.func137, Tryz.ntmps137
 cases A with
 | none =>
  have h0 := hA rfl
  subst h0
  have h1 : n = 0 := by omega
  subst h1
  go_wp2_with (at_builtin; refine Lib.wpList_append_run _ rfl _ _ _ _ rfl _ _ rfl rfl _ _ (HR.out _) ?_)
  go_ret
  exact ⟨rfl, rfl⟩
 | some a =>
  obtain ⟨ab, ao, asp⟩ := a
  clear hA
  go_wp2_with (at_builtin; refine Lib.wpList_append_run _ rfl _ _ _ _ rfl _ _ rfl rfl _ _ (HR.out _) ?_)
  all_goals (go_ret; exact ⟨rfl, rfl⟩)
theorem insD_any (B n i vb : Nat) (v : Value) (xs x : List Value) (w : World) (h : RowAt B w 97 3 v n xs) (hB : B ≤ w.heap.size) (hi : i ≤ n) (hn : n + 1 ≤ 1099511627776) (hxl : x.length = 3) (hv : w.heap[vb]? = some (.cells x.toArray 97 (0, 0))) (hvb : rowBlk v ≠ some vb) (h1x : ∀ v ∈ x, v.oneCell' = true) (h1 : ∀ u ∈ xs, u.oneCell' = true) :
  Calls Tryz.prog 137 #[v, .int .i64 i, .slice (some ⟨vb, 0, none⟩) 1 1] w fun e w' => ∃ v', e = .returned v' ∧ RowAt B w' 97 3 v' (n + 1) (xs.take (i * 3) ++ x ++ xs.drop (i * 3)) ∧ w.grownBy w' (rowBlk v) ∧ (rowBlk v' = rowBlk v ∨ ∃ b, rowBlk v' = some b ∧ w.heap.size ≤ b) := by
 obtain ⟨i0, hi0, hz0, hz1, hz2⟩ := info_parts infoDs
 by_cases he : i = n
 ·subst he
  have e1 : xs.take (i * 3) = xs := List.take_of_length_le (by rw [h.1]; exact Nat.le_refl _)
  have e2 : xs.drop (i * 3) = [] := List.drop_eq_nil_of_le (by rw [h.1]; exact Nat.le_refl _)
  rw [e1, e2, List.append_nil]
  obtain ⟨v', w1, hr, h2, h3, h4⟩ := row_append h hB 28 Tryz.underlying28 i0 hi0 _ hz0 hz1 rfl (by rw [hz2]; omega) hn ⟨vb, 0, none⟩ x hxl (row_cells hv 0 x (fun j u hj => by rw [Nat.zero_add, List.getElem?_toArray]; exact hj)) h1x 1
  refine (insD_end v v' i vb w w1 ?_ hr).mono ?_
  ·rcases h.2 with ⟨A, rfl, h0⟩ | ⟨g, cap, cur, rfl, _, _, _, hnc, _⟩
   ·subst h0
    exact ⟨A, 0, rfl, Nat.le_refl _, fun _ => rfl⟩
   ·exact ⟨_, cap, rfl, hnc, fun e => by cases e⟩
  ·rintro e w' ⟨rfl, rfl⟩
   exact ⟨v', rfl, h2, h3, h4⟩
 ·have hlt : i < n := by omega
  rcases h.2 with ⟨A, rfl, h0⟩ | ⟨g, cap, cur, rfl, hc, hBg, hg, hnc, hcm, hcs, htk⟩
  ·omega
  ·have hb : rowBlk (.slice (some ⟨g, 0, none⟩) n cap) = some g := by simp [rowBlk, Nat.ne_of_gt hc]
   have hlen : (xs.take (i * 3) ++ x ++ xs.drop (i * 3)).length = (n + 1) * 3 := by
    rw [List.length_append, List.length_append, List.length_take, List.length_drop, h.1, hxl]
    omega
   rw [hb]
   by_cases hroom : n + 1 ≤ cap
   ·refine (insD_shift g n cap i vb cur x xs (xs.drop (i * 3)) w hg hcs hlt hroom hcm (fun e => hvb (by rw [hb, e])) hxl hv htk h1 h1x rfl).mono ?_
    rintro e w' ⟨rfl, rfl⟩
    refine ⟨_, rfl, ⟨hlen, .inr ⟨g, cap, _, rfl, hc, hBg, setRow_heap w.drew g cur _ _ _ hg, hroom, hcm, ?_, ?_⟩⟩, rw_drew rw_setRow, .inl (by simp [rowBlk, Nat.ne_of_gt hc])⟩
    ·have hl : (xs.drop (i * 3)).length = (n - i) * 3 := by rw [List.length_drop, h.1]; omega
     have l1 := layV_len (l := cur.toList) (o := (i + 1) * 3) (vs := xs.drop (i * 3)) (by rw [hl, Array.length_toList, hcs]; omega)
     rw [List.size_toArray, layV_len (by rw [hxl, l1, Array.length_toList, hcs]; omega), l1, Array.length_toList, hcs]
    ·have hl : (xs.drop (i * 3)).length = (n - i) * 3 := by rw [List.length_drop, h.1]; omega
     have hA : cur.toList.take (i * 3) = xs.take (i * 3) := by rw [← htk, List.take_take, Nat.min_eq_left (by omega)]
     have q := ins_shift (l := cur.toList) (x := x) (D := xs.drop (i * 3)) hA (by rw [hxl, hl, Array.length_toList, hcs]; omega)
     rw [hxl, hl, show i * 3 + 3 = (i + 1) * 3 by omega, show (i + 1) * 3 + (n - i) * 3 = (n + 1) * 3 by omega] at q
     exact q
   ·refine (insD_grow g n cap i vb cur x xs (xs.drop (i * 3)) w hg hcs hlt hnc (by omega) hn hxl hv htk h1 h1x rfl).mono ?_
    rintro e w' ⟨rfl, hgr, cur', g1, g2, g3⟩
    have hG := grownCap_ge w (n + 1) cap 97
    refine ⟨_, rfl, ⟨hlen, .inr ⟨w.heap.size, _, cur', rfl, by omega, hB, g1, hG, grownCap_le_maxLen w (n + 1) cap _ (by unfold maxLen; omega), g2, g3⟩⟩, ⟨hgr.os, hgr.tape, hgr.output, hgr.size, fun k hk _ => hgr.block k hk (by simp)⟩, .inr ⟨w.heap.size, ?_, Nat.le_refl _⟩⟩
    simp only [rowBlk]
    rw [if_neg (by omega)]
end Go.Proofs.YtilkhmhgjbhfnaaGreatDoor
namespace Go.Proofs.YtilkhmhgjbhfnaaGreatDoor
open Go.RowKit
section
variable {P : Program} {md : Region.Mode} {ops : Array Oper} {C : World → Prop}
def HeadQ (P : Program) (md : Region.Mode) (ops : Array Oper) (C : World → Prop) (n : Nat) (L : Array Bool → Act → Prop) : Nat → Array Bool → Act → Prop
 | 0, bs, a => L bs a
 | f + 1, bs, a => Region.ready md ops bs ≠ [] ∧ ∀ i ∈ Region.ready md ops bs, i < n ∧ qOp P ops C i (HeadQ P md ops C n L f (bs.setIfInBounds i true)) a
theorem HeadQ.any {n g : Nat} {L : Array Bool → Act → Prop} {Q : Exit → Act → World → Prop} (hL : ∀ bs a w, C w → L bs a → wpAny P md ops Q g bs a w) (f : Nat) :
  ∀ bs a w, C w → HeadQ P md ops C n L f bs a → wpAny P md ops Q (f + g) bs a w := by
 induction f with
 | zero => intro bs a w hw h; rw [Nat.zero_add]; exact hL bs a w hw h
 | succ f ih =>
  intro bs a w hw h
  rw [Nat.succ_add]
  exact ⟨fun h0 => absurd h0 h.1, fun i hi => wpOp_of_qOp hw (fun a' w' hw' h' => ih _ a' w' hw' h') (h.2 i hi).2⟩
theorem HeadQ.take {n i : Nat} {o : Oper} {v : Value} {L : Array Bool → Act → Prop} (ho : ops[i]? = some o) (hsel : ∀ (j : Nat) (o : Oper) cs b, ops[j]? = some o → o.op ≠ .select cs b)
  (hs : Region.sinkB md ops n = true) (hc : Region.chainB md ops n = true) (hn : n < ops.size) (hin : i < n) (hL : ∀ bs a, L bs a → ∀ j ∈ Region.ready md ops bs, n ≤ j) (f : Nat) :
  ∀ (bs : Array Bool) (a : Act), HeadInv md ops n bs →
   (∀ j oj, ops[j]? = some oj → j ≠ i → bs.getD j true = false → (∀ e ∈ oj.after, Region.binds md e = true → e.on ≠ i) → o.apart ops oj = true) →
   i ∈ Region.ready md ops bs → YieldsIn P ops C o v a → HeadQ P md ops C n L f (bs.setIfInBounds i true) (a.put o.dst v) → HeadQ P md ops C n L (f + 1) bs a := by
 induction f with
 | zero =>
  intro bs a inv hap hr hy H
  refine ⟨List.ne_nil_of_mem hr, fun j hj => ?_⟩
  have hjn : j < n := by
   apply Classical.byContradiction
   intro h
   exact tail_waits hs hc hn inv _ i rfl hin (mem_ready.1 hr).1 j (by omega) hj
  refine ⟨hjn, ?_⟩
  by_cases e : j = i
  ·subst e; exact hy.qOp ho H
  ·have := hL _ _ H j (ready_mono hj e); omega
 | succ f ih =>
  intro bs a inv hap hr hy H
  refine ⟨List.ne_nil_of_mem hr, fun j hj => ?_⟩
  have hjn : j < n := by
   apply Classical.byContradiction
   intro h
   exact tail_waits hs hc hn inv _ i rfl hin (mem_ready.1 hr).1 j (by omega) hj
  refine ⟨hjn, ?_⟩
  by_cases e : j = i
  ·subst e; exact hy.qOp ho H
  obtain ⟨hju, oj, hoj, hall⟩ := mem_ready.1 hj
  have hno : ∀ e ∈ oj.after, Region.binds md e = true → e.on ≠ i := by
   intro e he hb h
   have h1 := hall e he hb
   rw [h, getD_both (mem_ready.1 hr).1] at h1
   cases h1
  refine qOp_mono (fun a' h3 => ih (bs.setIfInBounds j true) a' (inv.set hj hjn) ?_ (ready_mono hr (Ne.symm e)) h3.1 ?_)
   (qOp_put hoj (hap j oj hoj e hju hno) (fun cs b => hsel i o cs b ho) (fun cs b => hsel j oj cs b hoj) hy (H.2 j (ready_mono hj e)).2)
  ·intro k ok hk hki hku hkno
   refine hap k ok hk hki ?_ hkno
   by_cases h : j = k
   ·subst h; exact hju
   ·rw [getD_set_ne true h] at hku; exact hku
  ·rw [Array.setIfInBounds_comm _ _ e]; exact h3.2
theorem HeadQ.lex {n g : Nat} {T : Act → Prop} (hsel : Region.noSelect ops = true) (hs : Region.sinkB md ops n = true) (hc : Region.chainB md ops n = true) (hn : n < ops.size) :
  ∀ (l : List Oper) (k : Nat) (bs : Array Bool) (a : Act), (∀ j, j < l.length → l[j]? = ops[k + j]?) → k + l.length = n → HeadInv md ops n bs →
  Region.lexHead md ops g l.length k bs = true → wpQuiet P ops C T l a → HeadQ P md ops C n (fun bs' a' => Region.seqB md ops g n bs' = true ∧ T a') l.length bs a := by
 intro l
 induction l with
 | nil =>
  intro k bs a _ hk _ hB h
  have e : k = n := by simpa using hk
  subst e
  exact ⟨by simpa [Region.lexHead] using hB, h⟩
 | cons o l ih =>
  intro k bs a hl hk inv hB h
  have ho : ops[k]? = some o := by simpa using (hl 0 (by simp)).symm
  simp only [List.length_cons, Region.lexHead, Bool.and_eq_true] at hB
  have hr : k ∈ Region.ready md ops bs := by simpa using hB.1.1
  have hkn : k < n := by simp only [List.length_cons] at hk; omega
  have hq : qOp P ops C k (wpQuiet P ops C T l) a := by unfold qOp; simp only [ho]; exact h
  obtain ⟨v, hy, hK⟩ := yieldsIn_of_qOp ho hq
  refine HeadQ.take ho (Region.noSelect_spec hsel) hs hc hn hkn (fun bs' a' hL => seqB_ready hL.1) l.length bs a inv (Region.free_spec ho hB.1.2) hr hy
   (ih (k + 1) _ _ ?_ (by simp only [List.length_cons] at hk; omega) (inv.set hr hkn) hB.2 hK)
  intro j hj
  have := hl (j + 1) (by simp; omega)
  rw [List.getElem?_cons_succ] at this
  rw [this, Nat.add_right_comm, Nat.add_assoc]
end
theorem wp_region_class_tail {P : Program} {C : World → Prop} {id : Nat} {Q : Exit → Act → World → Prop} {a : Act} {w : World} {l : List Oper} (n : Nat) (hm : P.follows .mixedOrders = true) (hB : Region.lexTailB .any l.toArray n = true) (hC : C w.drew)
  (h : wpQuiet P l.toArray C (fun a' => ∀ w', C w' → wpList P l.toArray Q (l.drop n) a' w') (l.take n) a) : (Code.region id l.toArray true).wp P Q a w := by
 simp only [Region.lexTailB, Bool.and_eq_true, decide_eq_true_eq] at hB
 obtain ⟨⟨⟨⟨hsel, hn⟩, hs⟩, hc⟩, hlex⟩ := hB
 have hn' : n < l.length := by simpa using hn
 have htl : (l.take n).length = n := by simp; omega
 have hdl : (l.drop n).length = l.toArray.size - n := by simp
 have inv0 : HeadInv .any l.toArray n (Array.replicate l.toArray.size false) :=
  ⟨by simp, fun j oj _ h0 => (by rw [getD_replicate_false] at h0; cases h0), fun t _ ht => getD_in (by simpa using ht) (getD_replicate_false _ _)⟩
 have H := HeadQ.lex (C := C) (md := .any) (g := l.toArray.size - n) hsel hs hc hn (l.take n) 0 _ a (fun j hj => by
  have hj' : j < n := by rw [htl] at hj; exact hj
  simp [hj']) (by simpa using htl) inv0 (by rw [htl]; exact hlex) h
 have H2 := HeadQ.any (Q := Q) (g := l.toArray.size - n) (L := fun bs' a' => Region.seqB .any l.toArray (l.toArray.size - n) n bs' = true ∧ ∀ w', C w' → wpList P l.toArray Q (l.drop n) a' w') (fun bs a' w' hw' hL => by
  have := wpAny_of_seq (md := .any) (Q' := Q) (l.drop n) n bs a' w' (fun j => by simp [List.getElem?_drop]) (by rw [hdl]; exact hL.1) (hL.2 w' hw')
  rwa [hdl] at this) _ _ _ _ hC H
 rw [htl, show n + (l.toArray.size - n) = l.toArray.size by omega] at H2
 exact wp_region_any hm H2
theorem wp_region_ext_tail {P : Program} {id : Nat} {Q : Exit → Act → World → Prop} {a : Act} {w : World} {l : List Oper} (n : Nat) (hm : P.follows .mixedOrders = true) (hB : Region.lexTailB .any l.toArray n = true)
  (h : wpQuiet P l.toArray (fun w' => ∃ x : Ext w, w' = x.w) (fun a' => ∀ x : Ext w, wpList P l.toArray Q (l.drop n) a' x.w) (l.take n) a) : (Code.region id l.toArray true).wp P Q a w :=
 wp_region_class_tail (C := fun w' => ∃ x : Ext w, w' = x.w) n hm hB ⟨⟨w.drew, Cv.drewN_below (Below.refl _ _) 1⟩, rfl⟩ (by
  have e : (fun a' => ∀ w', (∃ x : Ext w, w' = x.w) → wpList P l.toArray Q (l.drop n) a' w') = (fun a' => ∀ x : Ext w, wpList P l.toArray Q (l.drop n) a' x.w) := by
   funext a'
   exact propext ⟨fun h x => h _ ⟨x, rfl⟩, fun h w' ⟨x, hx⟩ => hx ▸ h x⟩
  rw [e]; exact h)
end Go.Proofs.YtilkhmhgjbhfnaaGreatDoor
