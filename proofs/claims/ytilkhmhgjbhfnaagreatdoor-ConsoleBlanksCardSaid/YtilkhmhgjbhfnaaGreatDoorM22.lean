/- Parts of the proof, side by side: MoInsE, MoDelE, MoPut. -/
import Derived.Test.YtilkhmhgjbhfnaaGreatDoorM11
import Derived.Test.YtilkhmhgjbhfnaaGreatDoorM03
import Derived.Test.YtilkhmhgjbhfnaaGreatDoorM13
set_option linter.unusedVariables false
set_option linter.unusedSimpArgs false
namespace Go.Proofs.YtilkhmhgjbhfnaaGreatDoor
open Go.RowKit
set_option maxHeartbeats 4000000 in
set_option maxRecDepth 100000 in
theorem insE_shift (g n c i vb : Nat) (cur : Array Value) (x xs seg : List Value) (w : World) (hg : w.heap[g]? = some (.cells cur 131 (0, 0))) (hsz : cur.size = c * 2) (hi : i < n) (hroom : n + 1 ≤ c) (hcm : c ≤ maxLen) (hvb : vb ≠ g) (hxl : x.length = 2)
  (hv : w.heap[vb]? = some (.cells x.toArray 131 (0, 0))) (hxs : cur.toList.take (n * 2) = xs) (h1c : ∀ v ∈ xs, v.oneCell' = true) (h1x : ∀ v ∈ x, v.oneCell' = true) (hseg : seg = xs.drop (i * 2)) :
  Calls Tryz.prog 189 #[.slice (some ⟨g, 0, none⟩) n c, .int .i64 i, .slice (some ⟨vb, 0, none⟩) 1 1] w fun e w' =>
   e = .returned (.slice (some ⟨g, 0, none⟩) (n + 1) c) ∧ w' = w.drew.setRow g (layV (layV cur.toList ((i + 1) * 2) seg) (i * 2) x).toArray := by
 obtain ⟨i0, hi0, hz0, hz1, hz2⟩ := info_parts infoEnt
 have hc63 : c ≤ 9223372036854775807 := by unfold maxLen at hcm; omega
 have hsize : (Tryz.prog.info? 131).map (·.size) = some 2 := by rw [hi0]; simp [hz1]
 have hsl : seg.length = (n - i) * 2 := by rw [hseg, ← hxs, List.length_drop, List.length_take, Array.length_toList, hsz]; omega
 have hov : ∀ lb cb, (callFunc 213 #[.slice (some ⟨vb, 0, none⟩) 1 1, .slice (some ⟨g, (i + 1) * 2, none⟩) lb cb]).run Tryz.prog w = .ok (.value (.bool false)) w := fun lb cb => by
  rw [run_callFunc_extern Tryz.func213 (by kernel_rfl) (by kernel_rfl) (by kernel_rfl) (e := Extern.SlicesOverlaps.overlaps #[63, 63] #[4]) (by kernel_rfl),
   Lib.run_overlaps_apart w 63 4 131 Tryz.underlying63 2 (fun w => by simp [Go.sizeOf, typeInfo, hi0, hz1]) ⟨vb, 0, none⟩ ⟨g, (i + 1) * 2, none⟩ 1 1 lb cb hvb 131 131 2 (c * 2) (by simp [World.shape?, hv, hxl]) (by simp [World.shape?, hg, hsz]) (by omega) (by simp [World.frozen?, hv]) (by simp [World.frozen?, hv])]
  rfl
 have hw1 : IntKind.i64.wrap ((i : Int) + (1 : Int)) = ((i + 1 : Nat) : Int) := by rw [IntKind.wrap_i64]; omega
 have hw2 : IntKind.i64.wrap ((n : Int) + (1 : Int)) = ((n + 1 : Nat) : Int) := by rw [IntKind.wrap_i64]; omega
 have hz3 : ¬ ((i : Int) = (n : Int)) := by omega
 have hb2 : ¬ (c = i + 1) := by omega
 have hb4 : ¬ (c = i) := by omega
 have hin : i ≤ n := by omega
 have hin1 : i ≤ n + 1 := by omega
 have hin2 : i + 1 ≤ n + 1 := by omega
 have hin3 : n + 1 ≤ c := by omega
 have hnc : n ≤ c := by omega
 have hp1 : (0 : Int) ≤ (i : Int) + 1 := by omega
 have hp2 : (i : Int) + 1 ≤ (n : Int) + 1 := by omega
 have hp3 : (i : Int) ≤ (n : Int) + 1 := by omega
 have mixed : Tryz.prog.follows Departure.mixedOrders = true := by kernel_rfl
 have hcp1 : ∀ ty dc sc, (Builtin.copy_ #[63, 63] ty #[.slice (some ⟨g, (i + 1) * 2, none⟩) (n - i) dc, .slice (some ⟨g, i * 2, none⟩) (n + 1 - i) sc]).run Tryz.prog w.drew = .ok (goInt (Nat.min (n + 1 - i) (n - i))) (w.drew.setRow g (layV cur.toList ((i + 1) * 2) seg).toArray) := fun ty dc sc => by
  exact run_copy_rowK w.drew _ _ ty 131 2 g ((i + 1) * 2) (n - i) dc ⟨g, i * 2, none⟩ (n + 1 - i) sc cur 131 seg Tryz.underlying63 hsize hg (by rw [hsl]; simp only [Nat.min_def]; split <;> omega)
   (row_cells hg _ _ (fun j v hj => by
    rw [hseg, ← hxs, List.getElem?_drop, List.getElem?_take] at hj
    split at hj
    ·simpa using hj
    ·cases hj)) (by rw [hsl, hsz]; omega) (fun v hv => h1c v (by rw [hseg] at hv; exact List.mem_of_mem_drop hv))
 obtain ⟨C1, hC1⟩ : ∃ C1, C1 = (layV cur.toList ((i + 1) * 2) seg).toArray := ⟨_, rfl⟩
 have hC1s : C1.size = c * 2 := by rw [hC1, layV_size (by rw [hsl, hsz]; omega), hsz]
 have hC1l : layV cur.toList ((i + 1) * 2) seg = C1.toList := by rw [hC1]
 rw [← hC1] at hcp1
 rw [hC1l]
 obtain ⟨W1, hW1⟩ : ∃ W1, W1 = w.drew.setRow g C1 := ⟨_, rfl⟩
 have hg1 : W1.heap[g]? = some (.cells C1 131 (0, 0)) := by rw [hW1]; exact setRow_heap w.drew g cur _ _ _ hg
 have hv1 : W1.heap[vb]? = some (.cells x.toArray 131 (0, 0)) := by rw [hW1, setRow_other w.drew g vb _ hvb]; exact hv
 have hcp2 : ∀ ty dc, (Builtin.copy_ #[63, 63] ty #[.slice (some ⟨g, i * 2, none⟩) (n + 1 - i) dc, .slice (some ⟨vb, 0, none⟩) 1 1]).run Tryz.prog W1 = .ok (goInt (Nat.min 1 (n + 1 - i))) (W1.setRow g (layV C1.toList (i * 2) x).toArray) := fun ty dc => by
  exact run_copy_rowK W1 _ _ ty 131 2 g (i * 2) (n + 1 - i) dc ⟨vb, 0, none⟩ 1 1 C1 131 x Tryz.underlying63 hsize hg1 (by rw [hxl]; simp only [Nat.min_def]; split <;> omega)
   (row_cells hv1 _ _ (fun j v hj => by rw [Nat.zero_add, List.getElem?_toArray]; exact hj)) (by rw [hxl, hC1s]; omega) h1x
 rw [← hW1] at hcp1
 have hfin : W1.setRow g (layV C1.toList (i * 2) x).toArray = w.drew.setRow g (layV C1.toList (i * 2) x).toArray := by rw [hW1, setRow_setRow]
 have HOV := Lib.hid hov
 have HF := Lib.hid hfin
 have HC1 := Lib.hid hcp1
 have HC2 := Lib.hid hcp2
 clear hg1 hv1 hC1 hC1s hC1l hW1 hcp1 hcp2 hfin hseg hsl hsz hg hv h1c h1x hcm hxs
 go_enter Tryz.func189, Tryz.ntmps189
 go_wp2_with (simp only [HOV.out])
 go_region_law_o (refine step_copy_runI rfl _ _ 63 63 rfl (.slice (some ⟨g, (i + 1) * 2, none⟩) (n - i) (c - (i + 1))) (.slice (some ⟨g, i * 2, none⟩) (n + 1 - i) (c - i)) (by simp [Act.eval, Act.put]) (by simp [Act.eval, Act.put]) (HC1.out 3 (c - (i + 1)) (c - i)) ?_)
 go_wp2_with (simp only [HC2.out])
 go_ret
 exact ⟨rfl, HF.out⟩
set_option maxHeartbeats 4000000 in
set_option maxRecDepth 100000 in
theorem insE_grow (g n c i vb : Nat) (cur : Array Value) (x xs seg : List Value) (w : World) (hg : w.heap[g]? = some (.cells cur 131 (0, 0))) (hsz : cur.size = c * 2) (hi : i < n) (hnc : n ≤ c) (hroom : c < n + 1) (hn40 : n + 1 ≤ 1099511627776) (hxl : x.length = 2)
  (hv : w.heap[vb]? = some (.cells x.toArray 131 (0, 0))) (hxs : cur.toList.take (n * 2) = xs) (h1c : ∀ v ∈ xs, v.oneCell' = true) (h1x : ∀ v ∈ x, v.oneCell' = true) (hseg : seg = xs.drop (i * 2)) :
  Calls Tryz.prog 189 #[.slice (some ⟨g, 0, none⟩) n c, .int .i64 i, .slice (some ⟨vb, 0, none⟩) 1 1] w fun e w' =>
   e = .returned (.slice (some ⟨w.heap.size, 0, none⟩) (n + 1) (grownCap w (n + 1) c 131)) ∧ w.grownBy w' none ∧ ∃ cur', w'.heap[w.heap.size]? = some (.cells cur' 131 (0, 0)) ∧ cur'.size = grownCap w (n + 1) c 131 * 2 ∧ cur'.toList.take ((n + 1) * 2) = xs.take (i * 2) ++ x ++ seg := by
 obtain ⟨i0, hi0, hz0, hz1, hz2⟩ := info_parts infoEnt
 have hsize : (Tryz.prog.info? 131).map (·.size) = some 2 := by rw [hi0]; simp [hz1]
 have hxsl : xs.length = n * 2 := by rw [← hxs, List.length_take, Array.length_toList, hsz]; omega
 have hsl : seg.length = (n - i) * 2 := by rw [hseg, List.length_drop, hxsl]; omega
 have hbw : g < w.heap.size := (Array.getElem?_eq_some_iff.1 hg).1
 have hvw : vb < w.heap.size := (Array.getElem?_eq_some_iff.1 hv).1
 have hvg : vb ≠ w.heap.size := by omega
 have hgg : g ≠ w.heap.size := by omega
 have hold : (Builtin.firstCells i0.size i (.slice (some ⟨g, 0, none⟩) i c)).run Tryz.prog w.drew = .ok (xs.take (i * 2)).toArray w.drew := by
  rw [hz1]
  refine run_firstCells_some w.drew 2 i ⟨g, 0, none⟩ i c (xs.take (i * 2)) (by rw [List.length_take]; omega) (row_cells hg 0 _ (fun j v hj => ?_))
  rw [List.getElem?_take] at hj
  split at hj
  ·rw [← hxs, List.getElem?_take] at hj
   split at hj
   ·rw [Nat.zero_add]; simpa using hj
   ·cases hj
  ·cases hj
 have hkk : (n : Int) + 1 - (i : Int) = ((n + 1 - i : Nat) : Int) := by omega
 have hik : i + (n + 1 - i) = n + 1 := by omega
 obtain ⟨G, hG⟩ : ∃ G, G = grownCap w (n + 1) c 131 := ⟨_, rfl⟩
 obtain ⟨Z, hZ⟩ : ∃ Z : Value, i0.zero = some Z ∧ Z.cells.size = 2 := ⟨_, hz0, rfl⟩
 obtain ⟨ROW, hROW⟩ : ∃ ROW : Array Value, ROW = (xs.take (i * 2)).toArray ++ Builtin.zeroCells Z.cells (n + 1 - i) ++ Builtin.zeroCells Z.cells (G - (n + 1)) := ⟨_, rfl⟩
 have hGn : n + 1 ≤ G := by rw [hG]; exact grownCap_ge w _ _ _
 have hGm : G ≤ maxLen := by rw [hG]; exact grownCap_le_maxLen w (n + 1) c _ (by unfold maxLen; omega)
 have hG63 : G ≤ 9223372036854775807 := by unfold maxLen at hGm; omega
 have hRs : ROW.size = G * 2 := by rw [hROW, Array.size_append, Array.size_append, List.size_toArray, size_zeroCells, size_zeroCells, hZ.2, List.length_take, hxsl]; omega
 have hRt : ROW.toList.take (i * 2) = xs.take (i * 2) := by
  rw [hROW, Array.toList_append, Array.toList_append, List.append_assoc]
  exact List.take_left' (by rw [List.length_take, hxsl]; omega)
 have hrz : ∀ ty, (Builtin.append_ #[63, 3] ty #[.slice (some ⟨g, 0, none⟩) i c, .int .i64 ((n : Int) + 1 - (i : Int))]).run Tryz.prog w = .ok (.slice (some ⟨w.heap.size, 0, none⟩) (n + 1) G) (w.drew.alloc (.cells ROW 131)) := fun ty => by
  have h := Lib.run_append_grow_zeros w 63 3 ty 131 i0 Z .i64 .i64 Tryz.underlying63 Tryz.underlying3 hi0 hZ.1 (some ⟨g, 0, none⟩) i c (xs.take (i * 2)) hold (n + 1 - i) (by omega) (by omega) (by omega) (by omega) (by rw [hz2]; omega) (by rw [hik]; exact growslice_fits hroom (by rw [hz2]; omega))
  rw [hik, ← hG, ← hROW] at h
  rw [hkk]
  exact h
 obtain ⟨N, hN⟩ : ∃ N, N = w.heap.size := ⟨_, rfl⟩
 obtain ⟨W1, hW1⟩ : ∃ W1, W1 = w.drew.alloc (.cells ROW 131) := ⟨_, rfl⟩
 have g1 : W1.heap[N]? = some (.cells ROW 131 (0, 0)) := by rw [hW1, hN]; exact Go.heap_alloc_new w.drew _
 have g1v : W1.heap[vb]? = some (.cells x.toArray 131 (0, 0)) := by rw [hW1, Go.heap_alloc_old w.drew _ hvw]; exact hv
 have g1g : W1.heap[g]? = some (.cells cur 131 (0, 0)) := by rw [hW1, Go.heap_alloc_old w.drew _ hbw]; exact hg
 have gr1 : w.grownBy W1 none := by rw [hW1]; exact ⟨rfl, rfl, rfl, by simp, fun b hb _ => Go.heap_alloc_old w.drew _ hb⟩
 have hcp1 : ∀ ty dc, (Builtin.copy_ #[63, 63] ty #[.slice (some ⟨N, i * 2, none⟩) (n + 1 - i) dc, .slice (some ⟨vb, 0, none⟩) 1 1]).run Tryz.prog W1 = .ok (goInt (Nat.min 1 (n + 1 - i))) (W1.setRow N (layV ROW.toList (i * 2) x).toArray) := fun ty dc =>
  run_copy_rowK W1 _ _ ty 131 2 N (i * 2) (n + 1 - i) dc ⟨vb, 0, none⟩ 1 1 ROW 131 x Tryz.underlying63 hsize g1 (by rw [hxl]; simp only [Nat.min_def]; split <;> omega)
   (row_cells g1v _ _ (fun j v hj => by rw [Nat.zero_add, List.getElem?_toArray]; exact hj)) (by rw [hxl, hRs]; omega) h1x
 obtain ⟨C1, hC1⟩ : ∃ C1, C1 = (layV ROW.toList (i * 2) x).toArray := ⟨_, rfl⟩
 have hC1s : C1.size = G * 2 := by rw [hC1, layV_size (by rw [hRs, hxl]; omega), hRs]
 rw [← hC1] at hcp1
 obtain ⟨W2, hW2⟩ : ∃ W2, W2 = W1.setRow N C1 := ⟨_, rfl⟩
 rw [← hW2] at hcp1
 have g2 : W2.heap[N]? = some (.cells C1 131 (0, 0)) := by rw [hW2]; exact setRow_heap W1 N ROW _ _ _ g1
 have g2g : W2.heap[g]? = some (.cells cur 131 (0, 0)) := by rw [hW2, setRow_other W1 N g _ (by omega)]; exact g1g
 have gr2 : w.grownBy W2 none := by
  rw [hW2]
  exact ⟨gr1.os, gr1.tape, gr1.output, by rw [World.setRow]; simp; exact gr1.size, fun b hb _ => (setRow_other W1 N b _ (by omega)).trans (gr1.block b hb (by simp))⟩
 have hcp2 : ∀ ty dc sc, (Builtin.copy_ #[63, 63] ty #[.slice (some ⟨N, (i + 1) * 2, none⟩) (n - i) dc, .slice (some ⟨g, i * 2, none⟩) (n - i) sc]).run Tryz.prog W2.drew = .ok (goInt (Nat.min (n - i) (n - i))) (W2.drew.setRow N (layV C1.toList ((i + 1) * 2) seg).toArray) := fun ty dc sc =>
  run_copy_rowK W2.drew _ _ ty 131 2 N ((i + 1) * 2) (n - i) dc ⟨g, i * 2, none⟩ (n - i) sc C1 131 seg Tryz.underlying63 hsize g2 (by rw [hsl]; simp only [Nat.min_def]; split <;> omega)
   (row_cells (w := W2.drew) g2g _ _ (fun j v hj => by
    rw [hseg, ← hxs, List.getElem?_drop, List.getElem?_take] at hj
    split at hj
    ·simpa using hj
    ·cases hj)) (by rw [hsl, hC1s]; omega) (fun v hv => h1c v (by rw [hseg] at hv; exact List.mem_of_mem_drop hv))
 have fin : W2.drew.grownBy (W2.drew.setRow N (layV C1.toList ((i + 1) * 2) seg).toArray) (some N) := rw_setRow
 have hfin : w.grownBy (W2.drew.setRow N (layV C1.toList ((i + 1) * 2) seg).toArray) none := ⟨fin.os.trans gr2.os, fin.tape.trans gr2.tape, fin.output.trans gr2.output, Nat.le_trans gr2.size fin.size, fun b hb _ => (setRow_other W2.drew N b _ (by omega)).trans (gr2.block b hb (by simp))⟩
 have hcell : (W2.drew.setRow N (layV C1.toList ((i + 1) * 2) seg).toArray).heap[N]? = some (.cells (layV C1.toList ((i + 1) * 2) seg).toArray 131 (0, 0)) := setRow_heap W2.drew N C1 _ _ _ g2
 have hcs : (layV C1.toList ((i + 1) * 2) seg).toArray.size = G * 2 := by rw [layV_size (by rw [hsl, hC1s]; omega), hC1s]
 have hct : (layV C1.toList ((i + 1) * 2) seg).toArray.toList.take ((n + 1) * 2) = xs.take (i * 2) ++ x ++ seg := by
  have h := ins_grow (l := ROW.toList) (x := x) (D := seg) hRt (by rw [hxl, hsl, Array.length_toList, hRs]; omega)
  rw [hxl, hsl, show i * 2 + 2 = (i + 1) * 2 by omega, show (i + 1) * 2 + (n - i) * 2 = (n + 1) * 2 by omega] at h
  rw [hC1]
  exact h
 rw [← hW1, ← hN] at hrz
 rw [← hN, ← hG]
 obtain ⟨W3, hW3⟩ : ∃ W3, W3 = W2.drew.setRow N (layV C1.toList ((i + 1) * 2) seg).toArray := ⟨_, rfl⟩
 rw [← hW3] at hcp2 hfin hcell
 obtain ⟨C3, hC3⟩ : ∃ C3, C3 = (layV C1.toList ((i + 1) * 2) seg).toArray := ⟨_, rfl⟩
 rw [← hC3] at hcell hcs hct
 have hw1 : IntKind.i64.wrap ((i : Int) + (1 : Int)) = ((i + 1 : Nat) : Int) := by rw [IntKind.wrap_i64]; omega
 have hw2 : IntKind.i64.wrap ((n : Int) + (1 : Int)) = ((n + 1 : Nat) : Int) := by rw [IntKind.wrap_i64]; omega
 have hz3 : ¬ ((i : Int) = (n : Int)) := by omega
 have hzc : (c : Int) < (n : Int) + 1 := by omega
 have hb2 : ¬ (G = i + 1) := by omega
 have hb4 : ¬ (G = i) := by omega
 have hb5 : ¬ (c = i) := by omega
 have hin : i ≤ n := by omega
 have hin1 : i ≤ n + 1 := by omega
 have hin2 : i + 1 ≤ n + 1 := by omega
 have hp1 : (0 : Int) ≤ (i : Int) + 1 := by omega
 have hp2 : (i : Int) + 1 ≤ (n : Int) + 1 := by omega
 have hp3 : (i : Int) ≤ (n : Int) + 1 := by omega
 have mixed : Tryz.prog.follows Departure.mixedOrders = true := by kernel_rfl
 have HR := Lib.hid hrz
 have HC1 := Lib.hid hcp1
 have HC2 := Lib.hid hcp2
 have HFIN := Lib.hid hfin
 have HCELL := Lib.hid hcell
 have HCS := Lib.hid hcs
 have HCT := Lib.hid hct
 clear hrz hcp1 hcp2 hfin hcell hcs hct hC3 hW3 fin gr2 g2g g2 hW2 hC1s hC1 gr1 g1g g1v g1 hW1 hN hRt hRs hGm hROW hZ hG hik hkk hold hsl hxsl hseg hsz hg hv h1c h1x hxs hbw hvw hvg hgg
 go_enter Tryz.func189, Tryz.ntmps189
 go_wp2_with (first | (at_builtin; refine Lib.wpList_append_run _ rfl _ _ _ _ rfl _ _ rfl rfl _ _ (HR.out _) ?_) | simp only [HC1.out])
 go_region_law_o (refine step_copy_runI rfl _ _ 63 63 rfl (.slice (some ⟨N, (i + 1) * 2, none⟩) (n - i) (G - (i + 1))) (.slice (some ⟨g, i * 2, none⟩) (n - i) (c - i)) (by simp [Act.eval, Act.put]) (by simp [Act.eval, Act.put]) (HC2.out 3 (G - (i + 1)) (c - i)) ?_)
 go_wp2_with fail
 go_ret
 exact ⟨rfl, HFIN.out, C3, HCELL.out, HCS.out, HCT.out⟩
set_option maxHeartbeats 4000000 in
set_option maxRecDepth 100000 in
theorem insE_end (v v' : Value) (n vb : Nat) (w w1 : World) (hv : ∃ A c, v = .slice A n c ∧ n ≤ c ∧ (A = none → c = 0)) (hr : ∀ ty, (Builtin.append_ #[63, 63] ty #[v, .slice (some ⟨vb, 0, none⟩) 1 1]).run Tryz.prog w = .ok v' w1) :
  Calls Tryz.prog 189 #[v, .int .i64 n, .slice (some ⟨vb, 0, none⟩) 1 1] w fun e w' => e = .returned v' ∧ w' = w1 := by
 obtain ⟨A, c, rfl, hnc, hA⟩ := hv
 have HR := Lib.hid hr
 clear hr
 go_enter Tryz.func189, Tryz.ntmps189
 cases A with
 | none =>
  have h0 := hA rfl
  subst h0
  have h1 : n = 0 := by omega
  subst h1
  go_wp2_with (at_builtin; refine Lib.wpList_append_run _ rfl _ _ _ _ rfl _ _ rfl rfl _ _ (HR.out _) ?_)
  go_ret
  exact ⟨rfl, rfl⟩
 | some a =>
  obtain ⟨ab, ao, asp⟩ := a
  clear hA
  go_wp2_with (at_builtin; refine Lib.wpList_append_run _ rfl _ _ _ _ rfl _ _ rfl rfl _ _ (HR.out _) ?_)
  all_goals (go_ret; exact ⟨rfl, rfl⟩)
theorem insE_any (B n i vb : Nat) (v : Value) (xs x : List Value) (w : World) (h : RowAt B w 131 2 v n xs) (hB : B ≤ w.heap.size) (hi : i ≤ n) (hn : n + 1 ≤ 1099511627776) (hxl : x.length = 2) (hv : w.heap[vb]? = some (.cells x.toArray 131 (0, 0))) (hvb : rowBlk v ≠ some vb) (h1x : ∀ v ∈ x, v.oneCell' = true) (h1 : ∀ u ∈ xs, u.oneCell' = true) :
  Calls Tryz.prog 189 #[v, .int .i64 i, .slice (some ⟨vb, 0, none⟩) 1 1] w fun e w' => ∃ v', e = .returned v' ∧ RowAt B w' 131 2 v' (n + 1) (xs.take (i * 2) ++ x ++ xs.drop (i * 2)) ∧ w.grownBy w' (rowBlk v) ∧ (rowBlk v' = rowBlk v ∨ ∃ b, rowBlk v' = some b ∧ w.heap.size ≤ b) := by
 obtain ⟨i0, hi0, hz0, hz1, hz2⟩ := info_parts infoEnt
 by_cases he : i = n
 ·subst he
  have e1 : xs.take (i * 2) = xs := List.take_of_length_le (by rw [h.1]; exact Nat.le_refl _)
  have e2 : xs.drop (i * 2) = [] := List.drop_eq_nil_of_le (by rw [h.1]; exact Nat.le_refl _)
  rw [e1, e2, List.append_nil]
  obtain ⟨v', w1, hr, h2, h3, h4⟩ := row_append h hB 63 Tryz.underlying63 i0 hi0 _ hz0 hz1 rfl (by rw [hz2]; omega) hn ⟨vb, 0, none⟩ x hxl (row_cells hv 0 x (fun j u hj => by rw [Nat.zero_add, List.getElem?_toArray]; exact hj)) h1x 1
  refine (insE_end v v' i vb w w1 ?_ hr).mono ?_
  ·rcases h.2 with ⟨A, rfl, h0⟩ | ⟨g, cap, cur, rfl, _, _, _, hnc, _⟩
   ·subst h0
    exact ⟨A, 0, rfl, Nat.le_refl _, fun _ => rfl⟩
   ·exact ⟨_, cap, rfl, hnc, fun e => by cases e⟩
  ·rintro e w' ⟨rfl, rfl⟩
   exact ⟨v', rfl, h2, h3, h4⟩
 ·have hlt : i < n := by omega
  rcases h.2 with ⟨A, rfl, h0⟩ | ⟨g, cap, cur, rfl, hc, hBg, hg, hnc, hcm, hcs, htk⟩
  ·omega
  ·have hb : rowBlk (.slice (some ⟨g, 0, none⟩) n cap) = some g := by simp [rowBlk, Nat.ne_of_gt hc]
   have hlen : (xs.take (i * 2) ++ x ++ xs.drop (i * 2)).length = (n + 1) * 2 := by
    rw [List.length_append, List.length_append, List.length_take, List.length_drop, h.1, hxl]
    omega
   rw [hb]
   by_cases hroom : n + 1 ≤ cap
   ·refine (insE_shift g n cap i vb cur x xs (xs.drop (i * 2)) w hg hcs hlt hroom hcm (fun e => hvb (by rw [hb, e])) hxl hv htk h1 h1x rfl).mono ?_
    rintro e w' ⟨rfl, rfl⟩
    refine ⟨_, rfl, ⟨hlen, .inr ⟨g, cap, _, rfl, hc, hBg, setRow_heap w.drew g cur _ _ _ hg, hroom, hcm, ?_, ?_⟩⟩, rw_drew rw_setRow, .inl (by simp [rowBlk, Nat.ne_of_gt hc])⟩
    ·have hl : (xs.drop (i * 2)).length = (n - i) * 2 := by rw [List.length_drop, h.1]; omega
     have l1 := layV_len (l := cur.toList) (o := (i + 1) * 2) (vs := xs.drop (i * 2)) (by rw [hl, Array.length_toList, hcs]; omega)
     rw [List.size_toArray, layV_len (by rw [hxl, l1, Array.length_toList, hcs]; omega), l1, Array.length_toList, hcs]
    ·have hl : (xs.drop (i * 2)).length = (n - i) * 2 := by rw [List.length_drop, h.1]; omega
     have hA : cur.toList.take (i * 2) = xs.take (i * 2) := by rw [← htk, List.take_take, Nat.min_eq_left (by omega)]
     have q := ins_shift (l := cur.toList) (x := x) (D := xs.drop (i * 2)) hA (by rw [hxl, hl, Array.length_toList, hcs]; omega)
     rw [hxl, hl, show i * 2 + 2 = (i + 1) * 2 by omega, show (i + 1) * 2 + (n - i) * 2 = (n + 1) * 2 by omega] at q
     exact q
   ·refine (insE_grow g n cap i vb cur x xs (xs.drop (i * 2)) w hg hcs hlt hnc (by omega) hn hxl hv htk h1 h1x rfl).mono ?_
    rintro e w' ⟨rfl, hgr, cur', g1, g2, g3⟩
    have hG := grownCap_ge w (n + 1) cap 131
    refine ⟨_, rfl, ⟨hlen, .inr ⟨w.heap.size, _, cur', rfl, by omega, hB, g1, hG, grownCap_le_maxLen w (n + 1) cap _ (by unfold maxLen; omega), g2, g3⟩⟩, ⟨hgr.os, hgr.tape, hgr.output, hgr.size, fun k hk _ => hgr.block k hk (by simp)⟩, .inr ⟨w.heap.size, ?_, Nat.le_refl _⟩⟩
    simp only [rowBlk]
    rw [if_neg (by omega)]
end Go.Proofs.YtilkhmhgjbhfnaaGreatDoor
namespace Go.Proofs.YtilkhmhgjbhfnaaGreatDoor
open Go.RowKit
set_option maxHeartbeats 4000000 in
set_option maxRecDepth 100000 in
theorem delE_row (g c i m : Nat) (cur : Array Value) (xs seg zs : List Value) (w : World) (hg : w.heap[g]? = some (.cells cur 131 (0, 0))) (hsz : cur.size = c * 2) (hnc : i + m + 1 ≤ c) (hcm : c ≤ maxLen)
  (hxs : cur.toList.take ((i + m + 1) * 2) = xs) (h1c : ∀ v ∈ xs, v.oneCell' = true) (hseg : seg = xs.drop ((i + 1) * 2)) (hzs : zs = (Value.agg #[.string ⟨#[]⟩, .int .i64 0]).cells.toList) :
  Calls Tryz.prog 195 #[.slice (some ⟨g, 0, none⟩) (i + m + 1) c, .int .i64 i, .int .i64 ((i : Int) + 1)] w fun e w' =>
   e = .returned (.slice (some ⟨g, 0, none⟩) (i + m) c) ∧ w' = w.drew.setRow g (layV (layV cur.toList (i * 2) seg) ((i + m) * 2) zs).toArray := by
 obtain ⟨i0, hi0, hz0, hz1, hz2⟩ := info_parts infoEnt
 have hc63 : c ≤ 9223372036854775807 := by unfold maxLen at hcm; omega
 have hzl : zs.length = 2 := by rw [hzs]; rfl
 have hzo : ∀ v ∈ zs, v.oneCell' = true := by rw [hzs]; intro v hv; simp [Value.cells] at hv; rcases hv with rfl | rfl <;> rfl
 have hxl : xs.length = (i + m + 1) * 2 := by rw [← hxs, List.length_take, Array.length_toList, hsz]; omega
 have hsl : seg.length = m * 2 := by rw [hseg, List.length_drop, hxl]; omega
 obtain ⟨A, hA, hsrc⟩ : ∃ A : Addr, (if c = i + 1 then some (⟨g, 0, none⟩ : Addr) else some ⟨g, (i + 1) * 2, none⟩) = some A ∧ ∀ j u, seg[j]? = some u → w.drew.cell? (A.add j) = some u := by
  by_cases h : c = i + 1
  ·refine ⟨⟨g, 0, none⟩, by rw [if_pos h], fun j u hu => ?_⟩
   have h0 : seg.length = 0 := by rw [hsl]; omega
   rw [List.length_eq_zero_iff.1 h0] at hu
   simp at hu
  ·refine ⟨⟨g, (i + 1) * 2, none⟩, by rw [if_neg h], row_cells (w := w.drew) hg _ _ (fun j v hj => ?_)⟩
   rw [hseg, ← hxs, List.getElem?_drop, List.getElem?_take] at hj
   split at hj
   ·simpa using hj
   ·cases hj
 have hap : ∀ ty sc, (Builtin.append_ #[63, 63] ty #[.slice (some ⟨g, 0, none⟩) i c, .slice (some A) m sc]).run Tryz.prog w.drew = .ok (.slice (some ⟨g, 0, none⟩) (i + m) c) (w.drew.setRow g (layV cur.toList (i * 2) seg).toArray) := fun ty sc => by
  have h := run_append_room (P := Tryz.prog) w.drew 63 ty 131 i0 Tryz.underlying63 hi0 g i c cur hg A m sc seg (by rw [hsl, hz1]) hsrc (fun v hv => h1c v (by rw [hseg] at hv; exact List.mem_of_mem_drop hv)) (by omega) (by rw [hz1, hsl, hsz]; omega)
  rw [hz1] at h
  exact h
 obtain ⟨C1, hC1⟩ : ∃ C1, C1 = (layV cur.toList (i * 2) seg).toArray := ⟨_, rfl⟩
 have hC1s : C1.size = c * 2 := by rw [hC1, layV_size (by rw [hsl, hsz]; omega), hsz]
 have hC1l : layV cur.toList (i * 2) seg = C1.toList := by rw [hC1]
 rw [← hC1] at hap
 rw [hC1l]
 obtain ⟨W1, hW1⟩ : ∃ W1, W1 = w.drew.setRow g C1 := ⟨_, rfl⟩
 have hg1 : W1.heap[g]? = some (.cells C1 131 (0, 0)) := by rw [hW1]; exact setRow_heap w.drew g cur _ _ _ hg
 rw [← hW1] at hap
 have hcl : ∀ ty cc, (Builtin.clear_ #[63] ty #[.slice (some ⟨g, (i + m) * 2, none⟩) 1 cc]).run Tryz.prog W1 = .ok (.tuple #[]) (W1.setRow g (layV C1.toList ((i + m) * 2) zs).toArray) := fun ty cc =>
  run_clear_rowK W1 63 131 ty (Value.agg #[.string ⟨#[]⟩, .int .i64 0]) zs Tryz.underlying63 (fun w => by simp [zeroValue, typeInfo, hi0, hz0]) hzs.symm g ((i + m) * 2) cc C1 131 hg1 (by rw [hzl, hC1s]; omega) hzo
 have hfin : W1.setRow g (layV C1.toList ((i + m) * 2) zs).toArray = w.drew.setRow g (layV C1.toList ((i + m) * 2) zs).toArray := by rw [hW1, setRow_setRow]
 have mixed : Tryz.prog.follows Departure.mixedOrders = true := by kernel_rfl
 have hic : i ≤ c := by omega
 have hjc : i + 1 ≤ c := by omega
 have hi1 : i ≤ i + m + 1 := by omega
 have hi2 : i + 1 ≤ i + m + 1 := by omega
 have hp0 : ¬ ((i : Int) = (i : Int) + 1) := by omega
 have hp1 : (0 : Int) ≤ (i : Int) + 1 := by omega
 have hp2 : (i : Int) + 1 ≤ (i : Int) + (m : Int) + 1 := by omega
 have hp3 : (i : Int) ≤ (i : Int) + 1 := by omega
 have hp4 : (i : Int) + 1 ≤ (c : Int) := by omega
 have hp5 : (i : Int) + (m : Int) ≤ (c : Int) := by omega
 have hp6 : (i : Int) + (m : Int) + 1 ≤ (c : Int) := by omega
 have hp7 : ¬ (c = i + m) := by omega
 have hp8 : i + m ≤ c := by omega
 have HA := Lib.hid hA
 have HAP := Lib.hid hap
 have HCL := Lib.hid hcl
 have HF := Lib.hid hfin
 clear hA hsrc hap hcl hfin hg1 hW1 hC1l hC1s hC1 hsl hxl hzo hzl hg hsz hcm hxs h1c hseg hzs
 go_enter Tryz.func195, Tryz.ntmps195
 go_wp2_with fail
 go_region_law_o (refine step_append_runI rfl (.tmp 22) (.tmp 25) 63 rfl (.slice (some ⟨g, 0, none⟩) i c) (.slice (some A) m (c - (i + 1))) (by simp [Act.eval, Act.put]) (by simp [Act.eval, Act.put, HA.out]) (HAP.out 63 _) ?_)
 go_wp2_with (simp only [HCL.out])
 all_goals (go_ret; exact ⟨rfl, HF.out⟩)
theorem delE_any (B n i : Nat) (v : Value) (xs : List Value) (w : World) (h : RowAt B w 131 2 v n xs) (hi : i < n) (h1 : ∀ u ∈ xs, u.oneCell' = true) :
  Calls Tryz.prog 195 #[v, .int .i64 i, .int .i64 ((i : Int) + 1)] w fun e w' => ∃ v', e = .returned v' ∧ RowAt B w' 131 2 v' (n - 1) (xs.take (i * 2) ++ xs.drop ((i + 1) * 2)) ∧ w.grownBy w' (rowBlk v) ∧ rowBlk v' = rowBlk v := by
 obtain ⟨m, rfl⟩ : ∃ m, n = i + m + 1 := ⟨n - (i + 1), by omega⟩
 rcases h.2 with ⟨A, rfl, h0⟩ | ⟨g, cap, cur, rfl, hc, hBg, hg, hnc, hcm, hcs, htk⟩
 ·omega
 ·have hb : rowBlk (.slice (some ⟨g, 0, none⟩) (i + m + 1) cap) = some g := by simp [rowBlk, Nat.ne_of_gt hc]
  have hl : (xs.drop ((i + 1) * 2)).length = m * 2 := by rw [List.length_drop, h.1]; omega
  have hlen : (xs.take (i * 2) ++ xs.drop ((i + 1) * 2)).length = (i + m) * 2 := by
   rw [List.length_append, hl, List.length_take, h.1]
   omega
  rw [hb, Nat.add_sub_cancel]
  refine (delE_row g cap i m cur xs (xs.drop ((i + 1) * 2)) _ w hg hcs hnc hcm htk h1 rfl rfl).mono ?_
  rintro e w' ⟨rfl, rfl⟩
  have s1 := layV_size (cur := cur) (o := i * 2) (vs := xs.drop ((i + 1) * 2)) (by rw [hl, hcs]; omega)
  have s2 : (layV cur.toList (i * 2) (xs.drop ((i + 1) * 2))).length = cap * 2 := by rw [List.size_toArray] at s1; rw [s1, hcs]
  refine ⟨_, rfl, ⟨hlen, .inr ⟨g, cap, _, rfl, hc, hBg, setRow_heap w.drew g cur _ _ _ hg, by omega, hcm, ?_, ?_⟩⟩, rw_drew rw_setRow, by simp [rowBlk, Nat.ne_of_gt hc]⟩
  ·rw [List.size_toArray, layV_len, s2]
   rw [s2]
   show (i + m) * 2 + 2 ≤ _
   omega
  ·show (layV (layV cur.toList (i * 2) (xs.drop ((i + 1) * 2))) ((i + m) * 2) _).take ((i + m) * 2) = _
   rw [layV_before (by rw [s2]; omega), show (i + m) * 2 = i * 2 + (xs.drop ((i + 1) * 2)).length by rw [hl]; omega, layV_take (by rw [Array.length_toList, hcs]; omega), ← htk, List.take_take, Nat.min_eq_left (by omega)]
end Go.Proofs.YtilkhmhgjbhfnaaGreatDoor
namespace Go.Proofs.YtilkhmhgjbhfnaaGreatDoor
open Go.RowKit
theorem flat_take {α : Type} (f : α → List Value) (k : Nat) (hk : ∀ x, (f x).length = k) : ∀ (l : List α) (i : Nat), (l.flatMap f).take (i * k) = (l.take i).flatMap f
 | [], i => by simp
 | y :: l, 0 => by simp
 | y :: l, i + 1 => by
  rw [List.flatMap_cons, List.take_succ_cons, List.flatMap_cons, ← flat_take f k hk l i, Nat.add_mul, Nat.one_mul, Nat.add_comm, List.take_append, List.take_of_length_le (by rw [hk]; omega), hk, Nat.add_sub_cancel_left]
theorem flat_drop {α : Type} (f : α → List Value) (k : Nat) (hk : ∀ x, (f x).length = k) : ∀ (l : List α) (i : Nat), (l.flatMap f).drop (i * k) = (l.drop i).flatMap f
 | [], i => by simp
 | y :: l, 0 => by simp
 | y :: l, i + 1 => by
  rw [List.flatMap_cons, List.drop_succ_cons, ← flat_drop f k hk l i, Nat.add_mul, Nat.one_mul, Nat.add_comm, List.drop_append, List.drop_eq_nil_of_le (by rw [hk]; omega), hk, Nat.add_sub_cancel_left, List.nil_append]
theorem one_en (es : List En) : ∀ u ∈ es.flatMap enV, u.oneCell' = true := by
 intro u hu
 obtain ⟨e, _, h⟩ := List.mem_flatMap.1 hu
 simp [enV] at h
 rcases h with rfl | rfl <;> rfl
set_option maxRecDepth 100000 in
set_option maxHeartbeats 8000000 in
theorem mput_any (B p : Nat) (s : St) (zs : List (Ino × Value)) (vI vO vM : Value) (i : Nat) (x : Ino) (name : ByteArray) (num : Int) (g n d : Nat) (w : World) (hO : Own2 B w p s zs vI vO vM) (hB : B ≤ w.heap.size) (hx : s.inos[i]? = some x) (hvI : vI = .slice (some ⟨g, 0, none⟩) n d) (hr : RiseE x.ents) (hno : ∀ e ∈ x.ents, e.name ≠ name)
  (hlen : x.ents.length ≤ 1000000) (hs : Sized { s with inos := s.inos.set i { x with ents := putE x.ents name num } }) :
  Calls Tryz.prog 132 #[.pointer (some ⟨g, i * 4, .none⟩), .string name, .int .i64 num] w fun e w' => e = .returned (.tuple #[]) ∧ Turns B p w w' ∧ ∃ zs', Own2 B w' p { s with inos := s.inos.set i { x with ents := putE x.ents name num } } zs' vI vO vM := by
 obtain ⟨g', c, E, m, d2, hv, hz, hg, hBg, hil, _, _, c2, _, hfz, hmd, hE⟩ := hO.at_ hx
 have hgg : g' = g := by rw [hvI] at hv; injection hv with e1 _ _; injection e1 with e1; injection e1 with e1; exact e1.symm
 subst hgg
 have hm : m = x.ents.length := hE.1.symm
 have hmb : m ≤ 1000000 := by omega
 have HM := Lib.hid hm
 have HO := Lib.hid hO
 have HE := Lib.hid hE
 have HNO := Lib.hid hno
 have HS := Lib.hid hs
 have HZ := Lib.hid hz
 have HFZ := Lib.hid hfz
 have HVI := Lib.hid hvI
 have HX := Lib.hid hx
 have HMD := Lib.hid hmd
 clear hO hE hno hs hz hfz hv hvI hx hmd hm hlen
 go_enter Tryz.func132, Tryz.ntmps132
 go_wp2_with fail
 refine (mentry_any x.ents E m d2 name _ HE.out (by omega) hr).mono ?_
 rintro e5 w5 ⟨k, b, rfl, hb5, hpos⟩
 have hb : b = false := by
  cases b
  ·rfl
  ·obtain ⟨e, he, hn⟩ := hpos.is_ rfl
   exact absurd hn (HNO.out e (List.mem_of_getElem? he))
 subst hb
 have hput := putE_pos x.ents name k num hpos
 have hkm : k ≤ m := by have := hpos.le; have := HM.out; omega
 have HO5 := HO.out.below hb5
 have hg5 : g' < w5.heap.size := Nat.lt_of_lt_of_le hg hb5.size
 have c5 := (hb5.cell (p := ⟨g', i * 4 + 2, none⟩) hg).trans c2
 obtain ⟨V2, hV2, _, _, hal, hlt3⟩ := box_en w5 name num
 have HOV := Lib.hid (HO5.below hal)
 have hgv : g' < V2.heap.size := Nat.lt_of_lt_of_le hg5 hal.size
 have cv := (hal.cell (p := ⟨g', i * 4 + 2, none⟩) hg5).trans c5
 have hbv : V2.heap[w5.heap.size]? = some (.cells #[.string name, .int .i64 num] 131 (0, 0)) := by rw [← hV2]; exact Go.heap_alloc_new w5 _
 have hBV : B ≤ V2.heap.size := by have := hb5.size; have := hal.size; omega
 have hrow := HOV.out.ents (x, .slice E m d2) (List.mem_of_getElem? HZ.out)
 have hrow5 := HO5.ents (x, .slice E m d2) (List.mem_of_getElem? HZ.out)
 have hne : rowBlk (.slice E m d2) ≠ some w5.heap.size := fun e => by
  have := (hrow5.blk _ e).2.1
  omega
 obtain ⟨c1, hc1⟩ : ∃ c1, V2.heap[g']? = some (.cells c1 65 (0, 0)) := by
  obtain ⟨gg, _, cur, hvv, _, _, _, hgc, _⟩ := HOV.out.rowI.open_ (by have := (List.getElem?_eq_some_iff.1 HZ.out).1; omega)
  rw [HVI.out] at hvv
  injection hvv with e1 _ _
  injection e1 with e1
  injection e1 with e1
  subst e1
  exact ⟨cur, hgc⟩
 have hnI : rowBlk (.slice E m d2) ≠ some g' := some_ne_of fun a ha => by
  obtain ⟨_, _, c3, h3⟩ := hrow.blk a ha
  exact blk_ne h3 hc1 (by decide)
 have hfv : ∀ j, V2.frozen? ⟨g', j, none⟩ = false := fun j => frozen_of_row V2 g' j _ _ hc1
 have HT5 := Lib.hid (Turns.of_below (B := B) (p := p) (Cv.next hb5 hal) hB)
 have HROW := Lib.hid hrow
 have HNE := Lib.hid hne
 have HNI := Lib.hid hnI
 have HBV := Lib.hid hbv
 have HFV := Lib.hid hfv
 have HPUT := Lib.hid hput
 have HC1 := Lib.hid hc1
 clear hb5 hpos hput HO5 c2 hal hbv hrow hrow5 hne hnI hfv hc1
 go_wp2_with fail
 refine (insE_any B m k w5.heap.size (.slice E m d2) (x.ents.flatMap enV) [.string name, .int .i64 num] V2 (by have h := HROW.out; rwa [← HM.out] at h) hBV hkm (by omega) rfl HBV.out HNE.out (by intro v hv; simp at hv; rcases hv with rfl | rfl <;> rfl) (one_en _)).mono ?_
 rintro e6 w6 ⟨v', rfl, hrow', hgr, hbl⟩
 obtain ⟨A', c', rfl, hok'⟩ := hrow'.slice
 have g6 : w6.heap[g']? = V2.heap[g']? := hgr.block g' hgv (fun e => HNI.out e.symm)
 have c6 : w6.cell? ⟨g', i * 4 + 2, none⟩ = some (.slice E m d2) := (World.cell?_of_block (a := ⟨g', i * 4 + 2, none⟩) g6).trans cv
 have f6 : w6.frozen? ⟨g', i * 4 + 2, none⟩ = false := (World.frozen?_of_block (a := ⟨g', i * 4 + 2, none⟩) g6).trans (HFV.out _)
 have hflat : (x.ents.flatMap enV).take (k * 2) ++ [.string name, .int .i64 num] ++ (x.ents.flatMap enV).drop (k * 2) = (putE x.ents name num).flatMap enV := by
  rw [HPUT.out, flat_take enV 2 (fun _ => rfl), flat_drop enV 2 (fun _ => rfl), List.flatMap_append, List.flatMap_append]
  rfl
 have hpl : (putE x.ents name num).length = m + 1 := by rw [HPUT.out, List.length_append, List.length_append, List.length_take, List.length_drop]; have := HM.out; simp; omega
 rw [hflat] at hrow'
 rw [← hpl] at hrow' hbl
 have hfin := HOV.out.setE hBV HZ.out hgr hrow' hbl HS.out HVI.out
 rw [hpl] at hfin
 have HFIN := Lib.hid hfin
 clear hfin hrow' hgr hbl hflat g6
 go_wp2_with fail
 go_returns
 exact ⟨rfl, HT5.out.trans HFIN.out.2, _, HFIN.out.1⟩
end Go.Proofs.YtilkhmhgjbhfnaaGreatDoor
