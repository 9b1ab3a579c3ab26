/- Parts of the proof, side by side: FsSized, FsSized2. -/
import Derived.Test.YthhceopnnappgaaGreatDoorFsMake
import Derived.Test.YthhceopnnappgaaGreatDoorM08
import Derived.Lib.BufferWrite
import Derived.Deep.WholeRow
import Derived.Deep.RegionWith
set_option linter.unusedVariables false
set_option linter.unusedSimpArgs false
namespace Go.Proofs.YthhceopnnappgaaGreatDoor
open Go.RowKit
theorem sizedL_long (l : List UInt8) (k : Nat) (h : l.length ≤ k) : sizedL l k = l ++ List.replicate (k - l.length) 0 := by
 unfold sizedL
 rw [List.take_append, List.take_of_length_le h]
 congr 1
 rw [List.take_replicate]
 congr 1
 omega
set_option maxRecDepth 100000 in
set_option maxHeartbeats 4000000 in
theorem sized_any (s : ByteArray) (k : Nat) (w : World) (hs : s.size ≤ k) (hk : k ≤ 65536) :
  Calls Tryz.prog 93 #[.string s, .int .i64 (k : Int)] w fun e w' => ∃ g, e = .returned (.slice (some ⟨g, 0, .none⟩) k k) ∧ Cv.ByteRow w' g (sizedL s.data.toList k) ∧ w.heap.size ≤ g ∧ Below w.heap.size w w' := by
 have hl : s.data.toList.length = s.size := Array.length_toList
 have hmk := run_make_row' (P := Tryz.prog) 57 5 (.int .u8 0) 1 Tryz.underlying57 infoByte rfl .i64 .i64 k (by omega) (by omega) w
 have hg0 := heap_alloc_new w (.cells (madeCells #[.int .u8 0] k) 5)
 have hcs : (madeCells #[Value.int .u8 0] k).size = k := by simp [madeCells]
 have hcp := fun ty => Lib.run_copy_row_string (P := Tryz.prog) (ty := ty) (w.alloc (.cells (madeCells #[.int .u8 0] k) 5)) 57 9 5 w.heap.size 0 k k s _ _ Tryz.underlying57 (by kernel_rfl) hg0 hs (by rw [hcs]; omega)
 obtain ⟨NC, hNC⟩ : ∃ NC : Array Value, (((madeCells #[Value.int .u8 0] k).toList.take 0) ++ Lib.byteCells s.data.toList ++ (madeCells #[Value.int .u8 0] k).toList.drop (0 + s.size)).toArray = NC := ⟨_, rfl⟩
 have hnc : NC = (Lib.byteCells (sizedL s.data.toList k)).toArray := by
  rw [← hNC, sizedL_long _ _ (by omega), Lib.byteCells_append]
  congr 1
  have e1 : (madeCells #[Value.int .u8 0] k).toList = List.replicate k (Value.int .u8 0) := by
   apply List.ext_getElem
   ·simp [madeCells]
   ·intro i h1 h2
    simp [madeCells, Nat.mod_one]
  rw [e1, hl]
  simp [Lib.byteCells]
 rw [hNC, hnc] at hcp
 obtain ⟨W2, hW2⟩ : ∃ W2, w.alloc (.cells (Lib.byteCells (sizedL s.data.toList k)).toArray 5) = W2 := ⟨_, rfl⟩
 have hcp2 : ∀ ty, (Builtin.copy_ #[57, 9] ty #[.slice (some ⟨w.heap.size, 0, none⟩) k k, .string s]).run Tryz.prog (w.alloc (.cells (madeCells #[.int .u8 0] k) 5)) = .ok (goInt s.size) W2 := by
  intro ty
  rw [hcp ty, World.setRow_alloc_new, hW2]
 have hrow : Cv.ByteRow W2 w.heap.size (sizedL s.data.toList k) := by
  have hh : W2.heap[w.heap.size]? = some (.cells (Lib.byteCells (sizedL s.data.toList k)).toArray 5 (0, 0)) := by rw [← hW2]; exact heap_alloc_new w _
  refine ⟨(Array.getElem?_eq_some_iff.1 hh).1, fun j hj => ⟨?_, frozen_of_row W2 w.heap.size j _ _ hh⟩⟩
  rw [cell_of_row W2 w.heap.size j _ _ (0, 0) hh]
  simp [Lib.byteCells, hj]
 have hb : Below w.heap.size w W2 := by rw [← hW2]; exact (Below.refl _ _).alloc (Nat.le_refl _) _
 have HR := Lib.hid hrow
 have HB := Lib.hid hb
 clear hg0 hcs hcp hNC hnc hW2 hrow hb hl
 go_enter Tryz.func93, Tryz.ntmps93
 go_wp2_with fail
 go_ret
 exact ⟨w.heap.size, rfl, HR.out, Nat.le_refl _, HB.out⟩
theorem run_copy_row_cut {P : Program} (w : World) (dT sT ty elem : TypeId) (g dLen dCap : Nat) (s : ByteArray) (cur : Array Value) (t : TypeId)
  (hu : P.underlying dT = some (.slice elem)) (hs : (P.info? elem).map (·.size) = some 1) (hg : w.heap[g]? = some (.cells cur t (0, 0))) (hle : dLen ≤ s.size) (hfit : dLen ≤ cur.size) :
  (Builtin.copy_ #[dT, sT] ty #[.slice (some ⟨g, 0, none⟩) dLen dCap, .string s]).run P w =
   .ok (goInt dLen) (w.setRow g (Lib.byteCells (s.data.toList.take dLen) ++ cur.toList.drop dLen).toArray) := by
 have hlen : (Lib.byteCells (s.data.toList.take dLen)).length = dLen := by rw [Lib.byteCells_length, List.length_take, Array.length_toList]; exact Nat.min_eq_left hle
 have hst := run_storeCells_at P g 0 t (Lib.byteCells (s.data.toList.take dLen)) 0 cur w hg (by rw [hlen]; simpa using hfit) (Lib.byteCells_one _)
 have hmin : Nat.min s.size dLen = dLen := Nat.min_eq_right hle
 have htk : List.take dLen (List.map (fun b : UInt8 => Value.int IntKind.u8 (b.toNat : Int)) s.data.toList) = Lib.byteCells (s.data.toList.take dLen) := by
  rw [List.map_take.symm]
  rfl
 rw [hlen] at hst
 simp only [Nat.add_zero, Nat.zero_add, List.take_zero, List.nil_append] at hst
 cases hq : P.info? elem with
 | none => simp [hq] at hs
 | some i =>
  simp [Builtin.copy_, run_underlying hu, Builtin.lenOf, Builtin.firstCells, sizeOf, typeInfo, hq, hmin]
  rw [htk, hst]
  simp [Result.andThen]
theorem sizedL_short (l : List UInt8) (k : Nat) (h : k ≤ l.length) : sizedL l k = l.take k := by
 unfold sizedL
 rw [List.take_append, show k - l.length = 0 by omega]
 simp
set_option maxRecDepth 100000 in
set_option maxHeartbeats 4000000 in
theorem sized_cut (s : ByteArray) (k : Nat) (w : World) (hs : k ≤ s.size) (hk : k ≤ 65536) :
  Calls Tryz.prog 93 #[.string s, .int .i64 (k : Int)] w fun e w' => ∃ g, e = .returned (.slice (some ⟨g, 0, .none⟩) k k) ∧ Cv.ByteRow w' g (sizedL s.data.toList k) ∧ w.heap.size ≤ g ∧ Below w.heap.size w w' := by
 have hl : s.data.toList.length = s.size := Array.length_toList
 have hmk := run_make_row' (P := Tryz.prog) 57 5 (.int .u8 0) 1 Tryz.underlying57 infoByte rfl .i64 .i64 k (by omega) (by omega) w
 have hg0 := heap_alloc_new w (.cells (madeCells #[.int .u8 0] k) 5)
 have hcs : (madeCells #[Value.int .u8 0] k).size = k := by simp [madeCells]
 have hcp := fun ty => run_copy_row_cut (P := Tryz.prog) (ty := ty) (w.alloc (.cells (madeCells #[.int .u8 0] k) 5)) 57 9 5 w.heap.size k k s _ _ Tryz.underlying57 (by kernel_rfl) hg0 hs (by rw [hcs]; omega)
 obtain ⟨NC, hNC⟩ : ∃ NC : Array Value, (Lib.byteCells (s.data.toList.take k) ++ (madeCells #[Value.int .u8 0] k).toList.drop k).toArray = NC := ⟨_, rfl⟩
 have hnc : NC = (Lib.byteCells (sizedL s.data.toList k)).toArray := by
  rw [← hNC, sizedL_short _ _ (by omega), List.drop_of_length_le (by rw [Array.length_toList, hcs]; omega), List.append_nil]
 rw [hNC, hnc] at hcp
 obtain ⟨W2, hW2⟩ : ∃ W2, w.alloc (.cells (Lib.byteCells (sizedL s.data.toList k)).toArray 5) = W2 := ⟨_, rfl⟩
 have hcp2 : ∀ ty, (Builtin.copy_ #[57, 9] ty #[.slice (some ⟨w.heap.size, 0, none⟩) k k, .string s]).run Tryz.prog (w.alloc (.cells (madeCells #[.int .u8 0] k) 5)) = .ok (goInt k) W2 := by
  intro ty
  rw [hcp ty, World.setRow_alloc_new, hW2]
 have hrow : Cv.ByteRow W2 w.heap.size (sizedL s.data.toList k) := by
  have hh : W2.heap[w.heap.size]? = some (.cells (Lib.byteCells (sizedL s.data.toList k)).toArray 5 (0, 0)) := by rw [← hW2]; exact heap_alloc_new w _
  refine ⟨(Array.getElem?_eq_some_iff.1 hh).1, fun j hj => ⟨?_, frozen_of_row W2 w.heap.size j _ _ hh⟩⟩
  rw [cell_of_row W2 w.heap.size j _ _ (0, 0) hh]
  simp [Lib.byteCells, hj]
 have hb : Below w.heap.size w W2 := by rw [← hW2]; exact (Below.refl _ _).alloc (Nat.le_refl _) _
 have HR := Lib.hid hrow
 have HB := Lib.hid hb
 clear hg0 hcs hcp hNC hnc hW2 hrow hb hl
 go_enter Tryz.func93, Tryz.ntmps93
 go_wp2_with fail
 go_ret
 exact ⟨w.heap.size, rfl, HR.out, Nat.le_refl _, HB.out⟩
theorem sized_all (s : ByteArray) (k : Nat) (w : World) (hk : k ≤ 65536) :
  Calls Tryz.prog 93 #[.string s, .int .i64 (k : Int)] w fun e w' => ∃ g, e = .returned (.slice (some ⟨g, 0, .none⟩) k k) ∧ Cv.ByteRow w' g (sizedL s.data.toList k) ∧ w.heap.size ≤ g ∧ Below w.heap.size w w' := by
 by_cases h : s.size ≤ k
 ·exact sized_any s k w h hk
 ·exact sized_cut s k w (by omega) hk
theorem sizedL_len (l : List UInt8) (k : Nat) : (sizedL l k).length = k := by
 unfold sizedL
 rw [List.length_take, List.length_append, List.length_replicate]
 omega
theorem Sized.setData {s : St} (h : Sized s) {i : Nat} {x : Ino} (hx : s.inos[i]? = some x) (d : ByteArray) (hd : d.size ≤ 140737488355328) : Sized { s with inos := s.inos.set i { x with data := d } } := by
 have hmem : x ∈ s.inos := List.mem_of_getElem? hx
 have hb : ∀ (is : List Ino) (i : Nat), is[i]? = some x → bulkE (is.set i { x with data := d }) = bulkE is := by
  intro is
  induction is with
  | nil => intro i h; simp at h
  | cons y ys ih =>
   intro i h
   cases i with
   | zero =>
    have : y = x := by simpa using h
    subst this
    rfl
   | succ i =>
    have := ih i (by simpa using h)
    show y.ents.length + bulkE (ys.set i _) = y.ents.length + bulkE ys
    rw [this]
 refine ⟨?_, fun y hy => ?_, ⟨fun y hy => ?_, h.nums.2⟩⟩
 ·show (s.inos.set i _).length + bulkE (s.inos.set i _) + _ + _ ≤ _
  rw [List.length_set, hb _ _ hx]
  exact h.big
 ·rcases List.mem_or_eq_of_mem_set hy with hy | rfl
  ·exact h.text y hy
  ·exact ⟨hd, (h.text x hmem).2⟩
 ·rcases List.mem_or_eq_of_mem_set hy with hy | rfl
  ·exact h.nums.1 y hy
  ·exact h.nums.1 x hmem
end Go.Proofs.YthhceopnnappgaaGreatDoor
