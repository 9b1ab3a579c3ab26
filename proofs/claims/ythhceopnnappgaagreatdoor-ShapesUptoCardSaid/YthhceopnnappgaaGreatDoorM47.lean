/- Parts of the proof, side by side: OpenState, ShapesJ. -/
import Derived.Test.YthhceopnnappgaaGreatDoorRows
import Derived.Test.YthhceopnnappgaaGreatDoorM01
import Derived.Test.YthhceopnnappgaaGreatDoorFsMake
import Derived.ProofKit
import Derived.OpenShut
import Derived.ChangeSlices
import Derived.Deep.SlicePairs
import Derived.Lib.SmallJoins
import Derived.Test.YthhceopnnappgaaGreatDoorShapesW
set_option linter.unusedVariables false
set_option linter.unusedSimpArgs false
namespace Go.Proofs.YthhceopnnappgaaGreatDoor
open Go.ChangeShapes Go.WideShapes Go.ChangeAt Go.RowKit Go.Deep Go.Joins
set_option maxRecDepth 100000
theorem bulkS_pos {H : Type} (d : DataW H) : 1 ≤ Rows.uptoBulk d := by
 cases d with
 | lit l => cases l <;> simp [Rows.uptoBulk]
 | nil => simp [Rows.uptoBulk]
 | ptr d => simp [Rows.uptoBulk]
 | slice elems spare => simp [Rows.uptoBulk]
 | agg parts => simp [Rows.uptoBulk]
 | iface t d => simp [Rows.uptoBulk]
 | map entries => simp [Rows.uptoBulk]
 | held h => simp [Rows.uptoBulk]
theorem bulkS_part {H : Type} {d : DataW H} {l : List (DataW H)} (h : d ∈ l) : Rows.uptoBulk d ≤ Rows.uptoBulkAll l := by
 induction l with
 | nil => cases h
 | cons x r ih =>
  simp only [Rows.uptoBulkAll]
  cases List.mem_cons.1 h with
  | inl e => subst e; omega
  | inr e => have := ih e; omega
theorem bulkS_len {H : Type} (l : List (DataW H)) : l.length ≤ Rows.uptoBulkAll l := by
 induction l with
 | nil => simp [Rows.uptoBulkAll]
 | cons x r ih => have := bulkS_pos x; simp only [Rows.uptoBulkAll, List.length_cons]; omega
theorem bulkS_slice {H : Type} (elems spare : List (DataW H)) : Rows.uptoBulkAll elems + 1 ≤ Rows.uptoBulk (.slice elems spare) := by
 simp only [Rows.uptoBulk]
 omega
theorem bulkS_string {H : Type} (s : ByteArray) : s.size ≤ Rows.uptoBulk (H := H) (.lit (.string s.data.toList)) := by
 simp only [Rows.uptoBulk]
 have : s.data.toList.length = s.size := Array.length_toList
 omega
theorem lit_i64 {z : Int} (h : (Lit.int .i64 z).wf = true) : -9223372036854775808 ≤ z ∧ z ≤ 9223372036854775807 := by
 simpa [Lit.wf, IntKind.min, IntKind.max, IntKind.bits, IntKind.signed] using h
theorem lt_of_cellS {w : World} {p : Addr} {u : Value} (h : w.cell? p = some u) : p.block < w.heap.size := by
 rcases Nat.lt_or_ge p.block w.heap.size with hl | hl
 ·exact hl
 ·exfalso
  unfold World.cell? at h
  rw [Array.getElem?_eq_none hl] at h
  cases h
theorem addS (b off i : Nat) : (⟨b, off, none⟩ : Addr).add i = ⟨b, off + i, none⟩ := by unfold Addr.add; split <;> simp_all
theorem spotS {w : World} {a : Addr} {u : Value} (h : w.cell? (a.add 0) = some u) : ∃ g off, a = ⟨g, off, none⟩ ∧ g < w.heap.size := by
 obtain ⟨b, off, spot⟩ := a
 have hs : spot = none := by simpa [Addr.add] using World.cell?_spot h
 subst hs
 rw [addS] at h
 exact ⟨b, off, rfl, lt_of_cellS h⟩
section
variable {H : Type} {enc : TypeId × Value → H} {W : World} {sp : Nat → Bool} {hd : Bool} {f : Nat}
theorem ent_cells {cs : List Value} {D : DataW H} {Pl : List MemPlace} (h : DataW.trod enc Tryz.prog W 0 sp hd f 84 cs = some (D, Pl)) (hl : cs.length = 2) :
  ∃ (s : ByteArray) (z : Int), cs = [.string s, .int .i64 z] ∧ s.size ≤ Rows.uptoBulk D ∧ (Lit.int .i64 z).wf = true := by
 have c1 : Tryz.prog.cellsOf 3 = 1 := by kernel_rfl
 have c9 : Tryz.prog.cellsOf 9 = 1 := by kernel_rfl
 obtain ⟨y0, y1, n, hx, _, h0, h1⟩ := trod_struct2 Tryz.underlying84 h
 match cs, hl with
 | [v0, v1], _ =>
  simp [c1, c9] at h0 h1
  obtain ⟨s, hs, hy, _⟩ := DataW.trod_string Tryz.underlying9 h0
  obtain ⟨z, hz, _, hw⟩ := DataW.trod_int Tryz.underlying3 h1
  simp at hs hz
  subst hs hz
  simp at hx
  refine ⟨s, z, rfl, ?_, hw⟩
  rw [hx.1, hy]
  have := bulkS_string (H := H) s
  simp only [Rows.uptoBulk, Rows.uptoBulkAll] at this ⊢
  omega
theorem desc_cells {cs : List Value} {D : DataW H} {Pl : List MemPlace} (h : DataW.trod enc Tryz.prog W 0 sp hd f 67 cs = some (D, Pl)) (hl : cs.length = 3) :
  ∃ a b k : Int, cs = [.int .i64 a, .int .i64 b, .int .i64 k] := by
 have c1 : Tryz.prog.cellsOf 3 = 1 := by kernel_rfl
 obtain ⟨y0, y1, y2, n, hx, _, h0, h1, h2⟩ := trod_struct3 Tryz.underlying67 h
 match cs, hl with
 | [v0, v1, v2], _ =>
  simp [c1] at h0 h1 h2
  obtain ⟨z0, hz0, _⟩ := DataW.trod_int Tryz.underlying3 h0
  obtain ⟨z1, hz1, _⟩ := DataW.trod_int Tryz.underlying3 h1
  obtain ⟨z2, hz2, _⟩ := DataW.trod_int Tryz.underlying3 h2
  simp at hz0 hz1 hz2
  subst hz0 hz1 hz2
  exact ⟨_, _, _, rfl⟩
theorem isEnts_of {v : Value} {d : DataW H} {p : List MemPlace} (h : DataW.trod enc Tryz.prog W 0 sp hd f 50 [v] = some (d, p)) :
  ∃ A n c es, v = .slice A n c ∧ SlOk A n c ∧ EntsAt none W A n es ∧ es.length ≤ Rows.uptoBulk d ∧ ∀ e ∈ es, e.name.size ≤ Rows.uptoBulk d ∧ -9223372036854775808 ≤ e.num ∧ e.num ≤ 9223372036854775807 := by
 rcases Go.Deep.open_slice Tryz.underlying50 h with ⟨hcs, hx⟩ | ⟨a, len, cap, m, f', D, Pl, hcs, _, hl, hm, hmm, hx, hcell⟩
 ·simp at hcs
  exact ⟨none, 0, 0, [], hcs, ⟨Nat.le_refl _, fun _ => rfl⟩, ⟨rfl, fun h => absurd h (by omega)⟩, Nat.zero_le _, fun e he => by cases he⟩
 ·simp at hcs
  simp at hx
  have hnm : len ≤ m := by rw [hmm]; split <;> omega
  have ce : Tryz.prog.cellsOf 84 = 2 := by kernel_rfl
  have each : ∀ j, j < len → ∃ z : En, W.cell? (a.add (j * 2)) = some (.string z.name) ∧ W.cell? (a.add (j * 2 + 1)) = some (.int .i64 z.num) ∧ z.name.size ≤ Rows.uptoBulk (D j) ∧ (Lit.int .i64 z.num).wf = true := by
   intro j hj
   obtain ⟨cs', h1, h2⟩ := hcell j (by omega)
   rw [ce] at h1
   obtain ⟨_, hlen, hc⟩ := World.cells?_some h1
   obtain ⟨s, z, rfl, hs, hw⟩ := ent_cells h2 hlen
   have e0 := hc 0 (by omega)
   have e1 := hc 1 (by omega)
   rw [Go.Deep.add_add] at e0 e1
   exact ⟨⟨s, z⟩, by simpa using e0, by simpa using e1, hs, hw⟩
  have hV : ∃ F : Nat → En, ∀ j, j < len → W.cell? (a.add (j * 2)) = some (.string (F j).name) ∧ W.cell? (a.add (j * 2 + 1)) = some (.int .i64 (F j).num) ∧ (F j).name.size ≤ Rows.uptoBulk (D j) ∧ (Lit.int .i64 (F j).num).wf = true := by
   refine ⟨fun j => if h : j < len then (each j h).choose else ⟨⟨#[]⟩, 0⟩, fun j hj => ?_⟩
   simp only [hj, dif_pos]
   exact (each j hj).choose_spec
  obtain ⟨F, hF⟩ := hV
  have hb := bulkS_slice ((List.range len).map D) ((List.range (m - len)).map fun j => D (len + j))
  rw [hx.1]
  refine ⟨some a, len, cap, (List.range len).map F, hcs, ⟨hl, fun e => by cases e⟩, ⟨by simp, fun hn => ?_⟩, ?_, fun e he => ?_⟩
  ·obtain ⟨g, off, rfl, hg⟩ := spotS (hF 0 hn).1
   refine ⟨g, off, rfl, hg, Mine.any _ _ _, fun j e he => ?_⟩
   have hj : j < len := by have := (List.getElem?_eq_some_iff.1 he).1; simpa using this
   have : e = F j := by simpa [hj] using he.symm
   subst this
   obtain ⟨h1, h2, _⟩ := hF j hj
   rw [addS] at h1 h2
   exact ⟨h1, by rw [Nat.add_assoc]; exact h2⟩
  ·have := bulkS_len ((List.range len).map D)
   simp at this ⊢
   omega
  ·obtain ⟨j, hj, rfl⟩ := List.mem_map.1 he
   obtain ⟨_, _, h3, h4⟩ := hF j (List.mem_range.1 hj)
   have h5 : Rows.uptoBulk (D j) ≤ Rows.uptoBulkAll ((List.range len).map D) := bulkS_part (List.mem_map.2 ⟨j, hj, rfl⟩)
   exact ⟨by omega, lit_i64 h4⟩
theorem ino_cells {cs : List Value} {D : DataW H} {Pl : List MemPlace} (h : DataW.trod enc Tryz.prog W 0 sp hd f 52 cs = some (D, Pl)) (hl : cs.length = 4) :
  ∃ (x : Ino) (A : Option Addr) (n c : Nat), cs = [.int .i64 x.num, .bool x.dir, .slice A n c, .string x.data] ∧ SlOk A n c ∧ EntsAt none W A n x.ents ∧ 1 + x.ents.length ≤ Rows.uptoBulk D ∧ x.data.size ≤ Rows.uptoBulk D ∧ (Lit.int .i64 x.num).wf = true ∧ ∀ e ∈ x.ents, e.name.size ≤ Rows.uptoBulk D ∧ -9223372036854775808 ≤ e.num ∧ e.num ≤ 9223372036854775807 := by
 have c1 : Tryz.prog.cellsOf 3 = 1 := by kernel_rfl
 have c9 : Tryz.prog.cellsOf 9 = 1 := by kernel_rfl
 have c4 : Tryz.prog.cellsOf 4 = 1 := by kernel_rfl
 have c7 : Tryz.prog.cellsOf 50 = 1 := by kernel_rfl
 obtain ⟨y0, y1, y2, y3, n, hx, _, h0, h1, h2, h3⟩ := trod_struct4 Tryz.underlying52 h
 match cs, hl with
 | [v0, v1, v2, v3], _ =>
  simp [c1, c9, c4, c7] at h0 h1 h2 h3
  obtain ⟨z, hz, _, hw⟩ := DataW.trod_int Tryz.underlying3 h0
  obtain ⟨b, hb, _⟩ := DataW.trod_bool Tryz.underlying4 h1
  obtain ⟨A, k, c, es, rfl, hok, hE, hel, hen⟩ := isEnts_of (v := v2) (d := y2.1) (p := y2.2) h2
  obtain ⟨s, hs, hy, _⟩ := DataW.trod_string Tryz.underlying9 h3
  simp at hz hb hs
  subst hz hb hs
  simp at hx
  have hbs := bulkS_string (H := H) s
  have hD : Rows.uptoBulk D = Rows.uptoBulk y0.1 + (Rows.uptoBulk y1.1 + (Rows.uptoBulk y2.1 + (Rows.uptoBulk y3.1 + 0))) + 1 := by
   rw [hx.1]
   simp only [Rows.uptoBulk, Rows.uptoBulkAll]
  rw [← show y3.1 = .lit (.string s.data.toList) by rw [hy]] at hbs
  refine ⟨⟨z, b, es, s⟩, A, k, c, rfl, hok, hE, by show 1 + es.length ≤ _; omega, by show s.size ≤ _; omega, hw, fun e he => ?_⟩
  obtain ⟨h5, h6⟩ := hen e he
  exact ⟨by omega, h6⟩
theorem bulkE_cons (x : Ino) (l : List Ino) : bulkE (x :: l) = x.ents.length + bulkE l := rfl
theorem bulk_inos {D : Nat → DataW H} {F : Nat → Ino} : ∀ l : List Nat, (∀ j ∈ l, 1 + (F j).ents.length ≤ Rows.uptoBulk (D j)) → (l.map F).length + bulkE (l.map F) ≤ Rows.uptoBulkAll (l.map D)
 | [], _ => by simp [bulkE, Rows.uptoBulkAll]
 | j :: l, h => by
  have h1 := h j (by simp)
  have h2 := bulk_inos l (fun i hi => h i (by simp [hi]))
  rw [List.map_cons, List.map_cons, bulkE_cons, List.length_cons]
  simp only [Rows.uptoBulkAll]
  omega
theorem isInos_of {v : Value} {d : DataW H} {p : List MemPlace} (h : DataW.trod enc Tryz.prog W 0 sp hd f 22 [v] = some (d, p)) :
  ∃ A n c is, v = .slice A n c ∧ SlOk A n c ∧ InosAt none W A n is ∧ is.length + bulkE is ≤ Rows.uptoBulk d ∧ ∀ x ∈ is, x.data.size ≤ Rows.uptoBulk d ∧ (-9223372036854775808 ≤ x.num ∧ x.num ≤ 9223372036854775807) ∧ ∀ e ∈ x.ents, e.name.size ≤ Rows.uptoBulk d ∧ -9223372036854775808 ≤ e.num ∧ e.num ≤ 9223372036854775807 := by
 rcases Go.Deep.open_slice Tryz.underlying22 h with ⟨hcs, hx⟩ | ⟨a, len, cap, m, f', D, Pl, hcs, _, hl, hm, hmm, hx, hcell⟩
 ·simp at hcs
  exact ⟨none, 0, 0, [], hcs, ⟨Nat.le_refl _, fun _ => rfl⟩, ⟨rfl, fun h => absurd h (by omega)⟩, Nat.zero_le _, fun e he => by cases he⟩
 ·simp at hcs
  simp at hx
  have hnm : len ≤ m := by rw [hmm]; split <;> omega
  have ce : Tryz.prog.cellsOf 52 = 4 := by kernel_rfl
  have each : ∀ j, j < len → ∃ x : Ino, (W.cell? (a.add (j * 4)) = some (.int .i64 x.num) ∧ W.cell? (a.add (j * 4 + 1)) = some (.bool x.dir) ∧ (∃ A n c, W.cell? (a.add (j * 4 + 2)) = some (.slice A n c) ∧ SlOk A n c ∧ EntsAt none W A n x.ents) ∧ W.cell? (a.add (j * 4 + 3)) = some (.string x.data)) ∧
    1 + x.ents.length ≤ Rows.uptoBulk (D j) ∧ x.data.size ≤ Rows.uptoBulk (D j) ∧ (Lit.int .i64 x.num).wf = true ∧ ∀ e ∈ x.ents, e.name.size ≤ Rows.uptoBulk (D j) ∧ -9223372036854775808 ≤ e.num ∧ e.num ≤ 9223372036854775807 := by
   intro j hj
   obtain ⟨cs', h1, h2⟩ := hcell j (by omega)
   rw [ce] at h1
   obtain ⟨_, hlen, hc⟩ := World.cells?_some h1
   obtain ⟨x, A, n, c, rfl, hok, hE, hr⟩ := ino_cells h2 hlen
   have e0 := hc 0 (by omega)
   have e1 := hc 1 (by omega)
   have e2 := hc 2 (by omega)
   have e3 := hc 3 (by omega)
   rw [Go.Deep.add_add] at e0 e1 e2 e3
   exact ⟨x, ⟨by simpa using e0, by simpa using e1, ⟨A, n, c, by simpa using e2, hok, hE⟩, by simpa using e3⟩, hr⟩
  have hV : ∃ F : Nat → Ino, ∀ j, j < len → (W.cell? (a.add (j * 4)) = some (.int .i64 (F j).num) ∧ W.cell? (a.add (j * 4 + 1)) = some (.bool (F j).dir) ∧ (∃ A n c, W.cell? (a.add (j * 4 + 2)) = some (.slice A n c) ∧ SlOk A n c ∧ EntsAt none W A n (F j).ents) ∧ W.cell? (a.add (j * 4 + 3)) = some (.string (F j).data)) ∧
    1 + (F j).ents.length ≤ Rows.uptoBulk (D j) ∧ (F j).data.size ≤ Rows.uptoBulk (D j) ∧ (Lit.int .i64 (F j).num).wf = true ∧ ∀ e ∈ (F j).ents, e.name.size ≤ Rows.uptoBulk (D j) ∧ -9223372036854775808 ≤ e.num ∧ e.num ≤ 9223372036854775807 := by
   refine ⟨fun j => if h : j < len then (each j h).choose else ⟨0, false, [], ⟨#[]⟩⟩, fun j hj => ?_⟩
   simp only [hj, dif_pos]
   exact (each j hj).choose_spec
  obtain ⟨F, hF⟩ := hV
  have hb := bulkS_slice ((List.range len).map D) ((List.range (m - len)).map fun j => D (len + j))
  rw [hx.1]
  refine ⟨some a, len, cap, (List.range len).map F, hcs, ⟨hl, fun e => by cases e⟩, ⟨by simp, fun hn => ?_⟩, ?_, fun x hx' => ?_⟩
  ·obtain ⟨g, off, rfl, hg⟩ := spotS (hF 0 hn).1.1
   refine ⟨g, off, rfl, hg, Mine.any _ _ _, fun j x he => ?_⟩
   have hj : j < len := by have := (List.getElem?_eq_some_iff.1 he).1; simpa using this
   have : x = F j := by simpa [hj] using he.symm
   subst this
   obtain ⟨⟨h1, h2, ⟨B, k, c, h3, h4, h5⟩, h6⟩, _⟩ := hF j hj
   rw [addS] at h1 h2 h3 h6
   refine ⟨h1, by rw [Nat.add_assoc]; exact h2, ⟨B, k, c, by rw [Nat.add_assoc]; exact h3, h4, h5⟩, by rw [Nat.add_assoc]; exact h6⟩
  ·have := bulk_inos (D := D) (F := F) (List.range len) (fun j hj => (hF j (List.mem_range.1 hj)).2.1)
   omega
  ·obtain ⟨j, hj, rfl⟩ := List.mem_map.1 hx'
   obtain ⟨_, _, h3, h4, h6⟩ := hF j (List.mem_range.1 hj)
   have h5 : Rows.uptoBulk (D j) ≤ Rows.uptoBulkAll ((List.range len).map D) := bulkS_part (List.mem_map.2 ⟨j, hj, rfl⟩)
   exact ⟨by omega, lit_i64 h4, fun e he => ⟨by have := (h6 e he).1; omega, (h6 e he).2⟩⟩
theorem isDescs_of {v : Value} {d : DataW H} {p : List MemPlace} (h : DataW.trod enc Tryz.prog W 0 sp hd f 23 [v] = some (d, p)) :
  ∃ A n c ds, v = .slice A n c ∧ SlOk A n c ∧ DescsAt none W A n ds ∧ ds.length ≤ Rows.uptoBulk d := by
 rcases Go.Deep.open_slice Tryz.underlying23 h with ⟨hcs, hx⟩ | ⟨a, len, cap, m, f', D, Pl, hcs, _, hl, hm, hmm, hx, hcell⟩
 ·simp at hcs
  exact ⟨none, 0, 0, [], hcs, ⟨Nat.le_refl _, fun _ => rfl⟩, ⟨rfl, fun h => absurd h (by omega)⟩, Nat.zero_le _⟩
 ·simp at hcs
  simp at hx
  have hnm : len ≤ m := by rw [hmm]; split <;> omega
  have ce : Tryz.prog.cellsOf 67 = 3 := by kernel_rfl
  have each : ∀ j, j < len → ∃ z : Ds, W.cell? (a.add (j * 3)) = some (.int .i64 z.core) ∧ W.cell? (a.add (j * 3 + 1)) = some (.int .i64 z.fd) ∧ W.cell? (a.add (j * 3 + 2)) = some (.int .i64 z.num) := by
   intro j hj
   obtain ⟨cs', h1, h2⟩ := hcell j (by omega)
   rw [ce] at h1
   obtain ⟨_, hlen, hc⟩ := World.cells?_some h1
   obtain ⟨x, y, z, rfl⟩ := desc_cells h2 hlen
   have e0 := hc 0 (by omega)
   have e1 := hc 1 (by omega)
   have e2 := hc 2 (by omega)
   rw [Go.Deep.add_add] at e0 e1 e2
   exact ⟨⟨x, y, z⟩, by simpa using e0, by simpa using e1, by simpa using e2⟩
  have hV : ∃ F : Nat → Ds, ∀ j, j < len → W.cell? (a.add (j * 3)) = some (.int .i64 (F j).core) ∧ W.cell? (a.add (j * 3 + 1)) = some (.int .i64 (F j).fd) ∧ W.cell? (a.add (j * 3 + 2)) = some (.int .i64 (F j).num) := by
   refine ⟨fun j => if h : j < len then (each j h).choose else ⟨0, 0, 0⟩, fun j hj => ?_⟩
   simp only [hj, dif_pos]
   exact (each j hj).choose_spec
  obtain ⟨F, hF⟩ := hV
  have hb := bulkS_slice ((List.range len).map D) ((List.range (m - len)).map fun j => D (len + j))
  rw [hx.1]
  refine ⟨some a, len, cap, (List.range len).map F, hcs, ⟨hl, fun e => by cases e⟩, ⟨by simp, fun hn => ?_⟩, ?_⟩
  ·obtain ⟨g, off, rfl, hg⟩ := spotS (hF 0 hn).1
   refine ⟨g, off, rfl, hg, Mine.any _ _ _, fun j e he => ?_⟩
   have hj : j < len := by have := (List.getElem?_eq_some_iff.1 he).1; simpa using this
   have : e = F j := by simpa [hj] using he.symm
   subst this
   obtain ⟨h1, h2, h3⟩ := hF j hj
   rw [addS] at h1 h2 h3
   exact ⟨h1, by rw [Nat.add_assoc]; exact h2, by rw [Nat.add_assoc]; exact h3⟩
  ·have := bulkS_len ((List.range len).map D)
   simp at this ⊢
   omega
theorem isMade_of {v : Value} {d : DataW H} {p : List MemPlace} (h : DataW.trod enc Tryz.prog W 0 sp hd f 24 [v] = some (d, p)) :
  ∃ A n c xs, v = .slice A n c ∧ SlOk A n c ∧ IntsAt none W A n xs ∧ xs.length ≤ Rows.uptoBulk d ∧ ∀ x ∈ xs, -9223372036854775808 ≤ x ∧ x ≤ 9223372036854775807 := by
 rcases Go.Deep.open_slice Tryz.underlying24 h with ⟨hcs, hx⟩ | ⟨a, len, cap, m, f', D, Pl, hcs, _, hl, hm, hmm, hx, hcell⟩
 ·simp at hcs
  exact ⟨none, 0, 0, [], hcs, ⟨Nat.le_refl _, fun _ => rfl⟩, ⟨rfl, fun h => absurd h (by omega)⟩, Nat.zero_le _, fun e he => by cases he⟩
 ·simp at hcs
  simp at hx
  have hnm : len ≤ m := by rw [hmm]; split <;> omega
  have ce : Tryz.prog.cellsOf 3 = 1 := by kernel_rfl
  have each : ∀ j, j < len → ∃ z : Int, W.cell? (a.add j) = some (.int .i64 z) ∧ (Lit.int .i64 z).wf = true := by
   intro j hj
   obtain ⟨cs', h1, h2⟩ := hcell j (by omega)
   rw [ce] at h1
   obtain ⟨_, hlen, hc⟩ := World.cells?_some h1
   obtain ⟨z, hz, _, hw⟩ := DataW.trod_int Tryz.underlying3 h2
   subst hz
   have e0 := hc 0 (by omega)
   rw [Go.Deep.add_add] at e0
   exact ⟨z, by simpa using e0, hw⟩
  have hV : ∃ F : Nat → Int, ∀ j, j < len → W.cell? (a.add j) = some (.int .i64 (F j)) ∧ (Lit.int .i64 (F j)).wf = true := by
   refine ⟨fun j => if h : j < len then (each j h).choose else 0, fun j hj => ?_⟩
   simp only [hj, dif_pos]
   exact (each j hj).choose_spec
  obtain ⟨F, hF⟩ := hV
  have hb := bulkS_slice ((List.range len).map D) ((List.range (m - len)).map fun j => D (len + j))
  rw [hx.1]
  refine ⟨some a, len, cap, (List.range len).map F, hcs, ⟨hl, fun e => by cases e⟩, ⟨by simp, fun hn => ?_⟩, ?_, fun e he => ?_⟩
  ·obtain ⟨g, off, rfl, hg⟩ := spotS (hF 0 hn).1
   refine ⟨g, off, rfl, hg, Mine.any _ _ _, fun j e he => ?_⟩
   have hj : j < len := by have := (List.getElem?_eq_some_iff.1 he).1; simpa using this
   have : e = F j := by simpa [hj] using he.symm
   subst this
   obtain ⟨h1, _⟩ := hF j hj
   rw [addS] at h1
   exact h1
  ·have := bulkS_len ((List.range len).map D)
   simp at this ⊢
   omega
  ·obtain ⟨j, hj, rfl⟩ := List.mem_map.1 he
   exact lit_i64 (hF j (List.mem_range.1 hj)).2
theorem isState_of {r : Go.Reach} {v : Value} {d : DataW H} {p : List MemPlace} {b : Nat} (hv : Value.okWide Tryz.prog W r b 26 v) (h : DataW.Trod enc Tryz.prog W 0 sp hd 26 v d p) (hb : Rows.uptoBulk d ≤ 1048576) :
  ∃ s : St, StAt none W v s := by
 obtain ⟨v0, v1, v2, y0, y1, y2, n, rfl, rfl, rfl, h0, h1, h2⟩ := open_agg3 Tryz.underlying26 (by kernel_rfl) (by kernel_rfl) hv h
 obtain ⟨A, n0, c0, is, rfl, k0, g0, l0, t0⟩ := isInos_of (v := v0) (d := y0.1) (p := y0.2) h0
 obtain ⟨B, n1, c1, ds, rfl, k1, g1, l1⟩ := isDescs_of (v := v1) (d := y1.1) (p := y1.2) h1
 obtain ⟨D, n2, c2, xs, rfl, k2, g2, l2, t2⟩ := isMade_of (v := v2) (d := y2.1) (p := y2.2) h2
 simp only [Rows.uptoBulk, Rows.uptoBulkAll] at hb
 exact ⟨⟨is, ds, xs⟩, ⟨A, n0, c0, B, n1, c1, D, n2, c2, rfl, g0, g1, g2, k0, k1, k2⟩, ⟨by show is.length + bulkE is + ds.length + xs.length ≤ _; omega, fun x hx => ⟨by have := (t0 x hx).1; omega, fun e he => by have := ((t0 x hx).2.2 e he).1; omega⟩, ⟨fun x hx => ⟨(t0 x hx).2.1.1, (t0 x hx).2.1.2, fun e he => ((t0 x hx).2.2 e he).2⟩, t2⟩⟩⟩
end
end Go.Proofs.YthhceopnnappgaaGreatDoor
namespace Go.Proofs.YthhceopnnappgaaGreatDoor
open Go.RowKit
theorem shapes_join (W : World) (u v : Value) (s t : St) (hs : StAt none W u s) (ht : StAt none W v t) (hT : Tab W) :
  Calls Tryz.prog 3 #[u, v] W fun e W' => e = .returned (.bool true) ∧ Below W.heap.size W W' :=
 shapes_walk u v s t W hs ht hT
end Go.Proofs.YthhceopnnappgaaGreatDoor
