/- The document's num and text: a number's, a text's bytes behind a row of bytes of one's own. -/
import Derived.Test.YthhceopnnappgaaGreatLaInode
import Derived.Test.YthhceopnnappgaaGreatM09
set_option linter.unusedVariables false
set_option linter.unusedSimpArgs false
namespace Go.Proofs.YthhceopnnappgaaGreat
open Go.RowKit
def ByAt (B : Nat) (w : World) (v : Value) (l : List UInt8) : Prop := RowAt B w 5 1 v l.length (Lib.byteCells l) ∧ l ≠ []
structure Grew (w w' : World) (v v' : Value) : Prop where
 grown : w.grownBy w' (rowBlk v)
 blk : rowBlk v' = rowBlk v ∨ ∃ b, rowBlk v' = some b ∧ w.heap.size ≤ b
theorem Grew.refl (w : World) (v : Value) : Grew w w v v := ⟨⟨rfl, rfl, rfl, Nat.le_refl _, fun _ _ _ => rfl⟩, .inl rfl⟩
theorem Grew.trans {a b c : World} {u v x : Value} (h : Grew a b u v) (k : Grew b c v x) : Grew a c u x := by
 have hs := h.grown.size
 refine ⟨⟨k.grown.os.trans h.grown.os, k.grown.tape.trans h.grown.tape, k.grown.output.trans h.grown.output, Nat.le_trans hs k.grown.size, fun i hi hr => ?_⟩, ?_⟩
 ·refine (k.grown.block i (by omega) (fun e => ?_)).trans (h.grown.block i hi hr)
  rcases h.blk with h1 | ⟨q, h1, h2⟩
  ·exact hr (e.trans h1)
  ·rw [h1] at e
   injection e with e
   omega
 ·rcases k.blk with h1 | ⟨q, h1, h2⟩
  ·rcases h.blk with h3 | ⟨q, h3, h4⟩
   ·exact .inl (h1.trans h3)
   ·exact .inr ⟨q, h1.trans h3, h4⟩
  ·exact .inr ⟨q, h1, by omega⟩
theorem byteCells_one (c : UInt8) : Lib.byteCells [c] = [.int .u8 (c.toNat : Int)] := rfl
theorem byteCells_app (a b : List UInt8) : Lib.byteCells (a ++ b) = Lib.byteCells a ++ Lib.byteCells b := List.map_append
theorem byteCells_len (l : List UInt8) : (Lib.byteCells l).length = l.length := List.length_map _
def ByX (B : Nat) (w : World) (v : Value) (l : List UInt8) : Prop := ByAt B w v l ∨ ∃ g cur fz, v = .slice (some ⟨g, 0, none⟩) l.length l.length ∧ l ≠ [] ∧ B ≤ g ∧ w.heap[g]? = some (.cells cur 5 fz) ∧ cur.toList = Lib.byteCells l
theorem by_grow (B : Nat) (w : World) (hB : B ≤ w.heap.size) (g : Nat) (cur : Array Value) (fz : Nat × Nat) (hg : w.heap[g]? = some (.cells cur 5 fz)) (l : List UInt8) (hcur : cur.toList = Lib.byteCells l) (hbytes : l.length + 1 ≤ 140737488355328) (a : Addr) (x : Value) (hx : x.oneCell' = true) (ha : w.cell? (a.add 0) = some x) (c1 : Nat) :
  ∃ v' w', (∀ ty, (Builtin.append_ #[46, 46] ty #[.slice (some ⟨g, 0, none⟩) l.length l.length, .slice (some a) 1 c1]).run Tryz.prog w = .ok v' w') ∧ RowAt B w' 5 1 v' (l.length + 1) (Lib.byteCells l ++ [x]) ∧ w.grownBy w' none ∧ ∃ b, rowBlk v' = some b ∧ w.heap.size ≤ b := by
 obtain ⟨ii, hi, hz0, hz1, hz2⟩ := info_parts infoByte
 have hmx : (140737488355328 : Nat) ≤ maxLen := by unfold maxLen; omega
 have hcl : (Lib.byteCells l).length = l.length := byteCells_len l
 have hlen : (Lib.byteCells l ++ [x]).length = (l.length + 1) * 1 := by rw [List.length_append, hcl, Nat.mul_one]; rfl
 have hold : (Builtin.firstCells ii.size l.length (.slice (some ⟨g, 0, none⟩) l.length l.length)).run Tryz.prog w.drew = .ok (Lib.byteCells l).toArray w.drew := run_firstCells_some w.drew _ l.length ⟨g, 0, none⟩ l.length l.length (Lib.byteCells l) (by rw [hcl, hz1, Nat.mul_one]) (fun j u hu => by
  have e : (⟨g, 0, none⟩ : Addr).add j = ⟨g, j, none⟩ := by unfold Addr.add; split <;> simp_all
  rw [e]
  have h1 : w.cell? ⟨g, j, none⟩ = cur[j]? := cell_of_row w g j _ _ fz hg
  show w.cell? ⟨g, j, none⟩ = some u
  rw [h1, ← hu, ← hcur]
  simp)
 have hsrc : Src Tryz.prog ii.size 46 (.slice (some a) 1 c1) 1 [x] w := Src.ofSlice w Tryz.underlying46 a 1 c1 [x] (by rw [hz1]; rfl) (fun j u hu => by
  match j, hu with
  | 0, hu => exact ha.trans (by simpa using hu)) (fun u hu => by simp at hu; subst hu; exact hx)
 have hG := grownCap_ge w (l.length + 1) l.length 5
 have hGm : grownCap w (l.length + 1) l.length 5 ≤ maxLen := grownCap_le_maxLen w (l.length + 1) l.length _ (by omega)
 refine ⟨.slice (some ⟨w.heap.size, 0, none⟩) (l.length + 1) (grownCap w (l.length + 1) l.length 5), w.drew.alloc (.cells ((Lib.byteCells l ++ [x]).toArray ++ Builtin.zeroCells (Value.int .u8 0).cells (grownCap w (l.length + 1) l.length 5 - (l.length + 1))) 5), fun ty => run_append_grow_src w 46 46 ty 5 ii (.int .u8 0) Tryz.underlying46 hi hz0 (some ⟨g, 0, none⟩) l.length l.length (Lib.byteCells l) hold _ 1 [x] hsrc (by omega) (by omega) (growslice_fits (by omega) (by rw [hz2]; omega)), ⟨hlen, .inr ⟨w.heap.size, _, _, rfl, by omega, hB, Go.heap_alloc_new w.drew _, hG, hGm, ?_, ?_⟩⟩, ⟨rfl, rfl, rfl, by simp, fun b hb _ => Go.heap_alloc_old w.drew _ hb⟩, w.heap.size, ?_, Nat.le_refl _⟩
 ·have hz9 : (Value.int IntKind.u8 0).cells.size = 1 := rfl
  rw [Array.size_append, List.size_toArray, size_zeroCells, hz9, hlen]
  omega
 ·rw [Array.toList_append, ← hlen]
  exact List.take_left
 ·simp only [rowBlk]
  rw [if_neg (by omega)]
theorem by_append (B : Nat) (v : Value) (l : List UInt8) (c : UInt8) (z : Int) (hz : z = (c.toNat : Int)) (w : World) (h : ByX B w v l) (hB : B ≤ w.heap.size) (hlen : l.length + 1 ≤ 140737488355328) :
  ∃ v' w', (∀ ty, (Builtin.append_ #[46, 46] ty #[v, .slice (some ⟨w.heap.size, 0, none⟩) 1 1]).run Tryz.prog (w.alloc (.cells #[.int .u8 z] 5)) = .ok v' w') ∧ ByAt B w' v' (l ++ [c]) ∧ Grew w w' v v' := by
 obtain ⟨ii, hi, hz0, hz1, hz2⟩ := info_parts infoByte
 have hal : Below w.heap.size w (w.alloc (.cells #[.int .u8 z] 5)) := (Below.refl _ _).alloc (Nat.le_refl _) _
 have hnb : (w.alloc (.cells #[.int .u8 z] 5)).heap[w.heap.size]? = some (.cells #[.int .u8 z] 5 (0, 0)) := Go.heap_alloc_new w _
 have key : ∃ v' w', (∀ ty, (Builtin.append_ #[46, 46] ty #[v, .slice (some ⟨w.heap.size, 0, none⟩) 1 1]).run Tryz.prog (w.alloc (.cells #[.int .u8 z] 5)) = .ok v' w') ∧ RowAt B w' 5 1 v' (l.length + 1) (Lib.byteCells l ++ [.int .u8 z]) ∧ (w.alloc (.cells #[.int .u8 z] 5)).grownBy w' (rowBlk v) ∧ (rowBlk v' = rowBlk v ∨ ∃ b, rowBlk v' = some b ∧ (w.alloc (.cells #[.int .u8 z] 5)).heap.size ≤ b) := by
  rcases h with h | ⟨g, cur, fz, rfl, h0, hBg, hg, hcur⟩
  ·have hrow : RowAt B (w.alloc (.cells #[.int .u8 z] 5)) 5 1 v l.length (Lib.byteCells l) := h.1.kept (r := none) (rw_none hal) (fun b _ => by simp)
   exact row_appendW (P := Tryz.prog) hrow (by simp; omega) 46 Tryz.underlying46 ii hi _ hz0 hz1 rfl (by rw [hz2]; omega) hlen ⟨w.heap.size, 0, none⟩ [.int .u8 z] rfl (row_cells hnb 0 _ (fun j u hj => by
    rw [Nat.zero_add]
    match j, hj with
    | 0, hj => simpa using hj)) (by intro u hu; simp at hu; subst hu; rfl) 1
  ·obtain ⟨v', w', h1, h2, h3, h4⟩ := by_grow B (w.alloc (.cells #[.int .u8 z] 5)) (by simp; omega) g cur fz ((hal.block g (Array.getElem?_eq_some_iff.1 hg).1).trans hg) l hcur hlen ⟨w.heap.size, 0, none⟩ (.int .u8 z) rfl (by
    have e : (⟨w.heap.size, 0, none⟩ : Addr).add 0 = ⟨w.heap.size, 0, none⟩ := by unfold Addr.add; split <;> simp_all
    rw [e, cell_of_row _ _ _ _ _ (0, 0) hnb]
    rfl) 1
   exact ⟨v', w', h1, h2, ⟨h3.os, h3.tape, h3.output, h3.size, fun k hk _ => h3.block k hk (by simp)⟩, .inr h4⟩
 obtain ⟨v', w', h1, h2, h3, h4⟩ := key
 refine ⟨v', w', h1, ⟨?_, by simp⟩, ⟨⟨h3.os, h3.tape, h3.output, ?_, fun k hk hr => (h3.block k (by simp; omega) hr).trans (hal.block k hk)⟩, ?_⟩⟩
 ·rw [List.length_append, byteCells_app, byteCells_one, ← hz]
  exact h2
 ·have := h3.size
  have := hal.size
  omega
 ·rcases h4 with h4 | ⟨b, h4, h5⟩
  ·exact .inl h4
  ·exact .inr ⟨b, h4, Nat.le_trans hal.size h5⟩
theorem by_text (B : Nat) (v : Value) (l : List UInt8) (s : ByteArray) (w : World) (h : ByAt B w v l) (hB : B ≤ w.heap.size) (hlen : l.length + s.size ≤ 140737488355328) :
  ∃ v' w', (∀ ty, (Builtin.append_ #[46, 9] ty #[v, .string s]).run Tryz.prog w = .ok v' w') ∧ ByAt B w' v' (l ++ s.data.toList) ∧ Grew w w' v v' := by
 obtain ⟨ii, hi, hz0, hz1, hz2⟩ := info_parts infoByte
 have hsl : s.data.toList.length = s.size := by rw [Array.length_toList]; rfl
 have hmx : (140737488355328 : Nat) ≤ maxLen := by unfold maxLen; omega
 have hlp : 0 < l.length := List.length_pos_iff.2 h.2
 have hcl : (Lib.byteCells l).length = l.length := byteCells_len l
 have hfin : l ++ s.data.toList ≠ [] := by
  intro e
  exact h.2 (List.append_eq_nil_iff.1 e).1
 rcases h.1.2 with ⟨A, rfl, h0⟩ | ⟨g, cap, cur, rfl, hc, hBg, hg, hnc, hcm, hcs, htk⟩
 ·omega
 ·rw [Nat.mul_one] at hcs htk
  by_cases hroom : l.length + s.size ≤ cap
  ·refine ⟨_, _, fun ty => Lib.run_append_room_string (P := Tryz.prog) w 46 9 ty 5 ii Tryz.underlying46 Tryz.underlying9 hi hz1 g l.length cap cur hg s hroom (by omega), ⟨⟨?_, .inr ⟨g, cap, _, ?_, hc, hBg, setRow_heap w g cur _ _ _ hg, ?_, hcm, ?_, ?_⟩⟩, hfin⟩, ⟨?_, .inl ?_⟩⟩
   ·rw [byteCells_len, Nat.mul_one]
   ·rw [List.length_append, hsl]
   ·rw [List.length_append, hsl]; exact hroom
   ·simp only [List.size_toArray, List.length_append, List.length_take, List.length_drop, Array.length_toList, Lib.strCells_length]
    omega
   ·rw [List.length_append, hsl, Nat.mul_one, htk, byteCells_app]
    have : (Lib.byteCells l ++ Lib.strCells s).length = l.length + s.size := by rw [List.length_append, hcl, Lib.strCells_length]
    rw [← this]
    exact List.take_left
   ·have hb : rowBlk (.slice (some ⟨g, 0, none⟩) l.length cap) = some g := by simp [rowBlk, Nat.ne_of_gt hc]
    rw [hb]
    exact rw_setRow
   ·simp [rowBlk]
  ·have hG := grownCap_ge w (l.length + s.size) cap 5
   have hGm : grownCap w (l.length + s.size) cap 5 ≤ maxLen := grownCap_le_maxLen w (l.length + s.size) cap _ (by omega)
   refine ⟨_, _, fun ty => Lib.run_append_grow_string (P := Tryz.prog) w 46 9 ty 5 ii (.int .u8 0) Tryz.underlying46 Tryz.underlying9 hi hz0 ⟨g, 0, none⟩ l.length cap (Lib.byteCells l) (by rw [hcl, hz1, Nat.mul_one]) (by simpa using h.1.cellsOf) s (by omega) (by omega) (growslice_fits (by omega) (by rw [hz2]; omega)), ⟨⟨?_, .inr ⟨w.heap.size, _, _, ?_, ?_, hB, Go.heap_alloc_new w.drew _, ?_, hGm, ?_, ?_⟩⟩, hfin⟩, ⟨⟨rfl, rfl, rfl, by simp, fun b hb _ => Go.heap_alloc_old w.drew _ hb⟩, .inr ⟨w.heap.size, ?_, Nat.le_refl _⟩⟩⟩
   ·rw [byteCells_len, Nat.mul_one]
   ·rw [List.length_append, hsl]
   ·omega
   ·rw [List.length_append, hsl]; exact hG
   ·have hz9 : (Value.int IntKind.u8 0).cells.size = 1 := rfl
    simp only [Array.size_append, List.size_toArray, size_zeroCells, hz9, hcl, Lib.strCells_length]
    omega
   ·rw [List.length_append, hsl, Nat.mul_one, byteCells_app]
    simp only [Array.toList_append]
    have : (Lib.byteCells l ++ Lib.strCells s).length = l.length + s.size := by rw [List.length_append, hcl, Lib.strCells_length]
    rw [← this]
    exact List.take_left
   ·simp only [rowBlk]
    rw [if_neg (by omega)]
set_option maxRecDepth 100000 in
set_option maxHeartbeats 2000000 in
theorem refnum_any (B : Nat) (v : Value) (l : List UInt8) (x : Nat) (w : World) (h : ByX B w v l) (hB : B ≤ w.heap.size) (hx : x ≤ 1099511627776) (hlen : l.length + 11 ≤ 140737488355328) :
  Calls Tryz.prog 27 #[v, .int .i64 (x : Int)] w fun e w' => ∃ v', e = .returned v' ∧ ByAt B w' v' (l ++ numL x) ∧ Grew w w' v v' := by
 have HH := Lib.hid h
 have HN := Lib.hid (numL_len x)
 clear h
 go_enter Tryz.func27, Tryz.ntmps27
 go_wp2_with fail
 go_loopw [0, 1] (fun u i wr => ∃ (y : Nat) (m : List UInt8) (b : Value), b = u ∧ i = .int .i64 y ∧ y ≤ 1099511627776 ∧ ByX B wr b (l ++ m) ∧ Grew w wr v b ∧ m ++ numL y = numL x) (fun _ i _ => (intOf i).toNat)
 case atStart => exact ⟨x, [], _, rfl, rfl, hx, by rw [List.append_nil]; exact HH.out, Grew.refl _ _, rfl⟩
 case round =>
  obtain ⟨y, m, b, rfl, rfl, hy, hrow, hgr, hc⟩ := hrel
  have hml : m.length ≤ 11 := by
   have h1 := congrArg List.length hc
   rw [List.length_append] at h1
   have := HN.out
   omega
  have hsz : B ≤ wr.heap.size := Nat.le_trans hB hgr.grown.size
  have HG := Lib.hid hgr
  by_cases hlt : 128 ≤ y
  ·rw [numL_step y hy hlt] at hc
   have hm2 : m.length + 1 ≤ 11 := by
    have h1 := congrArg List.length hc
    rw [List.length_append, List.length_cons] at h1
    have := HN.out
    omega
   have q1 : decide ((128 : Int) ≤ (y : Int)) = true := by rw [decide_eq_true_eq]; omega
   have e1 : (y : Int).tmod 128 = ((y % 128 : Nat) : Int) := rfl
   have e2 : IntKind.i64.wrap (((y % 128 : Nat) : Int) + 128) = ((y % 128 + 128 : Nat) : Int) := by rw [IntWalk.i64_in _ (by omega)]; omega
   have e3 : IntKind.u8.wrap ((y % 128 + 128 : Nat) : Int) = ((y % 128 + 128 : Nat) : Int) := by rw [IntKind.wrap_u8]; omega
   have e4 : (y : Int).tdiv 128 = ((y / 128 : Nat) : Int) := rfl
   have e5 : IntKind.i64.wrap ((y / 128 : Nat) : Int) = ((y / 128 : Nat) : Int) := IntWalk.i64_in _ (by omega)
   obtain ⟨v', w', hap, hrow', hgr'⟩ := by_append B b (l ++ m) (y % 128 + 128).toUInt8 ((y % 128 + 128 : Nat) : Int) (by show ((y % 128 + 128 : Nat) : Int) = (((y % 128 + 128) % 256 : Nat) : Int); rw [Nat.mod_eq_of_lt (show y % 128 + 128 < 256 by omega)]) wr hrow hsz (by rw [List.length_append]; omega)
   have HAP := Lib.hid hap
   have HR := Lib.hid hrow'
   have HG2 := Lib.hid (hgr.trans hgr')
   have HC := Lib.hid hc
   clear hap hrow' hgr' hrow hgr hc
   go_wp2_with (at_builtin; refine Lib.wpList_append_run _ rfl _ _ _ _ rfl _ _ rfl rfl _ _ (HAP.out _) ?_)
   go_roundw
   case rel => exact ⟨y / 128, m ++ [(y % 128 + 128).toUInt8], _, rfl, by first | rfl | go_num, by omega, by rw [← List.append_assoc]; exact .inl HR.out, HG2.out, by rw [List.append_assoc]; exact HC.out⟩
   case measure => simp [intOf]; omega
  ·rw [numL_last y (by omega)] at hc
   have hm2 : m.length + 1 ≤ 11 := by
    have h1 := congrArg List.length hc
    rw [List.length_append] at h1
    have := HN.out
    have h2 : [y.toUInt8].length = 1 := rfl
    omega
   have q1 : decide ((128 : Int) ≤ (y : Int)) = false := by rw [decide_eq_false_iff_not]; omega
   have e3 : IntKind.u8.wrap (y : Int) = (y : Int) := by rw [IntKind.wrap_u8]; omega
   obtain ⟨v', w', hap, hrow', hgr'⟩ := by_append B b (l ++ m) y.toUInt8 (y : Int) (by show (y : Int) = ((y % 256 : Nat) : Int); rw [Nat.mod_eq_of_lt (show y < 256 by omega)]) wr hrow hsz (by rw [List.length_append]; omega)
   have HAP := Lib.hid hap
   have HR := Lib.hid hrow'
   have HG2 := Lib.hid (hgr.trans hgr')
   have HC := Lib.hid hc
   clear hap hrow' hgr' hrow hgr hc
   go_wp2_with (at_builtin; refine Lib.wpList_append_run _ rfl _ _ _ _ rfl _ _ rfl rfl _ _ (HAP.out _) ?_)
   go_ret
   exact ⟨_, rfl, by have := HR.out; rw [List.append_assoc, HC.out] at this; exact this, HG2.out⟩
set_option maxRecDepth 100000 in
set_option maxHeartbeats 2000000 in
theorem reftext_any (B : Nat) (v : Value) (l : List UInt8) (s : ByteArray) (w : World) (h : ByAt B w v l) (hB : B ≤ w.heap.size) (hs : s.size ≤ 1048576) (hlen : l.length + 11 + s.size ≤ 140737488355328) :
  Calls Tryz.prog 28 #[v, .string s] w fun e w' => ∃ v', e = .returned v' ∧ ByAt B w' v' (l ++ textL s) ∧ Grew w w' v v' := by
 go_enter Tryz.func28, Tryz.ntmps28
 go_wp2_with fail
 refine (refnum_any B v l s.size w (.inl h) hB (by omega) (by omega)).mono ?_
 rintro e1 w1 ⟨v1, rfl, h1, g1⟩
 have hn := numL_len s.size
 obtain ⟨v2, w2, hap, h2, g2⟩ := by_text B v1 (l ++ numL s.size) s w1 h1 (Nat.le_trans hB g1.grown.size) (by rw [List.length_append]; omega)
 have HAP := Lib.hid hap
 have HR := Lib.hid h2
 have HG := Lib.hid (g1.trans g2)
 clear hap h2 g2 h1 g1 h
 go_wp2_with (at_builtin; refine Lib.wpList_append_run _ rfl _ _ _ _ rfl _ _ rfl rfl _ _ (HAP.out _) ?_)
 go_ret
 exact ⟨_, rfl, by have := HR.out; rw [List.append_assoc] at this; exact this, HG.out⟩
end Go.Proofs.YthhceopnnappgaaGreat
