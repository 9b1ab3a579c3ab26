/- Parts of the proof, side by side: ShBuildS, ShIno. -/
import Derived.Test.YtilkhmhgjbhfnaaGreatDoorM17
import Derived.Test.YtilkhmhgjbhfnaaGreatDoorShLib
import Derived.Test.YtilkhmhgjbhfnaaGreatDoorM05
set_option linter.unusedVariables false
set_option linter.unusedSimpArgs false
namespace Go.Proofs.YtilkhmhgjbhfnaaGreatDoor
open Go.RowKit
theorem liesBuilderS : liesAt Tryz.prog Tryz.prog.depth 112 (3 / Tryz.prog.cellsOf 112) 1 54 1 = true := by kernel_rfl
def BldAt (B b : Nat) (sp p : Value) (l : List UInt8) (w : World) : Prop :=
 B ≤ b ∧ ∃ v, w.heap[b]? = some (.cells #[sp, p, v] 112 (0, 0)) ∧ w.ownsRowF B 5 1 v (Lib.byteCells l).length (Lib.byteCells l) ∧ v.ownBlock ≠ some b
def BldS (B b : Nat) (sp : Value) (l : List UInt8) (w : World) : Prop := BldAt B b sp (.pointer none) l w ∨ BldAt B b sp (.pointer (some ⟨b, 1, none⟩)) l w
theorem BldAt.lt {B b : Nat} {sp p : Value} {l : List UInt8} {w : World} (h : BldAt B b sp p l w) : b < w.heap.size := by
 obtain ⟨_, v, hb, _⟩ := h
 exact (Array.getElem?_eq_some_iff.1 hb).1
theorem BldAt.keep {B b : Nat} {sp p : Value} {l : List UInt8} {w w' : World} (h : BldAt B b sp p l w) (hb : Below w.heap.size w w') : BldAt B b sp p l w' := by
 have hlt := h.lt
 obtain ⟨hB, v, h1, h2, h3⟩ := h
 exact ⟨hB, v, (hb.block b hlt).trans h1, h2.kept (row := none) ⟨hb.os, hb.tape, hb.output, hb.size, fun k hk _ => hb.block k hk⟩ (by cases hv : v.ownBlock <;> simp), h3⟩
theorem BldAt.cells {B b : Nat} {sp p : Value} {l : List UInt8} {w : World} (h : BldAt B b sp p l w) : w.cell? ⟨b, 0, none⟩ = some sp ∧ w.cell? ⟨b, 1, none⟩ = some p := by
 obtain ⟨_, v, hb, _⟩ := h
 exact ⟨by rw [Lib.cell_of_heap hb]; rfl, by rw [Lib.cell_of_heap hb]; rfl⟩
theorem BldAt.cell0 {B b : Nat} {sp p : Value} {l : List UInt8} {w : World} (h : BldAt B b sp p l w) : w.cell? ⟨b, 1, none⟩ = some p := h.cells.2
theorem BldAt.shape {B b : Nat} {sp p : Value} {l : List UInt8} {w : World} (h : BldAt B b sp p l w) : w.shape? b = some (112, 3) := by
 obtain ⟨_, v, hb, _⟩ := h
 simp [World.shape?, hb]
theorem BldAt.frozen0 {B b : Nat} {sp p : Value} {l : List UInt8} {w : World} (h : BldAt B b sp p l w) : w.frozen? ⟨b, 1, none⟩ = false := by
 obtain ⟨_, v, hb, _⟩ := h
 simp [World.frozen?, hb]
theorem BldAt.used {B b : Nat} {sp p : Value} {l : List UInt8} {w : World} (h : BldAt B b sp p l w) (q : Value) : BldAt B b sp q l (w.setCell ⟨b, 1, none⟩ q) := by
 obtain ⟨hB, v, hb, hown, hne⟩ := h
 refine ⟨hB, v, ?_, ?_, hne⟩
 ·simp [World.setCell, Array.getElem?_modify, hb]
 ·exact hown.kept (row := some b) ⟨rfl, rfl, rfl, by simp [World.setCell], fun k _ hk => Below.heap_setCell _ _ _ _ (fun e => hk (by simp [e]))⟩ (Or.inr hne)
theorem BldAt.put {B b : Nat} {sp p v v' : Value} {l' : List UInt8} {w : World} (hB : B ≤ b) (hb : w.heap[b]? = some (.cells #[sp, p, v] 112 (0, 0))) (hown : w.ownsRowF B 5 1 v' (Lib.byteCells l').length (Lib.byteCells l')) :
  BldAt B b sp p l' (w.setCell ⟨b, 2, none⟩ v') := by
 have hne := Lib.ownBlock_neF hown hb (by decide)
 refine ⟨hB, v', ?_, ?_, hne⟩
 ·simp [World.setCell, Array.getElem?_modify, hb]
 ·exact hown.kept (row := some b) ⟨rfl, rfl, rfl, by simp [World.setCell], fun k _ hk => Below.heap_setCell _ _ _ _ (fun e => hk (by simp [e]))⟩ (Or.inr hne)
theorem BldAt.froze {B b g cap : Nat} {sp p : Value} {l : List UInt8} {w : World} (h : BldAt B b sp p l w) (hc : w.cell? ⟨b, 2, none⟩ = some (.slice (some ⟨g, 0, none⟩) (Lib.byteCells l).length cap)) :
  BldAt B b sp p l (w.freeze ⟨g, 0, none⟩ (Lib.byteCells l).length) := by
 obtain ⟨hB, v, hb, hown, hne⟩ := h
 have hv : v = .slice (some ⟨g, 0, none⟩) (Lib.byteCells l).length cap := by
  rw [Lib.cell_of_heap hb] at hc
  simpa using hc
 subst hv
 have hgb : g ≠ b := fun e => hne (by simp [Value.ownBlock, e])
 unfold World.freeze
 split
 ·exact ⟨hB, _, hb, hown, hne⟩
 ·rename_i hn0
  refine ⟨hB, _, ?_, ⟨hown.1, ?_⟩, hne⟩
  ·simp only [Array.getElem?_modify]
   rw [if_neg hgb]
   exact hb
  ·rcases hown.2 with ⟨hv, _⟩ | ⟨g', cap', cur, fz, hv, hbg, hg, hfz, rest⟩
   ·cases hv
   ·injection hv with ha _ hcap
    injection ha with ha
    injection ha with hgg _ _
    subst hgg
    subst hcap
    obtain ⟨lo, hi⟩ := fz
    refine .inr ⟨g, _, cur, (if lo == hi then (0, 0 + (Lib.byteCells l).length) else (min lo 0, max hi (0 + (Lib.byteCells l).length))), rfl, hbg, ?_, ?_, rest⟩
    ·simp [Array.getElem?_modify, hg]
    ·simp only at hfz
     split <;> simp <;> omega
theorem BldS.keep {B b : Nat} {sp : Value} {l : List UInt8} {w w' : World} (h : BldS B b sp l w) (hb : Below w.heap.size w w') : BldS B b sp l w' := h.elim (fun h => .inl (h.keep hb)) (fun h => .inr (h.keep hb))
theorem BldS.lt {B b : Nat} {sp : Value} {l : List UInt8} {w : World} (h : BldS B b sp l w) : b < w.heap.size := h.elim (·.lt) (·.lt)
theorem BldS.ge {B b : Nat} {sp : Value} {l : List UInt8} {w : World} (h : BldS B b sp l w) : B ≤ b := h.elim (·.1) (·.1)
theorem BldS.cell {B b : Nat} {sp : Value} {l : List UInt8} {w : World} (h : BldS B b sp l w) : w.cell? ⟨b, 0, none⟩ = some sp := h.elim (·.cells.1) (·.cells.1)
set_option maxRecDepth 100000 in
set_option maxHeartbeats 1000000 in
theorem copycheck_usedS (b : Nat) (w : World) (h0 : w.cell? ⟨b, 1, none⟩ = some (.pointer (some ⟨b, 1, none⟩))) :
  Calls Tryz.prog 31 #[.pointer (some ⟨b, 1, none⟩)] w fun e w' => e = .returned (.tuple #[]) ∧ w' = w := by
 obtain ⟨j, hj, _⟩ := Option.map_eq_some_iff.1 sizeBuilder
 go_enter Tryz.func31, Tryz.ntmps31
 go_wp2
 rw [Lib.run_neq_ptr_same w _ Tryz.underlying52 hj]
 go_wp2
 go_end0
 exact ⟨rfl, rfl⟩
set_option maxRecDepth 100000 in
set_option maxHeartbeats 1000000 in
theorem copycheck_freshS (b : Nat) (w : World) (h0 : w.cell? ⟨b, 1, none⟩ = some (.pointer none)) (hsh : w.shape? b = some (112, 3)) (hfz : w.frozen? ⟨b, 1, none⟩ = false) :
  Calls Tryz.prog 31 #[.pointer (some ⟨b, 1, none⟩)] w fun e w' => e = .returned (.tuple #[]) ∧ w' = w.setCell ⟨b, 1, none⟩ (.pointer (some ⟨b, 1, none⟩)) := by
 obtain ⟨j, hj, hjs⟩ := Option.map_eq_some_iff.1 sizeBuilder
 go_enter Tryz.func31, Tryz.ntmps31
 go_wp2
 rw [Lib.run_to_unsafe w ⟨b, 1, none⟩ Tryz.underlying52 Tryz.underlying106 hj (by rw [hjs]; decide) hsh (Nat.succ_lt_succ (Nat.zero_lt_succ 1))]
 simp only [Result.andThen]
 rw [Oper.upon_value]
 go_wp2
 rw [run_callFunc_extern Tryz.func53 (by kernel_rfl) (by kernel_rfl) (by kernel_rfl) (e := Extern.AbiNoEscape.same) (by kernel_rfl)]
 rw [Lib.run_noEscape]
 simp only [Result.andThen]
 rw [Oper.upon_value]
 go_wp2
 rw [Lib.run_from_unsafe w ⟨b, 1, none⟩ Tryz.underlying106 Tryz.underlying52 hj hsh liesBuilderS]
 simp only [Result.andThen]
 rw [Oper.upon_value]
 go_wp2
 go_end0
 exact ⟨rfl, rfl⟩
theorem copycheck_anyS (B b : Nat) (sp : Value) (l : List UInt8) (w : World) (h : BldS B b sp l w) :
  Calls Tryz.prog 31 #[.pointer (some ⟨b, 1, none⟩)] w fun e w' => e = .returned (.tuple #[]) ∧ BldAt B b sp (.pointer (some ⟨b, 1, none⟩)) l w' ∧ Wr B b w w' := by
 rcases h with h | h
 ·refine (copycheck_freshS b w h.cell0 h.shape h.frozen0).mono ?_
  rintro e w' ⟨rfl, rfl⟩
  exact ⟨rfl, h.used _, Wr.set h.1 1 _⟩
 ·refine (copycheck_usedS b w h.cell0).mono ?_
  rintro e w' ⟨rfl, rfl⟩
  exact ⟨rfl, h, Wr.refl B b _⟩
set_option maxRecDepth 100000 in
set_option maxHeartbeats 2000000 in
theorem writestring_anyS (B b : Nat) (sp : Value) (l : List UInt8) (s : ByteArray) (w : World) (h : BldS B b sp l w) (hlen : l.length + s.size ≤ 140737488355328) (hBw : B ≤ w.heap.size) :
  Calls Tryz.prog 17 #[.pointer (some ⟨b, 1, none⟩), .string s] w fun e w' => e = .returned (.tuple #[.int .i64 s.size, .nilIface]) ∧ BldS B b sp (l ++ s.data.toList) w' ∧ Wr B b w w' := by
 obtain ⟨i0, hi, hz0, hz1, hz2⟩ := info_parts infoByte
 have HB0 := Lib.hid h
 clear h
 go_enter Tryz.func17, Tryz.ntmps17
 go_wp2_with fail
 refine (copycheck_anyS B b sp l _ HB0.out).mono ?_
 rintro e w1 ⟨rfl, h1, hb1⟩
 obtain ⟨hB, v, hbk, hown, hne⟩ := h1
 have c0 : w1.cell? ⟨b, 1, none⟩ = some (.pointer (some ⟨b, 1, none⟩)) := by rw [Lib.cell_of_heap hbk]; rfl
 have c1 : w1.cell? ⟨b, 2, none⟩ = some v := by rw [Lib.cell_of_heap hbk]; rfl
 rw [Lib.byteCells_length] at hown
 go_wp2_with (at_builtin; refine Lib.wpList_append_own_stringF _ rfl _ _ 37 9 rfl B 5 i0 Tryz.underlying37 Tryz.underlying9 hi hz0 hz1 hz2 _ _ _ rfl hown s rfl ?c3 ?c4 ?c5 ?_)
 case c3 => unfold maxLen; omega
 case c4 => omega
 case c5 => have := hb1.below.size; omega
 intro v' w2 hown' hgrow _
 have hlt : b < w1.heap.size := (Array.getElem?_eq_some_iff.1 hbk).1
 have hb2 : w2.heap[b]? = some (.cells #[sp, .pointer (some ⟨b, 1, none⟩), v] 112 (0, 0)) := by
  rw [hgrow.block b hlt (fun e => hne e.symm)]
  exact hbk
 have d0 : w2.cell? ⟨b, 1, none⟩ = some (.pointer (some ⟨b, 1, none⟩)) := by rw [Lib.cell_of_heap hb2]; rfl
 have d1 : w2.cell? ⟨b, 2, none⟩ = some v := by rw [Lib.cell_of_heap hb2]; rfl
 have f1 : w2.frozen? ⟨b, 2, none⟩ = false := Lib.frozen_of_heap hb2 2
 obtain ⟨ao, n', cap, rfl⟩ : ∃ ao n' cap, v' = .slice ao n' cap := by
  rcases hown'.2 with ⟨hv, _⟩ | ⟨g, cap, cur, fz, hv, _⟩
  ·exact ⟨_, _, _, hv⟩
  ·exact ⟨_, _, _, hv⟩
 go_wp2_with fail
 go_ret2
 refine ⟨rfl, .inr ?_, ?_⟩
 ·exact BldAt.put hB hb2 (l' := l ++ s.data.toList) (by rw [Lib.byteCells_append, List.length_append, Lib.byteCells_length, Lib.byteCells_length, Array.length_toList]; exact hown')
 ·exact (hb1.trans (Wr.grown hown hgrow (by have := hb1.below.size; omega))).trans (Wr.set hB 2 _)
set_option maxRecDepth 100000 in
set_option maxHeartbeats 2000000 in
theorem writebyte_anyS (B b : Nat) (sp : Value) (l : List UInt8) (c : UInt8) (v0 : Int) (w : World) (hv0 : v0 = (c.toNat : Int)) (h : BldS B b sp l w) (hlen : l.length + 1 ≤ 140737488355328) (hBw : B ≤ w.heap.size) :
  Calls Tryz.prog 59 #[.pointer (some ⟨b, 1, none⟩), .int .u8 v0] w fun e w' => e = .returned .nilIface ∧ BldS B b sp (l ++ [c]) w' ∧ Wr B b w w' := by
 obtain ⟨i0, hi, hz0, hz1, hz2⟩ := info_parts infoByte
 have HB0 := Lib.hid h
 have HV0 := Lib.hid hv0
 clear h hv0
 go_enter Tryz.func59, Tryz.ntmps59
 go_wp2_with fail
 refine (copycheck_anyS B b sp l _ HB0.out).mono ?_
 rintro e w1 ⟨rfl, h1, hb1⟩
 obtain ⟨hB, v, hbk, hown, hne⟩ := h1
 have c0 : w1.cell? ⟨b, 1, none⟩ = some (.pointer (some ⟨b, 1, none⟩)) := by rw [Lib.cell_of_heap hbk]; rfl
 have c1 : w1.cell? ⟨b, 2, none⟩ = some v := by rw [Lib.cell_of_heap hbk]; rfl
 rw [Lib.byteCells_length] at hown
 have hlt : b < w1.heap.size := (Array.getElem?_eq_some_iff.1 hbk).1
 go_wp2_with (at_builtin; refine wpList_append_ownF _ rfl _ _ 37 rfl B 5 i0 (.int .u8 0) 1 1 Tryz.underlying37 hi hz0 hz1 hz2 rfl (by decide) v _ _ rfl (hown.alloc _) ⟨w1.heap.size, 0, .none⟩ 1 1 [.int .u8 v0] rfl rfl (new_one w1 _ _) ?c2 ?c3 ?c4 ?c5 ?_)
 case c2 => intro u hu; simp at hu; subst hu; rfl
 case c3 => unfold maxLen; omega
 case c4 => omega
 case c5 => have := hb1.below.size; simp; omega
 intro v' w2 hown' hgrow _
 have hb2 : w2.heap[b]? = some (.cells #[sp, .pointer (some ⟨b, 1, none⟩), v] 112 (0, 0)) := by
  rw [hgrow.block b (by simp; omega) (fun e => hne e.symm)]
  exact (Below.heap_alloc w1 _ b hlt).trans hbk
 have d0 : w2.cell? ⟨b, 1, none⟩ = some (.pointer (some ⟨b, 1, none⟩)) := by rw [Lib.cell_of_heap hb2]; rfl
 have d1 : w2.cell? ⟨b, 2, none⟩ = some v := by rw [Lib.cell_of_heap hb2]; rfl
 have f1 : w2.frozen? ⟨b, 2, none⟩ = false := Lib.frozen_of_heap hb2 2
 obtain ⟨ao, n', cap, rfl⟩ : ∃ ao n' cap, v' = .slice ao n' cap := by
  rcases hown'.2 with ⟨hv, _⟩ | ⟨g, cap, cur, fz, hv, _⟩
  ·exact ⟨_, _, _, hv⟩
  ·exact ⟨_, _, _, hv⟩
 go_wp2_with fail
 go_ret
 refine ⟨rfl, .inr ?_, ?_⟩
 ·exact BldAt.put hB hb2 (l' := l ++ [c]) (by
   rw [Lib.byteCells_append, List.length_append, Lib.byteCells_length, Lib.byteCells_length]
   rw [HV0.out] at hown'
   exact hown')
 ·exact ((hb1.trans (Wr.of_below ((Below.refl _ _).alloc (Nat.le_refl _) _) (by have := hb1.below.size; omega))).trans (Wr.grown (hown.alloc _) hgrow (by have := hb1.below.size; simp; omega))).trans (Wr.set hB 2 _)
set_option maxRecDepth 100000 in
set_option maxHeartbeats 2000000 in
theorem string_anyS (B b : Nat) (sp : Value) (l : List UInt8) (w : World) (h : BldS B b sp l w) (h0 : l ≠ []) :
  Calls Tryz.prog 19 #[.pointer (some ⟨b, 1, none⟩)] w fun e w' => e = .returned (.string ⟨l.toArray⟩) ∧ BldS B b sp l w' ∧ Wr B b w w' := by
 obtain ⟨p, hp, hAt⟩ : ∃ p, (p = .pointer none ∨ p = .pointer (some ⟨b, 1, none⟩)) ∧ BldAt B b sp p l w := by
  rcases h with h | h
  ·exact ⟨_, .inl rfl, h⟩
  ·exact ⟨_, .inr rfl, h⟩
 obtain ⟨hB, v, hbk, hown, hne⟩ := hAt
 have hl0 : l.length ≠ 0 := by simpa using h0
 rw [Lib.byteCells_length] at hown
 obtain ⟨g, cap, cur, fz, rfl, hbg, hg, hfz, hnc, hcm, hcs, htake⟩ : ∃ g cap cur fz, v = .slice (some ⟨g, 0, none⟩) l.length cap ∧ B ≤ g ∧ w.heap[g]? = some (.cells cur 5 fz) ∧ fz.2 ≤ l.length * 1 ∧ l.length ≤ cap ∧ cap ≤ maxLen ∧ cur.size = cap * 1 ∧ cur.toList.take (l.length * 1) = Lib.byteCells l := by
  rcases hown.2 with ⟨_, hz⟩ | ⟨g, cap, cur, fz, hv, r⟩
  ·exact absurd hz hl0
  ·exact ⟨g, cap, cur, fz, hv, r⟩
 have c1 : w.cell? ⟨b, 2, none⟩ = some (.slice (some ⟨g, 0, none⟩) l.length cap) := by
  rw [Lib.cell_of_heap hbk]; rfl
 have hSD : ∀ W, (Builtin.unsafeSliceData_ #[37] 91 #[.slice (some ⟨g, 0, none⟩) l.length cap]).run Tryz.prog W = .ok (.pointer (some ⟨g, 0, none⟩)) W :=
  fun W => Lib.run_unsafeSliceData_row _ _ _ _ _ _ (by omega)
 have hUS : (Builtin.unsafeString_ #[91, 3] 9 #[.pointer (some ⟨g, 0, none⟩), .int .i64 l.length]).run Tryz.prog w.drew = .ok (.string ⟨l.toArray⟩) (w.drew.freeze ⟨g, 0, none⟩ l.length) := by
  refine Lib.run_unsafeString_row w.drew 91 3 9 5 Tryz.underlying91 (by kernel_rfl) g cur.size (by have hg' : w.drew.heap[g]? = some (.cells cur 5 fz) := hg; simp [World.shape?, hg']) l h0 (by omega) (by unfold maxLen at hcm; omega) ?_
  intro j x hx
  exact hown.cells (g := g) rfl j (.int .u8 x.toNat) (by simp [Lib.byteCells, hx])
 have hkeep : BldS B b sp l (w.drew.freeze ⟨g, 0, none⟩ l.length) := by
  have hA : BldAt B b sp p l w.drew := ⟨hB, _, hbk, by rw [Lib.byteCells_length]; exact hown, hne⟩
  have hF := hA.froze (g := g) (cap := cap) (by rw [Lib.byteCells_length]; exact c1)
  rw [Lib.byteCells_length] at hF
  rcases hp with rfl | rfl
  ·exact .inl hF
  ·exact .inr hF
 have HK := Lib.hid hkeep
 have hfr : Wr B b w (w.drew.freeze ⟨g, 0, none⟩ l.length) := Wr.drew.trans (Wr.freeze (w := w.drew) (cur := cur) (fz := fz) hg hbg _)
 have HG := Lib.hid hfr
 clear hbk hown hne hg hfz hcs htake hkeep hbg h hp hfr
 go_enter Tryz.func19, Tryz.ntmps19
 go_wp2_with fail
 go_region
 all_goals (go_wp2_with fail; go_ret; exact ⟨rfl, HK.out, HG.out⟩)
theorem ino1_any (x1 : Value) (E : Option Addr) (m d : Nat) (a num : Int) (bx : Nat) (w : World) (dir : Bool) (data : ByteArray) (h1 : x1 = .int .i64 a) (hb : w.cell? ⟨bx, 0, .none⟩ = some (.int .i64 num)) (hlt : bx < w.heap.size) :
  Calls Tryz.prog 177 #[.agg #[x1, .bool dir, .slice E m d, .string data], .pointer (some ⟨bx, 0, .none⟩)] w fun e w' => e = .returned (.bool (a == num)) ∧ Below w.heap.size w w' := by
 subst h1
 obtain ⟨V2, hV2, v0, v1, v2, v3, hal4, hlt4⟩ := box_ino w a dir E m d data
 have z := (hal4.cell (p := ⟨bx, 0, .none⟩) hlt).trans hb
 have HAL := Lib.hid hal4
 clear hal4 v1 v2 v3
 go_enter Tryz.func177, Tryz.ntmps177
 go_wp2_with fail
 go_ret
 exact ⟨rfl, HAL.out⟩
set_option maxRecDepth 100000 in
set_option maxHeartbeats 4000000 in
theorem indexino_any (is : List Ino) (A : Option Addr) (n c : Nat) (num : Int) (bx : Nat) (w : World) (hI : InosAt none w A n is) (hn : n ≤ 1099511627776) (hb : w.cell? ⟨bx, 0, .none⟩ = some (.int .i64 num)) (hblt : bx < w.heap.size) (h0 : 0 ≤ atV is num) :
  Calls Tryz.prog 176 #[.slice A n c, .func (.func 177) #[] #[.pointer (some ⟨bx, 0, .none⟩)]] w fun e w' => e = .returned (.int .i64 (atV is num)) ∧ Below w.heap.size w w' := by
 obtain ⟨R, hR⟩ : ∃ R, atG is num 0 = R := ⟨_, rfl⟩
 have hR0 : 0 ≤ R := by rw [← hR]; exact h0
 have hR2 : atV is num = R := hR
 rw [hR2]
 have HI := Lib.hid hI
 have HR := Lib.hid hR
 have HR0 := Lib.hid hR0
 clear hI hR h0 hR2 hR0
 go_enter Tryz.func176, Tryz.ntmps176
 go_wp2_with fail
 go_loopw [8] (fun j wr => ∃ q : Nat, j = .int .i64 q ∧ q ≤ n ∧ Below w.heap.size w wr ∧ atG (is.drop q) num q = R) (fun j _ => n - (intOf j).toNat)
 case atStart => exact ⟨0, rfl, by omega, Below.refl _ _, HR.out⟩
 case round =>
  obtain ⟨q, rfl, hq, hbel, hc⟩ := hrel
  have HB := Lib.hid hbel
  have HIr := Lib.hid (HI.out.below hbel)
  have hbr := (hbel.cell (p := ⟨bx, 0, .none⟩) hblt).trans hb
  have hbl : bx < wr.heap.size := Nat.lt_of_lt_of_le hblt hbel.size
  have HBR := Lib.hid hbr
  clear hbel hbr
  by_cases hlt : q < n
  ·obtain ⟨g, off, x, E, m, d, rfl, hg, hx, hd, hmem, c0, c1, c2, hok, hE, c3⟩ := HIr.out.get q hlt
   rw [hd, atG] at hc
   have HC := Lib.hid hc
   have k0 : (0 : Int) ≤ (q : Int) := by omega
   clear hc hd hmem hx hok hE
   go_wp2_with fail
   refine (ino1_any _ E m d x.num num bx _ x.dir x.data rfl HBR.out hbl).mono ?_
   rintro e5 w5 ⟨rfl, hb5⟩
   have HB5 := Lib.hid (HB.out.trans (hb5.mono HB.out.size))
   clear hb5 c0 c1 c2 c3
   obtain ⟨bb, hbb⟩ : ∃ bb, (x.num == num) = bb := ⟨_, rfl⟩
   rw [hbb]
   have hc := HC.out
   cases bb
   ·have hnx : ¬ x.num = num := by rw [beq_eq_false_iff_ne] at hbb; exact hbb
    rw [if_neg hnx] at hc
    have HC2 := Lib.hid hc
    clear hc hbb hnx
    go_wp2_with fail
    go_roundw
    case rel => exact ⟨q + 1, by go_num, by omega, HB5.out, HC2.out⟩
    case measure => simp [intOf]; omega
   ·have hnx : x.num = num := by rw [beq_iff_eq] at hbb; exact hbb
    rw [if_pos hnx] at hc
    have HC2 := Lib.hid hc
    clear hc hbb hnx
    go_wp2_with fail
    go_ret
    exact ⟨by rw [← HC2.out]; rfl, HB5.out⟩
  ·have hnil : is.drop q = [] := List.drop_eq_nil_of_le (by have := HI.out.1; omega)
   rw [hnil, atG] at hc
   exact absurd HR0.out (by omega)
theorem shino_any (b q : Nat) (s : St) (num : Int) (wB w : World) (hPB : PtrAt wB q s) (hBw : Below wB.heap.size wB w) (hc : w.cell? ⟨b, 0, none⟩ = some (.pointer (some ⟨q, 0, none⟩))) (hbw : b < w.heap.size) (x : Ino) (hx : inoAt s.inos (atV s.inos num) = some x) :
  Calls Tryz.prog 123 #[.pointer (some ⟨b, 0, none⟩), .int .i64 num] w fun e w' => ∃ g o E m d, e = .returned (.pointer (some ⟨g, o, none⟩)) ∧ Below w.heap.size w w' ∧ g < wB.heap.size ∧
   wB.cell? ⟨g, o + 1, none⟩ = some (.bool x.dir) ∧ wB.cell? ⟨g, o + 2, none⟩ = some (.slice E m d) ∧ wB.cell? ⟨g, o + 3, none⟩ = some (.string x.data) ∧ EntsAt none wB E m x.ents := by
 obtain ⟨A, n, c, E, m, d, D, k, e, hp0, c0, c1, c2, hI0, hD, hM, hn, hm, _⟩ := hPB.val
 have h0 : 0 ≤ atV s.inos num := by
  unfold inoAt at hx
  split at hx
  ·cases hx
  ·omega
 obtain ⟨K, hK⟩ : ∃ K : Nat, atV s.inos num = (K : Int) := ⟨(atV s.inos num).toNat, by omega⟩
 rw [hK, inoAt_nat] at hx
 have hKn : K < n := by
  have := (List.getElem?_eq_some_iff.1 hx).1
  have := hI0.1
  omega
 obtain ⟨g, off, x', E2, m2, d2, rfl, hg, hx', hd, hmem, y0, y1, y2, hok, hE, y3⟩ := hI0.get K hKn
 rw [hx] at hx'
 cases hx'
 have hI := hI0.below hBw
 have hp : q < w.heap.size := Nat.lt_of_lt_of_le hp0 hBw.size
 have c0' := (hBw.cell (p := ⟨q, 0, .none⟩) hp0).trans c0
 obtain ⟨W, hW⟩ : ∃ W, w.alloc (.cells #[.int .i64 num] 3) = W := ⟨_, rfl⟩
 have hal : Below w.heap.size w W := by rw [← hW]; exact (Below.refl _ _).alloc (Nat.le_refl _) _
 have hsz : W.heap.size = w.heap.size + 1 := by rw [← hW]; simp
 have hbx : W.cell? ⟨w.heap.size, 0, .none⟩ = some (.int .i64 num) := by rw [← hW]; exact World.cell?_alloc_mark w _ _ (0, 0) _
 have b0 := (hal.cell (p := ⟨b, 0, .none⟩) hbw).trans hc
 have x1 := (hal.cell (p := ⟨q, 0, .none⟩) hp).trans c0'
 have HID := Lib.hid (hI.below hal)
 have HAL := Lib.hid hal
 have hlt : w.heap.size < W.heap.size := by omega
 have HC := Lib.hid hbx
 have HLT := Lib.hid hlt
 have HY := Lib.hid (And.intro y1 (And.intro y2 y3))
 have HE := Lib.hid hE
 have k0 : (0 : Int) ≤ (K : Int) := by omega
 have k1 : (K : Int) < (n : Int) := by omega
 have HK := Lib.hid hK
 have HH0 := Lib.hid h0
 have hqb := Lib.hid hbw
 have hqp := Lib.hid hp
 have HB0 := Lib.hid hc
 have HC0 := Lib.hid c0'
 have HG := Lib.hid hg
 clear hI hI0 hD hM hal c0 c0' c1 c2 hsz hbx hlt y0 y1 y2 y3 hE hok hd hmem hx hK h0 hbw hp hp0 hc hg hPB hBw
 go_enter Tryz.func123, Tryz.ntmps123
 go_wp2_with fail
 refine (indexino_any s.inos (some ⟨g, off, none⟩) n c num w.heap.size W HID.out hn HC.out HLT.out HH0.out).mono ?_
 rintro e5 w5 ⟨rfl, hbel⟩
 rw [HK.out]
 have hbw5 : Below w.heap.size w w5 := Cv.next HAL.out hbel
 have b5 := (hbw5.cell (p := ⟨b, 0, .none⟩) hqb.out).trans HB0.out
 have x5 := (hbw5.cell (p := ⟨q, 0, .none⟩) hqp.out).trans HC0.out
 have HB5 := Lib.hid hbw5
 clear hbel hbw5 b0 x1
 go_wp2_with fail
 go_ret
 exact ⟨g, off + K * 4, E2, m2, d2, rfl, HB5.out, HG.out, HY.out.1, HY.out.2.1, HY.out.2.2, HE.out⟩
theorem cat_list (a b : List UInt8) : (⟨a.toArray⟩ : ByteArray) ++ ⟨b.toArray⟩ = ⟨(a ++ b).toArray⟩ := by
 apply ByteArray.ext
 apply Array.ext'
 simp
def lineW (xs : List ByteArray) : List UInt8 := Lib.join (xs.map (·.data.toList)) [32] ++ [10]
set_option maxRecDepth 100000 in
set_option maxHeartbeats 2000000 in
theorem shline_any (B b k c : Nat) (sp : Value) (l : List UInt8) (xs : List ByteArray) (w : World) (h : BldS B b sp l w) (hc : ∀ (j : Nat) x, xs[j]? = some x → w.cell? ⟨k, 0 + j, none⟩ = some (.string x)) (hk : k < w.heap.size) (hcap : xs.length ≤ c) (hxl : xs.length ≤ 140737488355328) (hBw : B ≤ w.heap.size) (hlen : l.length + (lineW xs).length ≤ 140737488355328) :
  Calls Tryz.prog 57 #[.pointer (some ⟨b, 0, none⟩), .slice (some ⟨k, 0, none⟩) xs.length c] w fun e w' => e = .returned (.tuple #[]) ∧ BldS B b sp (l ++ lineW xs) w' ∧ Wr B b w w' := by
 have HB0 := Lib.hid h
 have HC := Lib.hid hc
 obtain ⟨J, hJ⟩ : ∃ J, Lib.join (xs.map (·.data.toList)) (⟨#[32]⟩ : ByteArray).data.toList = J := ⟨_, rfl⟩
 have hline : lineW xs = J ++ [10] := by rw [← hJ]; rfl
 have s2 : l.length + (J.length + 1) ≤ 140737488355328 := by
  have h1 : (lineW xs).length = J.length + 1 := by rw [hline, List.length_append]; rfl
  omega
 have s3 : J.length ≤ 140737488355327 := by omega
 rw [hline]
 have hjn := strings_Join k 0 c xs ⟨#[32]⟩ w.drew HC.out hk hxl hcap (by have h1 := congrArg List.length hJ; omega)
 rw [hJ] at hjn
 have HJN := Lib.hid hjn
 have hws : ∀ w1, BldS B b sp l w1 → B ≤ w1.heap.size → Calls Tryz.prog 17 #[.pointer (some ⟨b, 1, none⟩), .string ((⟨J.toArray⟩ : ByteArray) ++ ⟨#[10]⟩)] w1 fun e w' => (∃ v, e = .returned v) ∧ BldS B b sp (l ++ (J ++ [10])) w' ∧ Wr B b w1 w' := by
  intro w1 h1 h2
  obtain ⟨S, hS⟩ : ∃ S : ByteArray, (⟨J.toArray⟩ : ByteArray) ++ ⟨#[10]⟩ = S := ⟨_, rfl⟩
  have hsd : S.data.toList = J ++ [10] := by rw [← hS, cat_list J [10]]
  have hsl : S.data.toList.length = S.size := Array.length_toList
  have hs5 : l.length + S.size ≤ 140737488355328 := by
   have h3 := congrArg List.length hsd
   simp only [List.length_append, List.length_cons, List.length_nil] at h3
   omega
  rw [hS, ← hsd]
  refine (writestring_anyS B b sp l S w1 h1 hs5 h2).mono ?_
  rintro e3 w3 ⟨rfl, hbl3, hw3⟩
  exact ⟨⟨_, rfl⟩, hbl3, hw3⟩
 have HWS := Lib.hid hws
 have HBW := Lib.hid hBw
 clear hjn h hc hlen hline hJ hws s2 hBw
 go_enter Tryz.func57, Tryz.ntmps57
 go_wp2_with fail
 go_region_with (first
  | (go_at_call 66; refine HJN.out.mono ?_; rintro e1 w1 ⟨rfl, hb1⟩; have hb2 : Below w.heap.size w w1 := (Below.drew (Below.refl _ _)).trans hb1; have hs1 := HB0.out.keep hb2)
  | (go_at_call 17; refine (HWS.out _ hs1 (Nat.le_trans HBW.out hb2.size)).mono ?_; rintro e3 w3 ⟨⟨v3, rfl⟩, hbl3, hw3⟩))
 go_end0
 exact ⟨rfl, hbl3, (Wr.of_below hb2 HBW.out).trans hw3⟩
end Go.Proofs.YtilkhmhgjbhfnaaGreatDoor
