/- Parts of the proof, side by side: ShBuild, ShBuildS. -/
import Derived.Test.YtkflaifopbodfaaGreatDoorM06
import Derived.Laws.BitsAllLaws
import Derived.RegionTactic
set_option linter.unusedVariables false
set_option linter.unusedSimpArgs false
namespace Go.Proofs.YtkflaifopbodfaaGreatDoor
open Go.RowKit
theorem liesBuilderH : liesAt Tryz.prog Tryz.prog.depth 81 (2 / Tryz.prog.cellsOf 81) 0 81 1 = true := by kernel_rfl
def BldH (B b : Nat) (l : List UInt8) (w : World) : Prop := Lib.IsBuilderF 81 5 B b (Lib.byteCells l) w
theorem BldH.keep {B b : Nat} {l : List UInt8} {w w' : World} (h : BldH B b l w) (hb : Below w.heap.size w w') : BldH B b l w' := by
 have key : ∀ p, Lib.BuilderAtF 81 5 B b p (Lib.byteCells l) w → Lib.BuilderAtF 81 5 B b p (Lib.byteCells l) w' := by
  intro p hp
  have hlt := hp.lt
  obtain ⟨hB, v, h1, h2, h3⟩ := hp
  exact ⟨hB, v, (hb.block b hlt).trans h1, h2.kept (row := none) ⟨hb.os, hb.tape, hb.output, hb.size, fun k hk _ => hb.block k hk⟩ (by cases hv : v.ownBlock <;> simp), h3⟩
 rcases h with h | h
 ·exact .inl (key _ h)
 ·exact .inr (key _ h)
theorem BldH.lt {B b : Nat} {l : List UInt8} {w : World} (h : BldH B b l w) : b < w.heap.size := by
 rcases h with h | h
 ·exact h.lt
 ·exact h.lt
theorem BldH.ge {B b : Nat} {l : List UInt8} {w : World} (h : BldH B b l w) : B ≤ b := by
 rcases h with h | h
 ·exact h.1
 ·exact h.1
set_option maxRecDepth 100000 in
set_option maxHeartbeats 1000000 in
theorem copycheck_usedH (b : Nat) (w : World) (h0 : w.cell? ⟨b, 0, none⟩ = some (.pointer (some ⟨b, 0, none⟩))) :
  Calls Tryz.prog 71 #[.pointer (some ⟨b, 0, none⟩)] w fun e w' => e = .returned (.tuple #[]) ∧ w' = w := by
 obtain ⟨j, hj, _⟩ := Option.map_eq_some_iff.1 sizeBuilder
 go_enter Tryz.func71, Tryz.ntmps71
 go_wp2
 rw [Lib.run_neq_ptr_same w _ Tryz.underlying78 hj]
 go_wp2
 go_end0
 exact ⟨rfl, rfl⟩
set_option maxRecDepth 100000 in
set_option maxHeartbeats 1000000 in
theorem copycheck_freshH (b : Nat) (w : World) (h0 : w.cell? ⟨b, 0, none⟩ = some (.pointer none)) (hsh : w.shape? b = some (81, 2)) (hfz : w.frozen? ⟨b, 0, none⟩ = false) :
  Calls Tryz.prog 71 #[.pointer (some ⟨b, 0, none⟩)] w fun e w' => e = .returned (.tuple #[]) ∧ w' = w.setCell ⟨b, 0, none⟩ (.pointer (some ⟨b, 0, none⟩)) := by
 obtain ⟨j, hj, hjs⟩ := Option.map_eq_some_iff.1 sizeBuilder
 go_enter Tryz.func71, Tryz.ntmps71
 go_wp2
 rw [Lib.run_to_unsafe w ⟨b, 0, none⟩ Tryz.underlying78 Tryz.underlying152 hj (by rw [hjs]; decide) hsh (Nat.zero_lt_succ 1)]
 simp only [Result.andThen]
 rw [Oper.upon_value]
 go_wp2
 rw [run_callFunc_extern Tryz.func98 (by kernel_rfl) (by kernel_rfl) (by kernel_rfl) (e := Extern.AbiNoEscape.same) (by kernel_rfl)]
 rw [Lib.run_noEscape]
 simp only [Result.andThen]
 rw [Oper.upon_value]
 go_wp2
 rw [Lib.run_from_unsafe w ⟨b, 0, none⟩ Tryz.underlying152 Tryz.underlying78 hj hsh liesBuilderH]
 simp only [Result.andThen]
 rw [Oper.upon_value]
 go_wp2
 go_end0
 exact ⟨rfl, rfl⟩
theorem copycheck_anyH (B b : Nat) (l : List UInt8) (w : World) (h : BldH B b l w) :
  Calls Tryz.prog 71 #[.pointer (some ⟨b, 0, none⟩)] w fun e w' => e = .returned (.tuple #[]) ∧ Lib.BuilderAtF 81 5 B b (.pointer (some ⟨b, 0, none⟩)) (Lib.byteCells l) w' ∧ Wr B b w w' := by
 rcases h with h | h
 ·refine (copycheck_freshH b w h.cell0 h.shape h.frozen0).mono ?_
  rintro e w' ⟨rfl, rfl⟩
  exact ⟨rfl, h.used _, Wr.set h.1 0 _⟩
 ·refine (copycheck_usedH b w h.cell0).mono ?_
  rintro e w' ⟨rfl, rfl⟩
  exact ⟨rfl, h, Wr.refl B b _⟩
set_option maxRecDepth 100000 in
set_option maxHeartbeats 2000000 in
theorem writebyte_anyH (B b : Nat) (l : List UInt8) (c : UInt8) (v0 : Int) (w : World) (hv0 : v0 = (c.toNat : Int)) (h : BldH B b l w) (hlen : l.length + 1 ≤ 140737488355328) (hBw : B ≤ w.heap.size) :
  Calls Tryz.prog 38 #[.pointer (some ⟨b, 0, none⟩), .int .u8 v0] w fun e w' => e = .returned .nilIface ∧ BldH B b (l ++ [c]) w' ∧ Wr B b w w' := by
 obtain ⟨i0, hi, hz0, hz1, hz2⟩ := info_parts infoByte
 have HB0 := Lib.hid h
 have HV0 := Lib.hid hv0
 clear h hv0
 go_enter Tryz.func38, Tryz.ntmps38
 go_wp2_with fail
 refine (copycheck_anyH B b l _ HB0.out).mono ?_
 rintro e w1 ⟨rfl, h1, hb1⟩
 obtain ⟨hB, v, hbk, hown, hne⟩ := h1
 have c0 : w1.cell? ⟨b, 0, none⟩ = some (.pointer (some ⟨b, 0, none⟩)) := by rw [Lib.cell_of_heap hbk]; rfl
 have c1 : w1.cell? ⟨b, 1, none⟩ = some v := by rw [Lib.cell_of_heap hbk]; rfl
 rw [Lib.byteCells_length] at hown
 have hlt : b < w1.heap.size := (Array.getElem?_eq_some_iff.1 hbk).1
 go_wp2_with (at_builtin; refine wpList_append_ownF _ rfl _ _ 79 rfl B 5 i0 (.int .u8 0) 1 1 Tryz.underlying79 hi hz0 hz1 hz2 rfl (by decide) v _ _ rfl (hown.alloc _) ⟨w1.heap.size, 0, .none⟩ 1 1 [.int .u8 v0] rfl rfl (new_one w1 _ _) ?c2 ?c3 ?c4 ?c5 ?_)
 case c2 => intro u hu; simp at hu; subst hu; rfl
 case c3 => unfold maxLen; omega
 case c4 => omega
 case c5 => have := hb1.below.size; simp; omega
 intro v' w2 hown' hgrow _
 have hb2 : w2.heap[b]? = some (.cells #[.pointer (some ⟨b, 0, none⟩), v] 81 (0, 0)) := by
  rw [hgrow.block b (by simp; omega) (fun e => hne e.symm)]
  exact (Below.heap_alloc w1 _ b hlt).trans hbk
 have d0 : w2.cell? ⟨b, 0, none⟩ = some (.pointer (some ⟨b, 0, none⟩)) := by rw [Lib.cell_of_heap hb2]; rfl
 have d1 : w2.cell? ⟨b, 1, none⟩ = some v := by rw [Lib.cell_of_heap hb2]; rfl
 have f1 : w2.frozen? ⟨b, 1, none⟩ = false := Lib.frozen_of_heap hb2 1
 obtain ⟨ao, n', cap, rfl⟩ : ∃ ao n' cap, v' = .slice ao n' cap := by
  rcases hown'.2 with ⟨hv, _⟩ | ⟨g, cap, cur, fz, hv, _⟩
  ·exact ⟨_, _, _, hv⟩
  ·exact ⟨_, _, _, hv⟩
 go_wp2_with fail
 go_ret
 refine ⟨rfl, .inr ?_, ?_⟩
 ·exact Lib.BuilderAtF.put (T := 81) (e := 5) hB hb2 (bs' := Lib.byteCells (l ++ [c])) (by
   rw [Lib.byteCells_append, List.length_append, Lib.byteCells_length, Lib.byteCells_length]
   rw [HV0.out] at hown'
   exact hown') (by decide)
 ·exact ((hb1.trans (Wr.of_below ((Below.refl _ _).alloc (Nat.le_refl _) _) (by have := hb1.below.size; omega))).trans (Wr.grown (hown.alloc _) hgrow (by have := hb1.below.size; simp; omega))).trans (Wr.set hB 1 _)
set_option maxRecDepth 100000 in
set_option maxHeartbeats 2000000 in
theorem string_anyH (B b : Nat) (l : List UInt8) (w : World) (h : BldH B b l w) (h0 : l ≠ []) :
  Calls Tryz.prog 40 #[.pointer (some ⟨b, 0, none⟩)] w fun e w' => e = .returned (.string ⟨l.toArray⟩) ∧ BldH B b l w' ∧ Wr B b w w' := by
 obtain ⟨p, hp, hAt⟩ : ∃ p, (p = .pointer none ∨ p = .pointer (some ⟨b, 0, none⟩)) ∧ Lib.BuilderAtF 81 5 B b p (Lib.byteCells l) w := by
  rcases h with h | h
  ·exact ⟨_, .inl rfl, h⟩
  ·exact ⟨_, .inr rfl, h⟩
 obtain ⟨hB, v, hbk, hown, hne⟩ := hAt
 have hl0 : l.length ≠ 0 := by simpa using h0
 rw [Lib.byteCells_length] at hown
 obtain ⟨g, cap, cur, fz, rfl, hbg, hg, hfz, hnc, hcm, hcs, htake⟩ : ∃ g cap cur fz, v = .slice (some ⟨g, 0, none⟩) l.length cap ∧ B ≤ g ∧ w.heap[g]? = some (.cells cur 5 fz) ∧ fz.2 ≤ l.length * 1 ∧ l.length ≤ cap ∧ cap ≤ maxLen ∧ cur.size = cap * 1 ∧ cur.toList.take (l.length * 1) = Lib.byteCells l := by
  rcases hown.2 with ⟨_, hz⟩ | ⟨g, cap, cur, fz, hv, r⟩
  ·exact absurd hz hl0
  ·exact ⟨g, cap, cur, fz, hv, r⟩
 have c1 : w.cell? ⟨b, 1, none⟩ = some (.slice (some ⟨g, 0, none⟩) l.length cap) := by
  rw [Lib.cell_of_heap hbk]; rfl
 have hSD : ∀ W, (Builtin.unsafeSliceData_ #[79] 123 #[.slice (some ⟨g, 0, none⟩) l.length cap]).run Tryz.prog W = .ok (.pointer (some ⟨g, 0, none⟩)) W :=
  fun W => Lib.run_unsafeSliceData_row _ _ _ _ _ _ (by omega)
 have hUS : (Builtin.unsafeString_ #[123, 3] 9 #[.pointer (some ⟨g, 0, none⟩), .int .i64 l.length]).run Tryz.prog w.drew = .ok (.string ⟨l.toArray⟩) (w.drew.freeze ⟨g, 0, none⟩ l.length) := by
  refine Lib.run_unsafeString_row w.drew 123 3 9 5 Tryz.underlying123 (by kernel_rfl) g cur.size (by have hg' : w.drew.heap[g]? = some (.cells cur 5 fz) := hg; simp [World.shape?, hg']) l h0 (by omega) (by unfold maxLen at hcm; omega) ?_
  intro j x hx
  exact hown.cells (g := g) rfl j (.int .u8 x.toNat) (by simp [Lib.byteCells, hx])
 have hkeep : BldH B b l (w.drew.freeze ⟨g, 0, none⟩ l.length) := by
  have hA : Lib.BuilderAtF 81 5 B b p (Lib.byteCells l) w.drew := ⟨hB, _, hbk, by rw [Lib.byteCells_length]; exact hown, hne⟩
  have hF := hA.froze (g := g) (cap := cap) (by rw [Lib.byteCells_length]; exact c1)
  rw [Lib.byteCells_length] at hF
  rcases hp with rfl | rfl
  ·exact .inl hF
  ·exact .inr hF
 have HK := Lib.hid hkeep
 have hfr : Wr B b w (w.drew.freeze ⟨g, 0, none⟩ l.length) := Wr.drew.trans (Wr.freeze (w := w.drew) (cur := cur) (fz := fz) hg hbg _)
 have HG := Lib.hid hfr
 clear hbk hown hne hg hfz hcs htake hkeep hbg h hp hfr
 go_enter Tryz.func40, Tryz.ntmps40
 go_wp2_with fail
 go_region
 all_goals (go_wp2_with fail; go_ret; exact ⟨rfl, HK.out, HG.out⟩)
theorem liesBuilderS : liesAt Tryz.prog Tryz.prog.depth 83 (3 / Tryz.prog.cellsOf 83) 1 81 1 = true := by kernel_rfl
def BldAt (B b : Nat) (sp p : Value) (l : List UInt8) (w : World) : Prop :=
 B ≤ b ∧ ∃ v, w.heap[b]? = some (.cells #[sp, p, v] 83 (0, 0)) ∧ w.ownsRowF B 5 1 v (Lib.byteCells l).length (Lib.byteCells l) ∧ v.ownBlock ≠ some b
def BldS (B b : Nat) (sp : Value) (l : List UInt8) (w : World) : Prop := BldAt B b sp (.pointer none) l w ∨ BldAt B b sp (.pointer (some ⟨b, 1, none⟩)) l w
theorem BldAt.lt {B b : Nat} {sp p : Value} {l : List UInt8} {w : World} (h : BldAt B b sp p l w) : b < w.heap.size := by
 obtain ⟨_, v, hb, _⟩ := h
 exact (Array.getElem?_eq_some_iff.1 hb).1
theorem BldAt.keep {B b : Nat} {sp p : Value} {l : List UInt8} {w w' : World} (h : BldAt B b sp p l w) (hb : Below w.heap.size w w') : BldAt B b sp p l w' := by
 have hlt := h.lt
 obtain ⟨hB, v, h1, h2, h3⟩ := h
 exact ⟨hB, v, (hb.block b hlt).trans h1, h2.kept (row := none) ⟨hb.os, hb.tape, hb.output, hb.size, fun k hk _ => hb.block k hk⟩ (by cases hv : v.ownBlock <;> simp), h3⟩
theorem BldAt.cells {B b : Nat} {sp p : Value} {l : List UInt8} {w : World} (h : BldAt B b sp p l w) : w.cell? ⟨b, 0, none⟩ = some sp ∧ w.cell? ⟨b, 1, none⟩ = some p := by
 obtain ⟨_, v, hb, _⟩ := h
 exact ⟨by rw [Lib.cell_of_heap hb]; rfl, by rw [Lib.cell_of_heap hb]; rfl⟩
theorem BldAt.cell0 {B b : Nat} {sp p : Value} {l : List UInt8} {w : World} (h : BldAt B b sp p l w) : w.cell? ⟨b, 1, none⟩ = some p := h.cells.2
theorem BldAt.shape {B b : Nat} {sp p : Value} {l : List UInt8} {w : World} (h : BldAt B b sp p l w) : w.shape? b = some (83, 3) := by
 obtain ⟨_, v, hb, _⟩ := h
 simp [World.shape?, hb]
theorem BldAt.frozen0 {B b : Nat} {sp p : Value} {l : List UInt8} {w : World} (h : BldAt B b sp p l w) : w.frozen? ⟨b, 1, none⟩ = false := by
 obtain ⟨_, v, hb, _⟩ := h
 simp [World.frozen?, hb]
theorem BldAt.used {B b : Nat} {sp p : Value} {l : List UInt8} {w : World} (h : BldAt B b sp p l w) (q : Value) : BldAt B b sp q l (w.setCell ⟨b, 1, none⟩ q) := by
 obtain ⟨hB, v, hb, hown, hne⟩ := h
 refine ⟨hB, v, ?_, ?_, hne⟩
 ·simp [World.setCell, Array.getElem?_modify, hb]
 ·exact hown.kept (row := some b) ⟨rfl, rfl, rfl, by simp [World.setCell], fun k _ hk => Below.heap_setCell _ _ _ _ (fun e => hk (by simp [e]))⟩ (Or.inr hne)
theorem BldAt.put {B b : Nat} {sp p v v' : Value} {l' : List UInt8} {w : World} (hB : B ≤ b) (hb : w.heap[b]? = some (.cells #[sp, p, v] 83 (0, 0))) (hown : w.ownsRowF B 5 1 v' (Lib.byteCells l').length (Lib.byteCells l')) :
  BldAt B b sp p l' (w.setCell ⟨b, 2, none⟩ v') := by
 have hne := Lib.ownBlock_neF hown hb (by decide)
 refine ⟨hB, v', ?_, ?_, hne⟩
 ·simp [World.setCell, Array.getElem?_modify, hb]
 ·exact hown.kept (row := some b) ⟨rfl, rfl, rfl, by simp [World.setCell], fun k _ hk => Below.heap_setCell _ _ _ _ (fun e => hk (by simp [e]))⟩ (Or.inr hne)
theorem BldAt.froze {B b g cap : Nat} {sp p : Value} {l : List UInt8} {w : World} (h : BldAt B b sp p l w) (hc : w.cell? ⟨b, 2, none⟩ = some (.slice (some ⟨g, 0, none⟩) (Lib.byteCells l).length cap)) :
  BldAt B b sp p l (w.freeze ⟨g, 0, none⟩ (Lib.byteCells l).length) := by
 obtain ⟨hB, v, hb, hown, hne⟩ := h
 have hv : v = .slice (some ⟨g, 0, none⟩) (Lib.byteCells l).length cap := by
  rw [Lib.cell_of_heap hb] at hc
  simpa using hc
 subst hv
 have hgb : g ≠ b := fun e => hne (by simp [Value.ownBlock, e])
 unfold World.freeze
 split
 ·exact ⟨hB, _, hb, hown, hne⟩
 ·rename_i hn0
  refine ⟨hB, _, ?_, ⟨hown.1, ?_⟩, hne⟩
  ·simp only [Array.getElem?_modify]
   rw [if_neg hgb]
   exact hb
  ·rcases hown.2 with ⟨hv, _⟩ | ⟨g', cap', cur, fz, hv, hbg, hg, hfz, rest⟩
   ·cases hv
   ·injection hv with ha _ hcap
    injection ha with ha
    injection ha with hgg _ _
    subst hgg
    subst hcap
    obtain ⟨lo, hi⟩ := fz
    refine .inr ⟨g, _, cur, (if lo == hi then (0, 0 + (Lib.byteCells l).length) else (min lo 0, max hi (0 + (Lib.byteCells l).length))), rfl, hbg, ?_, ?_, rest⟩
    ·simp [Array.getElem?_modify, hg]
    ·simp only at hfz
     split <;> simp <;> omega
theorem BldS.keep {B b : Nat} {sp : Value} {l : List UInt8} {w w' : World} (h : BldS B b sp l w) (hb : Below w.heap.size w w') : BldS B b sp l w' := h.elim (fun h => .inl (h.keep hb)) (fun h => .inr (h.keep hb))
theorem BldS.lt {B b : Nat} {sp : Value} {l : List UInt8} {w : World} (h : BldS B b sp l w) : b < w.heap.size := h.elim (·.lt) (·.lt)
theorem BldS.ge {B b : Nat} {sp : Value} {l : List UInt8} {w : World} (h : BldS B b sp l w) : B ≤ b := h.elim (·.1) (·.1)
theorem BldS.cell {B b : Nat} {sp : Value} {l : List UInt8} {w : World} (h : BldS B b sp l w) : w.cell? ⟨b, 0, none⟩ = some sp := h.elim (·.cells.1) (·.cells.1)
set_option maxRecDepth 100000 in
set_option maxHeartbeats 1000000 in
theorem copycheck_usedS (b : Nat) (w : World) (h0 : w.cell? ⟨b, 1, none⟩ = some (.pointer (some ⟨b, 1, none⟩))) :
  Calls Tryz.prog 71 #[.pointer (some ⟨b, 1, none⟩)] w fun e w' => e = .returned (.tuple #[]) ∧ w' = w := by
 obtain ⟨j, hj, _⟩ := Option.map_eq_some_iff.1 sizeBuilder
 go_enter Tryz.func71, Tryz.ntmps71
 go_wp2
 rw [Lib.run_neq_ptr_same w _ Tryz.underlying78 hj]
 go_wp2
 go_end0
 exact ⟨rfl, rfl⟩
set_option maxRecDepth 100000 in
set_option maxHeartbeats 1000000 in
theorem copycheck_freshS (b : Nat) (w : World) (h0 : w.cell? ⟨b, 1, none⟩ = some (.pointer none)) (hsh : w.shape? b = some (83, 3)) (hfz : w.frozen? ⟨b, 1, none⟩ = false) :
  Calls Tryz.prog 71 #[.pointer (some ⟨b, 1, none⟩)] w fun e w' => e = .returned (.tuple #[]) ∧ w' = w.setCell ⟨b, 1, none⟩ (.pointer (some ⟨b, 1, none⟩)) := by
 obtain ⟨j, hj, hjs⟩ := Option.map_eq_some_iff.1 sizeBuilder
 go_enter Tryz.func71, Tryz.ntmps71
 go_wp2
 rw [Lib.run_to_unsafe w ⟨b, 1, none⟩ Tryz.underlying78 Tryz.underlying152 hj (by rw [hjs]; decide) hsh (Nat.succ_lt_succ (Nat.zero_lt_succ 1))]
 simp only [Result.andThen]
 rw [Oper.upon_value]
 go_wp2
 rw [run_callFunc_extern Tryz.func98 (by kernel_rfl) (by kernel_rfl) (by kernel_rfl) (e := Extern.AbiNoEscape.same) (by kernel_rfl)]
 rw [Lib.run_noEscape]
 simp only [Result.andThen]
 rw [Oper.upon_value]
 go_wp2
 rw [Lib.run_from_unsafe w ⟨b, 1, none⟩ Tryz.underlying152 Tryz.underlying78 hj hsh liesBuilderS]
 simp only [Result.andThen]
 rw [Oper.upon_value]
 go_wp2
 go_end0
 exact ⟨rfl, rfl⟩
theorem copycheck_anyS (B b : Nat) (sp : Value) (l : List UInt8) (w : World) (h : BldS B b sp l w) :
  Calls Tryz.prog 71 #[.pointer (some ⟨b, 1, none⟩)] w fun e w' => e = .returned (.tuple #[]) ∧ BldAt B b sp (.pointer (some ⟨b, 1, none⟩)) l w' ∧ Wr B b w w' := by
 rcases h with h | h
 ·refine (copycheck_freshS b w h.cell0 h.shape h.frozen0).mono ?_
  rintro e w' ⟨rfl, rfl⟩
  exact ⟨rfl, h.used _, Wr.set h.1 1 _⟩
 ·refine (copycheck_usedS b w h.cell0).mono ?_
  rintro e w' ⟨rfl, rfl⟩
  exact ⟨rfl, h, Wr.refl B b _⟩
set_option maxRecDepth 100000 in
set_option maxHeartbeats 2000000 in
theorem writestring_anyS (B b : Nat) (sp : Value) (l : List UInt8) (s : ByteArray) (w : World) (h : BldS B b sp l w) (hlen : l.length + s.size ≤ 140737488355328) (hBw : B ≤ w.heap.size) :
  Calls Tryz.prog 39 #[.pointer (some ⟨b, 1, none⟩), .string s] w fun e w' => e = .returned (.tuple #[.int .i64 s.size, .nilIface]) ∧ BldS B b sp (l ++ s.data.toList) w' ∧ Wr B b w w' := by
 obtain ⟨i0, hi, hz0, hz1, hz2⟩ := info_parts infoByte
 have HB0 := Lib.hid h
 clear h
 go_enter Tryz.func39, Tryz.ntmps39
 go_wp2_with fail
 refine (copycheck_anyS B b sp l _ HB0.out).mono ?_
 rintro e w1 ⟨rfl, h1, hb1⟩
 obtain ⟨hB, v, hbk, hown, hne⟩ := h1
 have c0 : w1.cell? ⟨b, 1, none⟩ = some (.pointer (some ⟨b, 1, none⟩)) := by rw [Lib.cell_of_heap hbk]; rfl
 have c1 : w1.cell? ⟨b, 2, none⟩ = some v := by rw [Lib.cell_of_heap hbk]; rfl
 rw [Lib.byteCells_length] at hown
 go_wp2_with (at_builtin; refine Lib.wpList_append_own_stringF _ rfl _ _ 79 9 rfl B 5 i0 Tryz.underlying79 Tryz.underlying9 hi hz0 hz1 hz2 _ _ _ rfl hown s rfl ?c3 ?c4 ?c5 ?_)
 case c3 => unfold maxLen; omega
 case c4 => omega
 case c5 => have := hb1.below.size; omega
 intro v' w2 hown' hgrow _
 have hlt : b < w1.heap.size := (Array.getElem?_eq_some_iff.1 hbk).1
 have hb2 : w2.heap[b]? = some (.cells #[sp, .pointer (some ⟨b, 1, none⟩), v] 83 (0, 0)) := by
  rw [hgrow.block b hlt (fun e => hne e.symm)]
  exact hbk
 have d0 : w2.cell? ⟨b, 1, none⟩ = some (.pointer (some ⟨b, 1, none⟩)) := by rw [Lib.cell_of_heap hb2]; rfl
 have d1 : w2.cell? ⟨b, 2, none⟩ = some v := by rw [Lib.cell_of_heap hb2]; rfl
 have f1 : w2.frozen? ⟨b, 2, none⟩ = false := Lib.frozen_of_heap hb2 2
 obtain ⟨ao, n', cap, rfl⟩ : ∃ ao n' cap, v' = .slice ao n' cap := by
  rcases hown'.2 with ⟨hv, _⟩ | ⟨g, cap, cur, fz, hv, _⟩
  ·exact ⟨_, _, _, hv⟩
  ·exact ⟨_, _, _, hv⟩
 go_wp2_with fail
 go_ret2
 refine ⟨rfl, .inr ?_, ?_⟩
 ·exact BldAt.put hB hb2 (l' := l ++ s.data.toList) (by rw [Lib.byteCells_append, List.length_append, Lib.byteCells_length, Lib.byteCells_length, Array.length_toList]; exact hown')
 ·exact (hb1.trans (Wr.grown hown hgrow (by have := hb1.below.size; omega))).trans (Wr.set hB 2 _)
set_option maxRecDepth 100000 in
set_option maxHeartbeats 2000000 in
theorem writebyte_anyS (B b : Nat) (sp : Value) (l : List UInt8) (c : UInt8) (v0 : Int) (w : World) (hv0 : v0 = (c.toNat : Int)) (h : BldS B b sp l w) (hlen : l.length + 1 ≤ 140737488355328) (hBw : B ≤ w.heap.size) :
  Calls Tryz.prog 38 #[.pointer (some ⟨b, 1, none⟩), .int .u8 v0] w fun e w' => e = .returned .nilIface ∧ BldS B b sp (l ++ [c]) w' ∧ Wr B b w w' := by
 obtain ⟨i0, hi, hz0, hz1, hz2⟩ := info_parts infoByte
 have HB0 := Lib.hid h
 have HV0 := Lib.hid hv0
 clear h hv0
 go_enter Tryz.func38, Tryz.ntmps38
 go_wp2_with fail
 refine (copycheck_anyS B b sp l _ HB0.out).mono ?_
 rintro e w1 ⟨rfl, h1, hb1⟩
 obtain ⟨hB, v, hbk, hown, hne⟩ := h1
 have c0 : w1.cell? ⟨b, 1, none⟩ = some (.pointer (some ⟨b, 1, none⟩)) := by rw [Lib.cell_of_heap hbk]; rfl
 have c1 : w1.cell? ⟨b, 2, none⟩ = some v := by rw [Lib.cell_of_heap hbk]; rfl
 rw [Lib.byteCells_length] at hown
 have hlt : b < w1.heap.size := (Array.getElem?_eq_some_iff.1 hbk).1
 go_wp2_with (at_builtin; refine wpList_append_ownF _ rfl _ _ 79 rfl B 5 i0 (.int .u8 0) 1 1 Tryz.underlying79 hi hz0 hz1 hz2 rfl (by decide) v _ _ rfl (hown.alloc _) ⟨w1.heap.size, 0, .none⟩ 1 1 [.int .u8 v0] rfl rfl (new_one w1 _ _) ?c2 ?c3 ?c4 ?c5 ?_)
 case c2 => intro u hu; simp at hu; subst hu; rfl
 case c3 => unfold maxLen; omega
 case c4 => omega
 case c5 => have := hb1.below.size; simp; omega
 intro v' w2 hown' hgrow _
 have hb2 : w2.heap[b]? = some (.cells #[sp, .pointer (some ⟨b, 1, none⟩), v] 83 (0, 0)) := by
  rw [hgrow.block b (by simp; omega) (fun e => hne e.symm)]
  exact (Below.heap_alloc w1 _ b hlt).trans hbk
 have d0 : w2.cell? ⟨b, 1, none⟩ = some (.pointer (some ⟨b, 1, none⟩)) := by rw [Lib.cell_of_heap hb2]; rfl
 have d1 : w2.cell? ⟨b, 2, none⟩ = some v := by rw [Lib.cell_of_heap hb2]; rfl
 have f1 : w2.frozen? ⟨b, 2, none⟩ = false := Lib.frozen_of_heap hb2 2
 obtain ⟨ao, n', cap, rfl⟩ : ∃ ao n' cap, v' = .slice ao n' cap := by
  rcases hown'.2 with ⟨hv, _⟩ | ⟨g, cap, cur, fz, hv, _⟩
  ·exact ⟨_, _, _, hv⟩
  ·exact ⟨_, _, _, hv⟩
 go_wp2_with fail
 go_ret
 refine ⟨rfl, .inr ?_, ?_⟩
 ·exact BldAt.put hB hb2 (l' := l ++ [c]) (by
   rw [Lib.byteCells_append, List.length_append, Lib.byteCells_length, Lib.byteCells_length]
   rw [HV0.out] at hown'
   exact hown')
 ·exact ((hb1.trans (Wr.of_below ((Below.refl _ _).alloc (Nat.le_refl _) _) (by have := hb1.below.size; omega))).trans (Wr.grown (hown.alloc _) hgrow (by have := hb1.below.size; simp; omega))).trans (Wr.set hB 2 _)
set_option maxRecDepth 100000 in
set_option maxHeartbeats 2000000 in
theorem string_anyS (B b : Nat) (sp : Value) (l : List UInt8) (w : World) (h : BldS B b sp l w) (h0 : l ≠ []) :
  Calls Tryz.prog 40 #[.pointer (some ⟨b, 1, none⟩)] w fun e w' => e = .returned (.string ⟨l.toArray⟩) ∧ BldS B b sp l w' ∧ Wr B b w w' := by
 obtain ⟨p, hp, hAt⟩ : ∃ p, (p = .pointer none ∨ p = .pointer (some ⟨b, 1, none⟩)) ∧ BldAt B b sp p l w := by
  rcases h with h | h
  ·exact ⟨_, .inl rfl, h⟩
  ·exact ⟨_, .inr rfl, h⟩
 obtain ⟨hB, v, hbk, hown, hne⟩ := hAt
 have hl0 : l.length ≠ 0 := by simpa using h0
 rw [Lib.byteCells_length] at hown
 obtain ⟨g, cap, cur, fz, rfl, hbg, hg, hfz, hnc, hcm, hcs, htake⟩ : ∃ g cap cur fz, v = .slice (some ⟨g, 0, none⟩) l.length cap ∧ B ≤ g ∧ w.heap[g]? = some (.cells cur 5 fz) ∧ fz.2 ≤ l.length * 1 ∧ l.length ≤ cap ∧ cap ≤ maxLen ∧ cur.size = cap * 1 ∧ cur.toList.take (l.length * 1) = Lib.byteCells l := by
  rcases hown.2 with ⟨_, hz⟩ | ⟨g, cap, cur, fz, hv, r⟩
  ·exact absurd hz hl0
  ·exact ⟨g, cap, cur, fz, hv, r⟩
 have c1 : w.cell? ⟨b, 2, none⟩ = some (.slice (some ⟨g, 0, none⟩) l.length cap) := by
  rw [Lib.cell_of_heap hbk]; rfl
 have hSD : ∀ W, (Builtin.unsafeSliceData_ #[79] 123 #[.slice (some ⟨g, 0, none⟩) l.length cap]).run Tryz.prog W = .ok (.pointer (some ⟨g, 0, none⟩)) W :=
  fun W => Lib.run_unsafeSliceData_row _ _ _ _ _ _ (by omega)
 have hUS : (Builtin.unsafeString_ #[123, 3] 9 #[.pointer (some ⟨g, 0, none⟩), .int .i64 l.length]).run Tryz.prog w.drew = .ok (.string ⟨l.toArray⟩) (w.drew.freeze ⟨g, 0, none⟩ l.length) := by
  refine Lib.run_unsafeString_row w.drew 123 3 9 5 Tryz.underlying123 (by kernel_rfl) g cur.size (by have hg' : w.drew.heap[g]? = some (.cells cur 5 fz) := hg; simp [World.shape?, hg']) l h0 (by omega) (by unfold maxLen at hcm; omega) ?_
  intro j x hx
  exact hown.cells (g := g) rfl j (.int .u8 x.toNat) (by simp [Lib.byteCells, hx])
 have hkeep : BldS B b sp l (w.drew.freeze ⟨g, 0, none⟩ l.length) := by
  have hA : BldAt B b sp p l w.drew := ⟨hB, _, hbk, by rw [Lib.byteCells_length]; exact hown, hne⟩
  have hF := hA.froze (g := g) (cap := cap) (by rw [Lib.byteCells_length]; exact c1)
  rw [Lib.byteCells_length] at hF
  rcases hp with rfl | rfl
  ·exact .inl hF
  ·exact .inr hF
 have HK := Lib.hid hkeep
 have hfr : Wr B b w (w.drew.freeze ⟨g, 0, none⟩ l.length) := Wr.drew.trans (Wr.freeze (w := w.drew) (cur := cur) (fz := fz) hg hbg _)
 have HG := Lib.hid hfr
 clear hbk hown hne hg hfz hcs htake hkeep hbg h hp hfr
 go_enter Tryz.func40, Tryz.ntmps40
 go_wp2_with fail
 go_region
 all_goals (go_wp2_with fail; go_ret; exact ⟨rfl, HK.out, HG.out⟩)
end Go.Proofs.YtkflaifopbodfaaGreatDoor
