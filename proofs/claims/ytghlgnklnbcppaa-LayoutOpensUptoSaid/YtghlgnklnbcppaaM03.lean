/- Parts of the proof, side by side: LaBuild, LaNum, FsMay. -/
import Derived.Test.YtghlgnklnbcppaaM02
import Derived.Lib.Builder
import Derived.Lib.FrozenHead2
import Derived.Lib.UnsafeStr
import Derived.Shelf.RegionOpenPlain
import Derived.Laws.BitsAllLaws
import Derived.RegionTactic
import Derived.Test.YtghlgnklnbcppaaM01
set_option linter.unusedVariables false
set_option linter.unusedSimpArgs false
set_option linter.unusedVariables false
set_option linter.unusedSimpArgs false
namespace Go.Proofs.Ytghlgnklnbcppaa
open Go.RowKit
theorem infoByte : (Try.prog.info? 5).map (fun i => (i.zero, i.size, i.bytes)) = some (some (.int .u8 0), 1, 1) := by kernel_rfl
theorem sizeBuilder : (Try.prog.info? 61).map (fun i => i.size) = some 2 := by kernel_rfl
theorem liesBuilder : liesAt Try.prog Try.prog.depth 63 (2 / Try.prog.cellsOf 63) 0 61 1 = true := by kernel_rfl
def Bld (B b : Nat) (l : List UInt8) (w : World) : Prop := Lib.IsBuilderF 63 5 B b (Lib.byteCells l) w
theorem Bld.keep {B b : Nat} {l : List UInt8} {w w' : World} (h : Bld B b l w) (hb : Below w.heap.size w w') : Bld B b l w' := by
 have key : ∀ p, Lib.BuilderAtF 63 5 B b p (Lib.byteCells l) w → Lib.BuilderAtF 63 5 B b p (Lib.byteCells l) w' := by
  intro p hp
  have hlt := hp.lt
  obtain ⟨hB, v, h1, h2, h3⟩ := hp
  exact ⟨hB, v, (hb.block b hlt).trans h1, h2.kept (row := none) ⟨hb.os, hb.tape, hb.output, hb.size, fun k hk _ => hb.block k hk⟩ (by cases hv : v.ownBlock <;> simp), h3⟩
 rcases h with h | h
 ·exact .inl (key _ h)
 ·exact .inr (key _ h)
theorem Bld.lt {B b : Nat} {l : List UInt8} {w : World} (h : Bld B b l w) : b < w.heap.size := by
 rcases h with h | h
 ·exact h.lt
 ·exact h.lt
structure Wr (B b : Nat) (w w' : World) : Prop where
 below : Below B w w'
 keep : ∀ k o, w.heap[k]? = some o → k ≠ b → (∀ cs fr, o ≠ .cells cs 5 fr) → w'.heap[k]? = some o
theorem Wr.refl (B b : Nat) (w : World) : Wr B b w w := ⟨Below.refl _ _, fun _ _ h _ _ => h⟩
theorem Wr.trans {B b : Nat} {w w' w'' : World} (h : Wr B b w w') (h' : Wr B b w' w'') : Wr B b w w'' := ⟨h.below.trans h'.below, fun k o h1 h2 h3 => h'.keep k o (h.keep k o h1 h2 h3) h2 h3⟩
theorem Wr.of_below {B b : Nat} {w w' : World} (h : Below w.heap.size w w') (hB : B ≤ w.heap.size) : Wr B b w w' := ⟨h.mono hB, fun k o h1 _ _ => (h.block k (Array.getElem?_eq_some_iff.1 h1).1).trans h1⟩
theorem Wr.drew {B b : Nat} {w : World} : Wr B b w w.drew := ⟨Below.drew (Below.refl _ _), fun _ _ h _ _ => h⟩
theorem Wr.set {B b : Nat} {w : World} (hB : B ≤ b) (o : Nat) (v : Value) : Wr B b w (w.setCell ⟨b, o, .none⟩ v) :=
 ⟨(Below.refl _ _).setCell (p := ⟨b, o, .none⟩) hB v, fun k x h1 h2 _ => (Below.heap_setCell w ⟨b, o, .none⟩ v k h2).trans h1⟩
theorem Wr.grown {B b n : Nat} {v : Value} {xs : List Value} {w w' : World} (hown : w.ownsRowF B 5 1 v n xs) (hg : w.grownBy w' v.ownBlock) (hBw : B ≤ w.heap.size) : Wr B b w w' := by
 refine ⟨(Below.refl _ _).grown hg hBw (fun k hk => (hown.lt k hk).1), fun k o h1 _ h3 => (hg.block k (Array.getElem?_eq_some_iff.1 h1).1 ?_).trans h1⟩
 intro e
 rcases hown.2 with ⟨rfl, _⟩ | ⟨g, cap, cur, fz, rfl, _, hh, _⟩
 ·cases e
 ·have : k = g := by simpa [Value.ownBlock] using e
  subst this
  rw [hh] at h1
  exact h3 cur fz (Option.some.inj h1).symm
theorem Wr.freeze {B b g : Nat} {cur : Array Value} {fz : Nat × Nat} {w : World} (hg : w.heap[g]? = some (.cells cur 5 fz)) (hB : B ≤ g) (n : Nat) : Wr B b w (w.freeze ⟨g, 0, .none⟩ n) := by
 refine ⟨Lib.below_freeze (Below.refl B w) (p := ⟨g, 0, none⟩) hB n, fun k o h1 _ h3 => ?_⟩
 have hk : k ≠ g := by
  intro e
  subst e
  rw [hg] at h1
  exact h3 cur fz (Option.some.inj h1).symm
 have h5 := Lib.below_freeze (B := k + 1) (Below.refl (k + 1) w) (p := ⟨g, 0, none⟩)
 unfold World.freeze
 split
 ·exact h1
 ·simp only [Array.getElem?_modify]
  rw [if_neg (fun e => hk e.symm)]
  exact h1
set_option maxRecDepth 100000 in
set_option maxHeartbeats 1000000 in
theorem copycheck_used (b : Nat) (w : World) (h0 : w.cell? ⟨b, 0, none⟩ = some (.pointer (some ⟨b, 0, none⟩))) :
  Calls Try.prog 56 #[.pointer (some ⟨b, 0, none⟩)] w fun e w' => e = .returned (.tuple #[]) ∧ w' = w := by
 obtain ⟨j, hj, _⟩ := Option.map_eq_some_iff.1 sizeBuilder
 go_enter Try.func56, Try.ntmps56
 go_wp2
 rw [Lib.run_neq_ptr_same w _ Try.underlying58 hj]
 go_wp2
 go_end0
 exact ⟨rfl, rfl⟩
set_option maxRecDepth 100000 in
set_option maxHeartbeats 1000000 in
theorem copycheck_fresh (b : Nat) (w : World) (h0 : w.cell? ⟨b, 0, none⟩ = some (.pointer none)) (hsh : w.shape? b = some (63, 2)) (hfz : w.frozen? ⟨b, 0, none⟩ = false) :
  Calls Try.prog 56 #[.pointer (some ⟨b, 0, none⟩)] w fun e w' => e = .returned (.tuple #[]) ∧ w' = w.setCell ⟨b, 0, none⟩ (.pointer (some ⟨b, 0, none⟩)) := by
 obtain ⟨j, hj, hjs⟩ := Option.map_eq_some_iff.1 sizeBuilder
 go_enter Try.func56, Try.ntmps56
 go_wp2
 rw [Lib.run_to_unsafe w ⟨b, 0, none⟩ Try.underlying58 Try.underlying141 hj (by rw [hjs]; decide) hsh (Nat.zero_lt_succ 1)]
 simp only [Result.andThen]
 rw [Oper.upon_value]
 go_wp2
 rw [run_callFunc_extern Try.func96 (by kernel_rfl) (by kernel_rfl) (by kernel_rfl) (e := Extern.AbiNoEscape.same) (by kernel_rfl)]
 rw [Lib.run_noEscape]
 simp only [Result.andThen]
 rw [Oper.upon_value]
 go_wp2
 rw [Lib.run_from_unsafe w ⟨b, 0, none⟩ Try.underlying141 Try.underlying58 hj hsh liesBuilder]
 simp only [Result.andThen]
 rw [Oper.upon_value]
 go_wp2
 go_end0
 exact ⟨rfl, rfl⟩
theorem copycheck_any (B b : Nat) (l : List UInt8) (w : World) (h : Bld B b l w) :
  Calls Try.prog 56 #[.pointer (some ⟨b, 0, none⟩)] w fun e w' => e = .returned (.tuple #[]) ∧ Lib.BuilderAtF 63 5 B b (.pointer (some ⟨b, 0, none⟩)) (Lib.byteCells l) w' ∧ Wr B b w w' := by
 rcases h with h | h
 ·refine (copycheck_fresh b w h.cell0 h.shape h.frozen0).mono ?_
  rintro e w' ⟨rfl, rfl⟩
  exact ⟨rfl, h.used _, Wr.set h.1 0 _⟩
 ·refine (copycheck_used b w h.cell0).mono ?_
  rintro e w' ⟨rfl, rfl⟩
  exact ⟨rfl, h, Wr.refl B b _⟩
set_option maxRecDepth 100000 in
set_option maxHeartbeats 2000000 in
theorem writestring_any (B b : Nat) (l : List UInt8) (s : ByteArray) (w : World) (h : Bld B b l w) (hlen : l.length + s.size ≤ 140737488355328) (hBw : B ≤ w.heap.size) :
  Calls Try.prog 23 #[.pointer (some ⟨b, 0, none⟩), .string s] w fun e w' => e = .returned (.tuple #[.int .i64 s.size, .nilIface]) ∧ Bld B b (l ++ s.data.toList) w' ∧ Wr B b w w' := by
 obtain ⟨i0, hi, hz0, hz1, hz2⟩ := info_parts infoByte
 have HB0 := Lib.hid h
 clear h
 go_enter Try.func23, Try.ntmps23
 go_wp2_with fail
 refine (copycheck_any B b l _ HB0.out).mono ?_
 rintro e w1 ⟨rfl, h1, hb1⟩
 obtain ⟨hB, v, hbk, hown, hne⟩ := h1
 have c0 : w1.cell? ⟨b, 0, none⟩ = some (.pointer (some ⟨b, 0, none⟩)) := by rw [Lib.cell_of_heap hbk]; rfl
 have c1 : w1.cell? ⟨b, 1, none⟩ = some v := by rw [Lib.cell_of_heap hbk]; rfl
 rw [Lib.byteCells_length] at hown
 go_wp2_with (at_builtin; refine Lib.wpList_append_own_stringF _ rfl _ _ 59 9 rfl B 5 i0 Try.underlying59 Try.underlying9 hi hz0 hz1 hz2 _ _ _ rfl hown s rfl ?c3 ?c4 ?c5 ?_)
 case c3 => unfold maxLen; omega
 case c4 => omega
 case c5 => have := hb1.below.size; omega
 intro v' w2 hown' hgrow _
 have hlt : b < w1.heap.size := (Array.getElem?_eq_some_iff.1 hbk).1
 have hb2 : w2.heap[b]? = some (.cells #[.pointer (some ⟨b, 0, none⟩), v] 63 (0, 0)) := by
  rw [hgrow.block b hlt (fun e => hne e.symm)]
  exact hbk
 have d0 : w2.cell? ⟨b, 0, none⟩ = some (.pointer (some ⟨b, 0, none⟩)) := by rw [Lib.cell_of_heap hb2]; rfl
 have d1 : w2.cell? ⟨b, 1, none⟩ = some v := by rw [Lib.cell_of_heap hb2]; rfl
 have f1 : w2.frozen? ⟨b, 1, none⟩ = false := Lib.frozen_of_heap hb2 1
 obtain ⟨ao, n', cap, rfl⟩ : ∃ ao n' cap, v' = .slice ao n' cap := by
  rcases hown'.2 with ⟨hv, _⟩ | ⟨g, cap, cur, fz, hv, _⟩
  ·exact ⟨_, _, _, hv⟩
  ·exact ⟨_, _, _, hv⟩
 go_wp2_with fail
 go_ret2
 refine ⟨rfl, .inr ?_, ?_⟩
 ·exact Lib.BuilderAtF.put (T := 63) (e := 5) hB hb2 (bs' := Lib.byteCells (l ++ s.data.toList)) (by rw [Lib.byteCells_append, List.length_append, Lib.byteCells_length, Lib.byteCells_length, Array.length_toList]; exact hown') (by decide)
 ·exact (hb1.trans (Wr.grown hown hgrow (by have := hb1.below.size; omega))).trans (Wr.set hB 1 _)
set_option maxRecDepth 100000 in
set_option maxHeartbeats 2000000 in
theorem writebyte_any (B b : Nat) (l : List UInt8) (c : UInt8) (v0 : Int) (w : World) (hv0 : v0 = (c.toNat : Int)) (h : Bld B b l w) (hlen : l.length + 1 ≤ 140737488355328) (hBw : B ≤ w.heap.size) :
  Calls Try.prog 32 #[.pointer (some ⟨b, 0, none⟩), .int .u8 v0] w fun e w' => e = .returned .nilIface ∧ Bld B b (l ++ [c]) w' ∧ Wr B b w w' := by
 obtain ⟨i0, hi, hz0, hz1, hz2⟩ := info_parts infoByte
 have HB0 := Lib.hid h
 have HV0 := Lib.hid hv0
 clear h hv0
 go_enter Try.func32, Try.ntmps32
 go_wp2_with fail
 refine (copycheck_any B b l _ HB0.out).mono ?_
 rintro e w1 ⟨rfl, h1, hb1⟩
 obtain ⟨hB, v, hbk, hown, hne⟩ := h1
 have c0 : w1.cell? ⟨b, 0, none⟩ = some (.pointer (some ⟨b, 0, none⟩)) := by rw [Lib.cell_of_heap hbk]; rfl
 have c1 : w1.cell? ⟨b, 1, none⟩ = some v := by rw [Lib.cell_of_heap hbk]; rfl
 rw [Lib.byteCells_length] at hown
 have hlt : b < w1.heap.size := (Array.getElem?_eq_some_iff.1 hbk).1
 go_wp2_with (at_builtin; refine wpList_append_ownF _ rfl _ _ 59 rfl B 5 i0 (.int .u8 0) 1 1 Try.underlying59 hi hz0 hz1 hz2 rfl (by decide) v _ _ rfl (hown.alloc _) ⟨w1.heap.size, 0, .none⟩ 1 1 [.int .u8 v0] rfl rfl (new_one w1 _ _) ?c2 ?c3 ?c4 ?c5 ?_)
 case c2 => intro u hu; simp at hu; subst hu; rfl
 case c3 => unfold maxLen; omega
 case c4 => omega
 case c5 => have := hb1.below.size; simp; omega
 intro v' w2 hown' hgrow _
 have hb2 : w2.heap[b]? = some (.cells #[.pointer (some ⟨b, 0, none⟩), v] 63 (0, 0)) := by
  rw [hgrow.block b (by simp; omega) (fun e => hne e.symm)]
  exact (Below.heap_alloc w1 _ b hlt).trans hbk
 have d0 : w2.cell? ⟨b, 0, none⟩ = some (.pointer (some ⟨b, 0, none⟩)) := by rw [Lib.cell_of_heap hb2]; rfl
 have d1 : w2.cell? ⟨b, 1, none⟩ = some v := by rw [Lib.cell_of_heap hb2]; rfl
 have f1 : w2.frozen? ⟨b, 1, none⟩ = false := Lib.frozen_of_heap hb2 1
 obtain ⟨ao, n', cap, rfl⟩ : ∃ ao n' cap, v' = .slice ao n' cap := by
  rcases hown'.2 with ⟨hv, _⟩ | ⟨g, cap, cur, fz, hv, _⟩
  ·exact ⟨_, _, _, hv⟩
  ·exact ⟨_, _, _, hv⟩
 go_wp2_with fail
 go_ret
 refine ⟨rfl, .inr ?_, ?_⟩
 ·exact Lib.BuilderAtF.put (T := 63) (e := 5) hB hb2 (bs' := Lib.byteCells (l ++ [c])) (by
   rw [Lib.byteCells_append, List.length_append, Lib.byteCells_length, Lib.byteCells_length]
   rw [HV0.out] at hown'
   exact hown') (by decide)
 ·exact ((hb1.trans (Wr.of_below ((Below.refl _ _).alloc (Nat.le_refl _) _) (by have := hb1.below.size; omega))).trans (Wr.grown (hown.alloc _) hgrow (by have := hb1.below.size; simp; omega))).trans (Wr.set hB 1 _)
end Go.Proofs.Ytghlgnklnbcppaa

set_option linter.unusedVariables false
set_option linter.unusedSimpArgs false
namespace Go.Proofs.Ytghlgnklnbcppaa
open Go.RowKit
set_option maxRecDepth 100000 in
set_option maxHeartbeats 2000000 in
theorem string_any (B b : Nat) (l : List UInt8) (w : World) (h : Bld B b l w) (h0 : l ≠ []) :
  Calls Try.prog 31 #[.pointer (some ⟨b, 0, none⟩)] w fun e w' => e = .returned (.string ⟨l.toArray⟩) ∧ Bld B b l w' ∧ Wr B b w w' := by
 obtain ⟨p, hp, hAt⟩ : ∃ p, (p = .pointer none ∨ p = .pointer (some ⟨b, 0, none⟩)) ∧ Lib.BuilderAtF 63 5 B b p (Lib.byteCells l) w := by
  rcases h with h | h
  ·exact ⟨_, .inl rfl, h⟩
  ·exact ⟨_, .inr rfl, h⟩
 obtain ⟨hB, v, hbk, hown, hne⟩ := hAt
 have hl0 : l.length ≠ 0 := by simpa using h0
 rw [Lib.byteCells_length] at hown
 obtain ⟨g, cap, cur, fz, rfl, hbg, hg, hfz, hnc, hcm, hcs, htake⟩ : ∃ g cap cur fz, v = .slice (some ⟨g, 0, none⟩) l.length cap ∧ B ≤ g ∧ w.heap[g]? = some (.cells cur 5 fz) ∧ fz.2 ≤ l.length * 1 ∧ l.length ≤ cap ∧ cap ≤ maxLen ∧ cur.size = cap * 1 ∧ cur.toList.take (l.length * 1) = Lib.byteCells l := by
  rcases hown.2 with ⟨_, hz⟩ | ⟨g, cap, cur, fz, hv, r⟩
  ·exact absurd hz hl0
  ·exact ⟨g, cap, cur, fz, hv, r⟩
 have c1 : w.cell? ⟨b, 1, none⟩ = some (.slice (some ⟨g, 0, none⟩) l.length cap) := by
  rw [Lib.cell_of_heap hbk]; rfl
 have hSD : ∀ W, (Builtin.unsafeSliceData_ #[59] 113 #[.slice (some ⟨g, 0, none⟩) l.length cap]).run Try.prog W = .ok (.pointer (some ⟨g, 0, none⟩)) W :=
  fun W => Lib.run_unsafeSliceData_row _ _ _ _ _ _ (by omega)
 have hUS : (Builtin.unsafeString_ #[113, 3] 9 #[.pointer (some ⟨g, 0, none⟩), .int .i64 l.length]).run Try.prog w.drew = .ok (.string ⟨l.toArray⟩) (w.drew.freeze ⟨g, 0, none⟩ l.length) := by
  refine Lib.run_unsafeString_row w.drew 113 3 9 5 Try.underlying113 (by kernel_rfl) g cur.size (by have hg' : w.drew.heap[g]? = some (.cells cur 5 fz) := hg; simp [World.shape?, hg']) l h0 (by omega) (by unfold maxLen at hcm; omega) ?_
  intro j x hx
  exact hown.cells (g := g) rfl j (.int .u8 x.toNat) (by simp [Lib.byteCells, hx])
 have hkeep : Bld B b l (w.drew.freeze ⟨g, 0, none⟩ l.length) := by
  have hA : Lib.BuilderAtF 63 5 B b p (Lib.byteCells l) w.drew := ⟨hB, _, hbk, by rw [Lib.byteCells_length]; exact hown, hne⟩
  have hF := hA.froze (g := g) (cap := cap) (by rw [Lib.byteCells_length]; exact c1)
  rw [Lib.byteCells_length] at hF
  rcases hp with rfl | rfl
  ·exact .inl hF
  ·exact .inr hF
 have HK := Lib.hid hkeep
 have hfr : Wr B b w (w.drew.freeze ⟨g, 0, none⟩ l.length) := Wr.drew.trans (Wr.freeze (w := w.drew) (cur := cur) (fz := fz) hg hbg _)
 have HG := Lib.hid hfr
 clear hbk hown hne hg hfz hcs htake hkeep hbg h hp hfr
 go_enter Try.func31, Try.ntmps31
 go_wp2_with fail
 go_region
 all_goals (go_wp2_with fail; go_ret; exact ⟨rfl, HK.out, HG.out⟩)
def numF : Nat → Nat → List UInt8
 | 0, x => [x.toUInt8]
 | n + 1, x => if x < 128 then [x.toUInt8] else (x % 128 + 128).toUInt8 :: numF n (x / 128)
def numL (x : Nat) : List UInt8 := numF 10 x
theorem numF_more : ∀ (n m x : Nat), x < 128 ^ (n + 1) → n ≤ m → numF m x = numF n x
 | 0, 0, x, _, _ => rfl
 | 0, m + 1, x, h, _ => by
  have : x < 128 := by simpa using h
  show (if x < 128 then [x.toUInt8] else _) = [x.toUInt8]
  rw [if_pos this]
 | n + 1, 0, x, _, h => by omega
 | n + 1, m + 1, x, h, hm => by
  show (if x < 128 then [x.toUInt8] else _) = (if x < 128 then [x.toUInt8] else _)
  split
  ·rfl
  ·rw [numF_more n m (x / 128) (by
    have : 128 ^ (n + 1 + 1) = 128 ^ (n + 1) * 128 := by rw [Nat.pow_succ]
    rw [this] at h
    exact Nat.div_lt_of_lt_mul (by rw [Nat.mul_comm]; exact h)) (by omega)]
theorem numL_step (x : Nat) (hx : x ≤ 1099511627776) (h : 128 ≤ x) : numL x = (x % 128 + 128).toUInt8 :: numL (x / 128) := by
 have h1 : numL x = (if x < 128 then [x.toUInt8] else (x % 128 + 128).toUInt8 :: numF 9 (x / 128)) := rfl
 rw [h1, if_neg (by omega)]
 congr 1
 unfold numL
 rw [numF_more 6 9 _ (by omega) (by omega), numF_more 6 10 _ (by omega) (by omega)]
theorem numL_last (x : Nat) (h : x < 128) : numL x = [x.toUInt8] := by
 have h1 : numL x = (if x < 128 then [x.toUInt8] else (x % 128 + 128).toUInt8 :: numF 9 (x / 128)) := rfl
 rw [h1, if_pos h]
theorem numF_len : ∀ n x, (numF n x).length ≤ n + 1
 | 0, x => by simp [numF]
 | n + 1, x => by
  unfold numF
  split
  ·simp
  ·rw [List.length_cons]
   have := numF_len n (x / 128)
   omega
theorem numL_len (x : Nat) : (numL x).length ≤ 11 := numF_len 10 x
theorem or128 : ∀ a : Nat, a < 256 → a ||| 128 = a % 128 + 128 := by decide +kernel
theorem or_val (y : Nat) : bits .or .u8 ((y : Int) % 256) 128 = (((y % 128 + 128).toUInt8).toNat : Int) := by
 have e1 : (y : Int) % 256 = ((y % 256 : Nat) : Int) := by omega
 have e2 := u8_or_nat (y % 256) 128 (by omega) (by omega)
 rw [e1]
 refine e2.trans ?_
 rw [or128 _ (by omega)]
 have e3 : ((y % 128 + 128).toUInt8).toNat = y % 128 + 128 := by
  show (y % 128 + 128) % 256 = _
  omega
 rw [e3]
 omega
theorem low_val (y : Nat) (h : y < 128) : (y : Int) = ((y.toUInt8).toNat : Int) := by
 have e3 : (y.toUInt8).toNat = y := by
  show y % 256 = _
  omega
 rw [e3]
set_option maxRecDepth 100000 in
set_option maxHeartbeats 2000000 in
theorem number_any (B b : Nat) (l : List UInt8) (x : Nat) (w : World) (h : Bld B b l w) (hx : x ≤ 1099511627776) (hlen : l.length + 11 ≤ 140737488355328) (hBw : B ≤ w.heap.size) :
  Calls Try.prog 24 #[.pointer (some ⟨b, 0, none⟩), .int .i64 x] w fun e w' => e = .returned (.tuple #[]) ∧ Bld B b (l ++ numL x) w' ∧ Wr B b w w' := by
 have HB0 := Lib.hid h
 have hnl := numL_len x
 have HNL := Lib.hid hnl
 clear h hnl
 go_enter Try.func24, Try.ntmps24
 go_wp2_with fail
 go_loopw [1] (fun v wr => ∃ (y : Nat) (l' : List UInt8), v = .int .i64 y ∧ Bld B b l' wr ∧ Wr B b w wr ∧ y ≤ 1099511627776 ∧ l' ++ numL y = l ++ numL x) (fun v _ => (intOf v).toNat)
 case atStart => exact ⟨x, l, rfl, HB0.out, Wr.refl _ _ _, hx, rfl⟩
 case round =>
  obtain ⟨y, l', rfl, hbl, hbel, hy, hc⟩ := hrel
  have HBL := Lib.hid hbl
  have HBE := Lib.hid hbel
  have hsz : B ≤ wr.heap.size := Nat.le_trans hBw hbel.below.size
  have hll : l'.length ≤ l.length + 11 := by
   have h1 := congrArg List.length hc
   rw [List.length_append, List.length_append] at h1
   have := HNL.out
   omega
  clear hbl hbel
  by_cases hlt : 128 ≤ y
  ·rw [numL_step y hy hlt] at hc
   have HC := Lib.hid hc
   have hl2 : l'.length + 1 ≤ l.length + 11 := by
    have h1 := congrArg List.length hc
    rw [List.length_append, List.length_append, List.length_cons] at h1
    have := HNL.out
    omega
   have q1 : decide ((128 : Int) ≤ (y : Int)) = true := by rw [decide_eq_true_eq]; omega
   clear hc
   go_wp2_with fail
   refine (writebyte_any B b l' (y % 128 + 128).toUInt8 _ _ (or_val y) HBL.out (by omega) hsz).mono ?_
   rintro e1 w1 ⟨rfl, hbl1, hb1⟩
   have HB1 := Lib.hid hbl1
   have HE1 := Lib.hid (HBE.out.trans hb1)
   clear hbl1 hb1
   go_wp2_with fail
   go_roundw
   case rel => exact ⟨y / 128, l' ++ [(y % 128 + 128).toUInt8], by rw [Int.natCast_ediv]; rfl, HB1.out, HE1.out, by omega, by rw [List.append_assoc]; exact HC.out⟩
   case measure => simp [intOf]; omega
  ·rw [numL_last y (by omega)] at hc
   have HC := Lib.hid hc
   have hl2 : l'.length + 1 ≤ l.length + 11 := by
    have h1 := congrArg List.length hc
    rw [List.length_append, List.length_append] at h1
    have := HNL.out
    simp only [List.length_cons, List.length_nil] at h1
    omega
   have q1 : decide ((128 : Int) ≤ (y : Int)) = false := by rw [decide_eq_false_iff_not]; omega
   clear hc
   go_wp2_with fail
   refine (writebyte_any B b l' y.toUInt8 _ _ (low_val y (by omega)) HBL.out (by omega) hsz).mono ?_
   rintro e1 w1 ⟨rfl, hbl1, hb1⟩
   have HB1 := Lib.hid hbl1
   have HE1 := Lib.hid (HBE.out.trans hb1)
   clear hbl1 hb1
   go_wp2_with fail
   go_end0
   exact ⟨rfl, by rw [← HC.out]; exact HB1.out, HE1.out⟩
end Go.Proofs.Ytghlgnklnbcppaa

set_option linter.unusedVariables false
set_option linter.unusedSimpArgs false
namespace Go.Proofs.Ytghlgnklnbcppaa
def numsM (made : List Int) : List Ino → Int → Bool
 | [], _ => true
 | x :: xs, p => if x.num ≤ p ∨ givenV made x.num = false then false else numsM made xs x.num
def shapesM (is : List Ino) : List Ino → Bool
 | [] => true
 | x :: xs => if x.dir = true then (if x.data.size ≠ 0 ∨ entsV is x.ents = false then false else shapesM is xs) else if x.ents ≠ [] ∨ 256 < x.data.size then false else shapesM is xs
def finalR (s : St) : List Ino → Bool → List Bool → Bool
 | [], _, _ => true
 | x :: xs, first, f => if (first = false ∧ x.dir = true ∧ (linkI s.inos x.num ≠ 1 ∨ f.headD false = false)) ∨ (x.dir = false ∧ f.headD false = false ∧ openB s.opn x.num = false) then false else finalR s xs false f.tail
def finalM (s : St) : List Ino → Bool → List Nat → List Bool → Bool
 | [], _, _, _ => true
 | x :: xs, first, many, f =>
  if first = true then finalM s xs false many.tail f.tail
  else if x.dir = true ∧ (many.headD 0 ≠ 1 ∨ f.headD false = false) then false
  else if x.dir = false ∧ f.headD false = false ∧ (0 < many.headD 0 ∨ openB s.opn x.num = false) then false
  else finalM s xs false many.tail f.tail
def numsP (made : List Int) (p : Option Int) (xs : List Ino) : Bool :=
 match p, xs with
 | some q, xs => numsM made xs q
 | none, [] => true
 | none, x :: xs => numsM made xs x.num
theorem numsP_cons (made : List Int) (p : Option Int) (x : Ino) (xs : List Ino) : numsP made p (x :: xs) = (!badNum made p x.num && numsM made xs x.num) := by
 cases p with
 | none => simp [numsP, badNum]
 | some q =>
  simp only [numsP, numsM, badNum]
  by_cases h1 : x.num ≤ q <;> cases h2 : givenV made x.num <;> simp [h1]
theorem inosG_split (s : St) : ∀ (xs : List Ino) (p : Option Int) (f : List Bool), inosG s xs p f = (numsP s.made p xs && (shapesM s.inos xs && finalR s xs p.isNone f))
 | [], none, f => rfl
 | [], some q, f => rfl
 | x :: xs, p, f => by
  unfold inosG shapesM finalR
  rw [inosG_split s xs (some x.num) f.tail, numsP_cons]
  simp only [numsP, Option.isNone_some]
  unfold inoBad inoLost
  generalize p.isNone = first
  generalize badNum s.made p x.num = A
  generalize numsM s.made xs x.num = N
  generalize shapesM s.inos xs = S
  generalize finalR s xs false f.tail = F
  have hE : x.ents = [] → entsV s.inos x.ents = true := fun h => by rw [h]; rfl
  generalize entsV s.inos x.ents = E at hE ⊢
  generalize f.headD false = H
  generalize openB s.opn x.num = O
  cases hd : x.dir
  ·by_cases h1 : x.ents = []
   ·have := hE h1
    subst this
    by_cases h2 : 256 < x.data.size <;> cases A <;> cases N <;> cases S <;> cases F <;> cases H <;> cases O <;> simp [h1, h2]
   ·have h3 : x.ents.isEmpty = false := by simpa using h1
    cases A <;> cases N <;> cases S <;> simp [h1, h3]
  ·by_cases h1 : x.data.size = 0
   ·by_cases h2 : linkI s.inos x.num = 1 <;> cases A <;> cases N <;> cases S <;> cases F <;> cases H <;> cases E <;> cases first <;> simp [h1, h2]
   ·cases A <;> cases N <;> cases S <;> simp [h1]
theorem finalR_iff (s : St) : ∀ (xs : List Ino) (first : Bool) (f : List Bool), finalR s xs first f = true ↔ ∀ (i : Nat) (x : Ino), xs[i]? = some x → ((first = false ∨ 0 < i) → x.dir = true → linkI s.inos x.num = 1 ∧ f.getD i false = true) ∧ (x.dir = false → f.getD i false = true ∨ openB s.opn x.num = true)
 | [], first, f => by simp [finalR]
 | x :: xs, first, f => by
  unfold finalR
  have hh : f.headD false = f.getD 0 false := by cases f <;> rfl
  have ht : ∀ i, f.tail.getD i false = f.getD (i + 1) false := fun i => by cases f <;> rfl
  constructor
  ·intro h
   split at h
   ·cases h
   ·rename_i hc
    have ih := (finalR_iff s xs false f.tail).1 h
    intro i y hy
    cases i with
    | zero =>
     have e : x = y := by simpa using hy
     subst e
     rw [← hh]
     refine ⟨fun h1 h2 => ?_, fun h2 => ?_⟩
     ·have hf : first = false := by rcases h1 with h1 | h1; exact h1; omega
      refine ⟨?_, ?_⟩
      ·apply Classical.byContradiction
       intro hn
       exact hc (.inl ⟨hf, h2, .inl hn⟩)
      ·cases hb : f.headD false
       ·exact absurd (.inl ⟨hf, h2, .inr hb⟩) hc
       ·rfl
     ·cases hb : f.headD false
      ·right
       cases ho : openB s.opn x.num
       ·exact absurd (.inr ⟨h2, hb, ho⟩) hc
       ·rfl
      ·exact .inl rfl
    | succ i =>
     have := ih i y (by simpa using hy)
     rw [ht] at this
     exact ⟨fun _ => this.1 (.inl rfl), this.2⟩
  ·intro h
   rw [if_neg, finalR_iff s xs false f.tail]
   ·intro i y hy
    have := h (i + 1) y (by simpa using hy)
    rw [ht]
    exact ⟨fun _ => this.1 (.inr (by omega)), this.2⟩
   ·have h0 := h 0 x rfl
    rw [← hh] at h0
    rintro (⟨h1, h2, h3⟩ | ⟨h1, h2, h3⟩)
    ·have := h0.1 (.inl h1) h2
     rcases h3 with h3 | h3
     ·exact h3 this.1
     ·rw [this.2] at h3; cases h3
    ·rcases h0.2 h1 with h4 | h4
     ·rw [h2] at h4; cases h4
     ·rw [h3] at h4; cases h4
theorem finalM_iff (s : St) : ∀ (xs : List Ino) (first : Bool) (many : List Nat) (f : List Bool), finalM s xs first many f = true ↔ ∀ (i : Nat) (x : Ino), xs[i]? = some x → (first = false ∨ 0 < i) → (x.dir = true → many.getD i 0 = 1 ∧ f.getD i false = true) ∧ (x.dir = false → f.getD i false = true ∨ (many.getD i 0 = 0 ∧ openB s.opn x.num = true))
 | [], first, many, f => by simp [finalM]
 | x :: xs, first, many, f => by
  unfold finalM
  have hh : f.headD false = f.getD 0 false := by cases f <;> rfl
  have ht : ∀ i, f.tail.getD i false = f.getD (i + 1) false := fun i => by cases f <;> rfl
  have mh : many.headD 0 = many.getD 0 0 := by cases many <;> rfl
  have mt : ∀ i, many.tail.getD i 0 = many.getD (i + 1) 0 := fun i => by cases many <;> rfl
  rw [hh, mh]
  have ih := finalM_iff s xs false many.tail f.tail
  have tail_ : (∀ (i : Nat) (x : Ino), xs[i]? = some x → (false = false ∨ 0 < i) → (x.dir = true → many.tail.getD i 0 = 1 ∧ f.tail.getD i false = true) ∧ (x.dir = false → f.tail.getD i false = true ∨ (many.tail.getD i 0 = 0 ∧ openB s.opn x.num = true))) ↔
    (∀ (i : Nat) (y : Ino), xs[i]? = some y → (y.dir = true → many.getD (i + 1) 0 = 1 ∧ f.getD (i + 1) false = true) ∧ (y.dir = false → f.getD (i + 1) false = true ∨ (many.getD (i + 1) 0 = 0 ∧ openB s.opn y.num = true))) := by
   constructor
   ·intro h i y hy
    have := h i y hy (.inl rfl)
    rwa [ht, mt] at this
   ·intro h i y hy _
    have := h i y hy
    rwa [ht, mt]
  rw [tail_] at ih
  have whole : (∀ (i : Nat) (y : Ino), (x :: xs)[i]? = some y → (first = false ∨ 0 < i) → (y.dir = true → many.getD i 0 = 1 ∧ f.getD i false = true) ∧ (y.dir = false → f.getD i false = true ∨ (many.getD i 0 = 0 ∧ openB s.opn y.num = true))) ↔
    (first = false → (x.dir = true → many.getD 0 0 = 1 ∧ f.getD 0 false = true) ∧ (x.dir = false → f.getD 0 false = true ∨ (many.getD 0 0 = 0 ∧ openB s.opn x.num = true))) ∧ (∀ (i : Nat) (y : Ino), xs[i]? = some y → (y.dir = true → many.getD (i + 1) 0 = 1 ∧ f.getD (i + 1) false = true) ∧ (y.dir = false → f.getD (i + 1) false = true ∨ (many.getD (i + 1) 0 = 0 ∧ openB s.opn y.num = true))) := by
   constructor
   ·intro h
    exact ⟨fun h1 => h 0 x rfl (.inl h1), fun i y hy => h (i + 1) y (by simpa using hy) (.inr (by omega))⟩
   ·rintro ⟨h1, h2⟩ i y hy hq
    cases i with
    | zero =>
     have e : x = y := by simpa using hy
     subst e
     rcases hq with hq | hq
     ·exact h1 hq
     ·omega
    | succ i => exact h2 i y (by simpa using hy)
  rw [whole, ← ih]
  clear ih whole tail_ ht mt hh mh
  generalize finalM s xs false many.tail f.tail = F
  generalize many.getD 0 0 = m
  generalize f.getD 0 false = b
  generalize openB s.opn x.num = o
  by_cases h1 : m = 1
  ·cases first <;> cases x.dir <;> cases b <;> cases o <;> simp [h1]
  ·by_cases h0 : m = 0
   ·cases first <;> cases x.dir <;> cases b <;> cases o <;> simp [h0]
   ·have : 0 < m := by omega
    cases first <;> cases x.dir <;> cases b <;> cases o <;> simp [h1, h0, this]
theorem linkE_pos : ∀ (es : List En) (num : Int), 0 < linkE es num → ∃ e ∈ es, e.num = num
 | [], num, h => absurd h (by simp [linkE])
 | e :: es, num, h => by
  unfold linkE at h
  by_cases hq : e.num = num
  ·exact ⟨e, by simp, hq⟩
  ·rw [if_neg hq] at h
   obtain ⟨y, hy, hn⟩ := linkE_pos es num (by omega)
   exact ⟨y, by simp [hy], hn⟩
theorem linkI_pos : ∀ (is : List Ino) (num : Int), 0 < linkI is num → ∃ (k : Nat) (y : Ino) (e : En), is[k]? = some y ∧ y.dir = true ∧ e ∈ y.ents ∧ e.num = num
 | [], num, h => absurd h (by simp [linkI])
 | x :: xs, num, h => by
  unfold linkI at h
  by_cases hd : x.dir = true ∧ 0 < linkE x.ents num
  ·obtain ⟨e, he, hn⟩ := linkE_pos _ _ hd.2
   exact ⟨0, x, e, rfl, hd.1, he, hn⟩
  ·have : 0 < linkI xs num := by
    split at h
    ·rename_i h1
     have : ¬ 0 < linkE x.ents num := fun h2 => hd ⟨h1, h2⟩
     omega
    ·omega
   obtain ⟨k, y, e, h1, h2⟩ := linkI_pos xs num this
   exact ⟨k + 1, y, e, by simpa using h1, h2⟩
theorem nums_pair : ∀ (made : List Int) (xs : List Ino) (p : Int), numsM made xs p = true → (∀ x ∈ xs, p < x.num) ∧ xs.Pairwise (fun a b => a.num < b.num) ∧ ∀ x ∈ xs, givenV made x.num = true
 | made, [], p, h => by simp
 | made, x :: xs, p, h => by
  unfold numsM at h
  split at h
  ·cases h
  ·rename_i hc
   obtain ⟨h1, h2, h3⟩ := nums_pair made xs x.num h
   have hg : givenV made x.num = true := by cases hg : givenV made x.num; exact absurd (.inr hg) hc; rfl
   have hp : p < x.num := by
    rcases Int.lt_or_le p x.num with h | h
    ·exact h
    ·exact absurd (.inl h) hc
   refine ⟨?_, List.pairwise_cons.2 ⟨h1, h2⟩, ?_⟩
   ·intro y hy
    rcases List.mem_cons.1 hy with rfl | hy
    ·exact hp
    ·have := h1 y hy; omega
   ·intro y hy
    rcases List.mem_cons.1 hy with rfl | hy
    ·exact hg
    ·exact h3 y hy
theorem numsP_pair {made : List Int} {is : List Ino} (h : numsP made none is = true) : is.Pairwise (fun a b => a.num < b.num) := by
 cases is with
 | nil => exact List.Pairwise.nil
 | cons x xs =>
  obtain ⟨h1, h2, _⟩ := nums_pair made xs x.num h
  exact List.pairwise_cons.2 ⟨h1, h2⟩
theorem atV_of {is : List Ino} (hp : is.Pairwise (fun a b => a.num < b.num)) {i : Nat} {x : Ino} (hx : is[i]? = some x) : atV is x.num = (i : Int) := by
 obtain ⟨hi, hxe⟩ := List.getElem?_eq_some_iff.1 hx
 rcases atV_cases is x.num with ⟨_, h2⟩ | ⟨k, y, h1, h2, h3, h4⟩
 ·exact absurd rfl (h2 x (List.mem_of_getElem? hx))
 ·rw [h1]
  obtain ⟨hk, hye⟩ := List.getElem?_eq_some_iff.1 h2
  rcases Nat.lt_trichotomy k i with h | h | h
  ·have := List.pairwise_iff_getElem.1 hp k i hk hi h
   rw [hye, hxe] at this
   omega
  ·rw [h]
  ·exact absurd rfl (h4 i x h hx)
theorem given_le {made : List Int} (hm : madeG made = true) {n : Int} (h : givenV made n = true) : n ≤ 257 := by
 have all : ∀ (l : List Int), madeG l = true → ∀ k, l.getD k 0 ≤ 32 := by
  intro l
  induction l with
  | nil => intro _ k; simp
  | cons x l ih =>
   intro h k
   unfold madeG at h
   split at h
   ·cases h
   ·rename_i hc
    cases k with
    | zero => simp; omega
    | succ k => simpa using ih h k
 unfold givenV at h
 split at h
 ·cases h
 ·rw [Bool.and_eq_true, decide_eq_true_eq, decide_eq_true_eq] at h
  have := all made hm ((n - 2) % 8).toNat
  omega
theorem nums_len : ∀ (made : List Int) (xs : List Ino) (p : Int), madeG made = true → numsM made xs p = true → p ≤ 257 → (xs.length : Int) + p ≤ 257
 | made, [], p, _, _, hp => by simpa using hp
 | made, x :: xs, p, hm, h, hp => by
  obtain ⟨h1, _, h3⟩ := nums_pair made (x :: xs) p h
  unfold numsM at h
  split at h
  ·cases h
  ·have := nums_len made xs x.num hm h (given_le hm (h3 x (by simp)))
   have := h1 x (by simp)
   rw [List.length_cons]
   omega
def manyV (is : List Ino) : List Nat := is.map fun x => linkI is x.num
theorem final_same (s : St) (h0 : rootB s.inos = true) (hn : numsP s.made none s.inos = true) : finalR s s.inos true (reachV s.inos) = finalM s s.inos true (manyV s.inos) (reachV s.inos) := by
 have hp := numsP_pair hn
 have hroot : ∃ x xs, s.inos = x :: xs ∧ x.num = 1 ∧ x.dir = true := by
  cases e : s.inos with
  | nil => rw [e] at h0; cases h0
  | cons x xs =>
   rw [e] at h0
   unfold rootB at h0
   rw [Bool.and_eq_true, decide_eq_true_eq] at h0
   exact ⟨x, xs, rfl, h0⟩
 obtain ⟨r, rs, he, hr1, hrd⟩ := hroot
 have hmany : ∀ (i : Nat) (x : Ino), s.inos[i]? = some x → (manyV s.inos).getD i 0 = linkI s.inos x.num := by
  intro i x hx
  unfold manyV
  rw [List.getD_eq_getElem?_getD, List.getElem?_map, hx]
  rfl
 apply Bool.eq_iff_iff.2
 rw [finalR_iff, finalM_iff]
 constructor
 ·intro h i x hx hq
  have hi := h i x hx
  rw [hmany i x hx]
  refine ⟨fun hd => hi.1 hq hd, fun hd => ?_⟩
  cases hb : (reachV s.inos).getD i false
  ·right
   rcases hi.2 hd with h1 | h1
   ·rw [hb] at h1; cases h1
   ·refine ⟨?_, h1⟩
    apply Classical.byContradiction
    intro hl
    obtain ⟨k, y, e, hy, hyd, hey, hen⟩ := linkI_pos s.inos x.num (by omega)
    have hry : Reach s.inos k := by
     rcases Nat.eq_zero_or_pos k with h2 | h2
     ·subst h2
      have : r = y := by rw [he] at hy; simpa using hy
      subst this
      refine .root 0 ?_
      rw [← hr1]
      exact atV_of hp hy
     ·exact (reachV_iff _ _).1 ((h k y hy).1 (.inr h2) hyd).2
    have hrx : Reach s.inos i := .step k i y e hry hy hyd hey (by rw [hen]; exact atV_of hp hx)
    rw [(reachV_iff _ _).2 hrx] at hb
    cases hb
  ·exact .inl rfl
 ·intro h i x hx
  refine ⟨fun hq hd => ?_, fun hd => ?_⟩
  ·have := (h i x hx (by rcases hq with h1 | h1; cases h1; exact .inr h1)).1 hd
   rwa [hmany i x hx] at this
  ·have hi : 0 < i := by
    rcases Nat.eq_zero_or_pos i with h2 | h2
    ·subst h2
     have : r = x := by rw [he] at hx; simpa using hx
     subst this
     rw [hd] at hrd
     cases hrd
    ·exact h2
   rcases (h i x hx (.inr hi)).2 hd with h1 | h1
   ·exact .inl h1
   ·exact .inr h1.2
theorem mayV_eq (s : St) : mayV s = ((decide (1 ≤ s.made.length) && decide (s.made.length ≤ 8) && madeG s.made) && (rootB s.inos && numsP s.made none s.inos && shapesM s.inos s.inos) && opensV s && finalM s s.inos true (manyV s.inos) (reachV s.inos)) := by
 unfold mayV
 rw [inosG_split]
 simp only [Option.isNone_none]
 cases h0 : rootB s.inos
 ·simp
 cases hn : numsP s.made none s.inos
 ·simp
 rw [final_same s h0 hn]
 cases hm : madeG s.made
 ·simp
 have hlen : s.inos.length ≤ 257 := by
  cases e : s.inos with
  | nil => simp
  | cons x xs =>
   rw [e] at h0 hn
   unfold rootB at h0
   rw [Bool.and_eq_true, decide_eq_true_eq] at h0
   have := nums_len s.made xs x.num hm hn (by omega)
   rw [List.length_cons]
   omega
 generalize finalM s s.inos true (manyV s.inos) (reachV s.inos) = F
 generalize shapesM s.inos s.inos = S
 generalize opensV s = O
 cases F <;> cases S <;> cases O <;> simp [hlen]
end Go.Proofs.Ytghlgnklnbcppaa
