/- Parts of the proof, side by side: ConSplit, ShBuild, ShHex. -/
import Derived.Test.YtilkhmhgjbhfnaaGreatDoorM15
import Derived.Lib.TrimU
import Derived.Test.YtilkhmhgjbhfnaaGreatDoorM06
import Derived.Laws.BitsAllLaws
import Derived.RegionTactic
import Derived.Lib.ItoaWalk
set_option linter.unusedVariables false
set_option linter.unusedSimpArgs false
namespace Go.Proofs.YtilkhmhgjbhfnaaGreatDoor
def splitL : List UInt8 → List (List UInt8)
 | [] => [[]]
 | b :: r => if b = 10 then [] :: splitL r else (b :: (splitL r).headD []) :: (splitL r).tail
theorem splitL_ne : ∀ l, ∃ x xs, splitL l = x :: xs
 | [] => ⟨_, _, rfl⟩
 | b :: r => by unfold splitL; split <;> exact ⟨_, _, rfl⟩
theorem idx_cons (b : UInt8) (r : List UInt8) : Lib.index (b :: r) [10] = if b = 10 then 0 else if Lib.index r [10] = -1 then -1 else Lib.index r [10] + 1 := by
 rw [Lib.index]
 by_cases hb : b = 10
 ·subst hb; rfl
 ·have h1 : ([10] : List UInt8).isPrefixOf (b :: r) = false := by
   have : ((10 : UInt8) == b) = false := by rw [beq_eq_false_iff_ne]; exact fun e => hb e.symm
   simp [List.isPrefixOf, this]
  rw [h1, if_neg (by decide), if_neg hb]
  by_cases h2 : Lib.index r [10] = -1
  ·rw [if_pos (beq_iff_eq.2 h2), if_pos h2]
  ·rw [if_neg (fun e => h2 (beq_iff_eq.1 e)), if_neg h2]
theorem split_miss : ∀ s : List UInt8, Lib.index s [10] = -1 → splitL s = [s]
 | [], _ => rfl
 | b :: r, h => by
  rw [idx_cons] at h
  split at h
  ·cases h
  ·rename_i hb
   split at h
   ·rename_i h2
    rw [splitL, if_neg hb, split_miss r h2]
    rfl
   ·have := Lib.index_ge r [10]; omega
theorem split_hit : ∀ (s : List UInt8) (i : Nat), Lib.index s [10] = i → splitL s = s.take i :: splitL (s.drop (i + 1))
 | [], i, h => by have : Lib.index [] [10] = -1 := rfl; omega
 | b :: r, i, h => by
  rw [idx_cons] at h
  split at h
  ·rename_i hb
   obtain rfl : i = 0 := by omega
   subst hb
   rfl
  ·rename_i hb
   split at h
   ·omega
   ·have := Lib.index_ge r [10]
    obtain ⟨j, rfl⟩ : ∃ j, i = j + 1 := ⟨i - 1, by omega⟩
    have hj := split_hit r j (by omega)
    rw [splitL, if_neg hb, hj]
    rfl
theorem splitK_eq : ∀ (n : Nat) (s : List UInt8), s.length ≤ n → Lib.splitK [10] 0 (Lib.count s [10]) s = splitL s := by
 intro n
 induction n with
 | zero =>
  intro s hs
  obtain rfl : s = [] := List.eq_nil_of_length_eq_zero (by omega)
  rfl
 | succ n ih =>
  intro s hs
  by_cases h : Lib.index s [10] = -1
  ·rw [Lib.count_miss h, split_miss s h]
   rfl
  ·have h1 := Lib.index_ge s [10]
   obtain ⟨i, hi⟩ : ∃ i : Nat, Lib.index s [10] = i := ⟨(Lib.index s [10]).toNat, by omega⟩
   have hr := Lib.index_room s [10] (by omega)
   have hl : ([10] : List UInt8).length = 1 := rfl
   rw [Lib.count_hit (by decide) hi, Nat.add_comm, Lib.splitK, if_neg (fun e => h (beq_iff_eq.1 e)), hi, split_hit s i hi]
   have : ((i : Int)).toNat = i := by omega
   rw [this, hl, Nat.add_zero, ih _ (by rw [List.length_drop]; omega)]
theorem splitL_count : ∀ (n : Nat) (s : List UInt8), s.length ≤ n → (splitL s).length = Lib.count s [10] + 1 := by
 intro n
 induction n with
 | zero =>
  intro s hs
  obtain rfl : s = [] := List.eq_nil_of_length_eq_zero (by omega)
  rfl
 | succ n ih =>
  intro s hs
  by_cases h : Lib.index s [10] = -1
  ·rw [Lib.count_miss h, split_miss s h]
   rfl
  ·have h1 := Lib.index_ge s [10]
   obtain ⟨i, hi⟩ : ∃ i : Nat, Lib.index s [10] = i := ⟨(Lib.index s [10]).toNat, by omega⟩
   have hr := Lib.index_room s [10] (by omega)
   have hl : ([10] : List UInt8).length = 1 := rfl
   rw [Lib.count_hit (by decide) hi, split_hit s i hi, hl, List.length_cons, ih _ (by rw [List.length_drop]; omega)]
   omega
theorem splitL_app (a b : List UInt8) : splitL (a ++ 10 :: b) = splitL a ++ splitL b := by
 induction a with
 | nil => rfl
 | cons x r ih =>
  rw [List.cons_append, splitL, splitL]
  split
  ·rw [ih, List.cons_append]
  ·rw [ih]
   obtain ⟨y, ys, e⟩ := splitL_ne r
   rw [e]
   rfl
theorem lines_eq (s : ByteArray) : linesB s = (splitL s.data.toList).map txt := by
 have h1 := Lib.splitB_data ⟨#[10]⟩ 0 (Lib.countB s ⟨#[10]⟩) s
 have h2 : Lib.countB s ⟨#[10]⟩ = Lib.count s.data.toList [10] := rfl
 rw [h2, show ((⟨#[10]⟩ : ByteArray).data.toList) = [10] from rfl, splitK_eq _ _ (Nat.le_refl _)] at h1
 rw [← h1, List.map_map]
 have : (txt ∘ fun x : ByteArray => x.data.toList) = id := by funext x; rfl
 rw [this, List.map_id]
 rfl
theorem linesB_len (s : ByteArray) : (linesB s).length = Lib.countB s ⟨#[10]⟩ + 1 := by
 rw [lines_eq, List.length_map]
 exact splitL_count _ _ (Nat.le_refl _)
theorem linesB_size (s : ByteArray) : ∀ x ∈ linesB s, x.size ≤ s.size := by
 have key : ∀ l : List UInt8, ∀ x ∈ splitL l, x.length ≤ l.length := by
  intro l
  induction l with
  | nil => intro x hx; rw [List.mem_singleton.1 hx]; exact Nat.le_refl _
  | cons b r ih =>
   intro x hx
   rw [splitL] at hx
   obtain ⟨y, ys, e⟩ := splitL_ne r
   rw [e] at hx
   have h1 := ih y (by rw [e]; exact List.mem_cons_self)
   split at hx
   ·rcases List.mem_cons.1 hx with rfl | hx
    ·exact Nat.zero_le _
    ·have := ih x (by rw [e]; exact hx)
     rw [List.length_cons]; omega
   ·rcases List.mem_cons.1 hx with rfl | hx
    ·show (b :: y).length ≤ _
     rw [List.length_cons, List.length_cons]; omega
    ·have := ih x (by rw [e]; exact List.mem_cons_of_mem _ hx)
     rw [List.length_cons]; omega
 intro x hx
 rw [lines_eq] at hx
 obtain ⟨l, hl, rfl⟩ := List.mem_map.1 hx
 have h1 := key _ l hl
 have h2 : s.data.toList.length = s.size := by rw [Array.length_toList]; rfl
 show l.toArray.size ≤ _
 rw [List.size_toArray]
 omega
theorem linesB_many (s : ByteArray) : (linesB s).length ≤ s.size + 2 := by
 unfold linesB
 have h1 := Lib.splitB_length_le ⟨#[10]⟩ 0 (Lib.countB s ⟨#[10]⟩) s
 have h2 : Lib.countB s ⟨#[10]⟩ ≤ s.data.toList.length + 1 := Lib.count_le _ _
 have h3 : s.data.toList.length = s.size := by rw [Array.length_toList]; rfl
 omega
theorem spans_ok (p : Nat → Bool) (s : ByteArray) : ∀ (f pos : Nat) (st : Option Nat) (acc : List (Nat × Nat)), (∀ x ∈ acc, x.1 < x.2 ∧ x.2 ≤ s.size) → (∀ a, st = some a → a < pos ∧ a < s.size) →
  (∀ x ∈ (Lib.spansFromP p s f pos st acc).1, x.1 < x.2 ∧ x.2 ≤ s.size) ∧ (∀ a, (Lib.spansFromP p s f pos st acc).2 = some a → a < s.size) ∧ (Lib.spansFromP p s f pos st acc).1.length ≤ acc.length + f
 | 0, pos, st, acc, h1, h2 => ⟨h1, fun a ha => (h2 a ha).2, Nat.le_refl _⟩
 | f + 1, pos, st, acc, h1, h2 => by
  unfold Lib.spansFromP
  split
  ·rename_i hp
   have hw := Lib.width_pos s pos
   split
   ·split
    ·rename_i a
     have ha := h2 a rfl
     have := spans_ok p s f (pos + (Utf8.decode s pos).2) none (acc ++ [(a, pos)]) (fun x hx => by
      rcases List.mem_append.1 hx with hx | hx
      ·exact h1 x hx
      ·rw [List.mem_singleton.1 hx]; exact ⟨ha.1, Nat.le_of_lt hp⟩) (fun a ha => nomatch ha)
     rw [List.length_append, List.length_singleton] at this
     exact ⟨this.1, this.2.1, by omega⟩
    ·have := spans_ok p s f (pos + (Utf8.decode s pos).2) none acc h1 (fun a ha => nomatch ha)
     exact ⟨this.1, this.2.1, by omega⟩
   ·split
    ·rename_i a
     have ha := h2 a rfl
     have := spans_ok p s f (pos + (Utf8.decode s pos).2) (some a) acc h1 (fun b hb => by cases hb; exact ⟨by omega, ha.2⟩)
     exact ⟨this.1, this.2.1, by omega⟩
    ·have := spans_ok p s f (pos + (Utf8.decode s pos).2) (some pos) acc h1 (fun b hb => by cases hb; exact ⟨by omega, hp⟩)
     exact ⟨this.1, this.2.1, by omega⟩
  ·exact ⟨h1, fun a ha => (h2 a ha).2, by show acc.length ≤ _; omega⟩
theorem words_ok (s : ByteArray) : (∀ x ∈ wordsB s, 1 ≤ x.size ∧ x.size ≤ s.size) ∧ (wordsB s).length ≤ s.size + 1 := by
 obtain ⟨h1, h2, h3⟩ := spans_ok blankP s s.size 0 none [] (fun x hx => nomatch hx) (fun a ha => nomatch ha)
 have hs : (∀ x ∈ Lib.spansOfP blankP s, x.1 < x.2 ∧ x.2 ≤ s.size) ∧ (Lib.spansOfP blankP s).length ≤ s.size + 1 := by
  unfold Lib.spansOfP Lib.closeSpans
  split
  ·rename_i a ha
   refine ⟨fun x hx => ?_, ?_⟩
   ·rcases List.mem_append.1 hx with hx | hx
    ·exact h1 x hx
    ·rw [List.mem_singleton.1 hx]; exact ⟨h2 a ha, Nat.le_refl _⟩
   ·rw [List.length_append, List.length_singleton]
    simp only [List.length_nil, Nat.zero_add] at h3
    omega
  ·refine ⟨h1, ?_⟩
   simp only [List.length_nil, Nat.zero_add] at h3
   omega
 refine ⟨fun x hx => ?_, ?_⟩
 ·unfold wordsB Lib.goFieldsP at hx
  obtain ⟨y, hy, rfl⟩ := List.mem_map.1 hx
  have := hs.1 y hy
  rw [ByteArray.size_extract]
  omega
 ·unfold wordsB Lib.goFieldsP
  rw [List.length_map]
  exact hs.2
theorem words_txt : wordsB (txt []) = [] := by decide +kernel
end Go.Proofs.YtilkhmhgjbhfnaaGreatDoor
namespace Go.Proofs.YtilkhmhgjbhfnaaGreatDoor
open Go.RowKit
theorem liesBuilderH : liesAt Tryz.prog Tryz.prog.depth 54 (2 / Tryz.prog.cellsOf 54) 0 54 1 = true := by kernel_rfl
def BldH (B b : Nat) (l : List UInt8) (w : World) : Prop := Lib.IsBuilderF 54 5 B b (Lib.byteCells l) w
theorem BldH.keep {B b : Nat} {l : List UInt8} {w w' : World} (h : BldH B b l w) (hb : Below w.heap.size w w') : BldH B b l w' := by
 have key : ∀ p, Lib.BuilderAtF 54 5 B b p (Lib.byteCells l) w → Lib.BuilderAtF 54 5 B b p (Lib.byteCells l) w' := by
  intro p hp
  have hlt := hp.lt
  obtain ⟨hB, v, h1, h2, h3⟩ := hp
  exact ⟨hB, v, (hb.block b hlt).trans h1, h2.kept (row := none) ⟨hb.os, hb.tape, hb.output, hb.size, fun k hk _ => hb.block k hk⟩ (by cases hv : v.ownBlock <;> simp), h3⟩
 rcases h with h | h
 ·exact .inl (key _ h)
 ·exact .inr (key _ h)
theorem BldH.lt {B b : Nat} {l : List UInt8} {w : World} (h : BldH B b l w) : b < w.heap.size := by
 rcases h with h | h
 ·exact h.lt
 ·exact h.lt
theorem BldH.ge {B b : Nat} {l : List UInt8} {w : World} (h : BldH B b l w) : B ≤ b := by
 rcases h with h | h
 ·exact h.1
 ·exact h.1
set_option maxRecDepth 100000 in
set_option maxHeartbeats 1000000 in
theorem copycheck_usedH (b : Nat) (w : World) (h0 : w.cell? ⟨b, 0, none⟩ = some (.pointer (some ⟨b, 0, none⟩))) :
  Calls Tryz.prog 31 #[.pointer (some ⟨b, 0, none⟩)] w fun e w' => e = .returned (.tuple #[]) ∧ w' = w := by
 obtain ⟨j, hj, _⟩ := Option.map_eq_some_iff.1 sizeBuilder
 go_enter Tryz.func31, Tryz.ntmps31
 go_wp2
 rw [Lib.run_neq_ptr_same w _ Tryz.underlying52 hj]
 go_wp2
 go_end0
 exact ⟨rfl, rfl⟩
set_option maxRecDepth 100000 in
set_option maxHeartbeats 1000000 in
theorem copycheck_freshH (b : Nat) (w : World) (h0 : w.cell? ⟨b, 0, none⟩ = some (.pointer none)) (hsh : w.shape? b = some (54, 2)) (hfz : w.frozen? ⟨b, 0, none⟩ = false) :
  Calls Tryz.prog 31 #[.pointer (some ⟨b, 0, none⟩)] w fun e w' => e = .returned (.tuple #[]) ∧ w' = w.setCell ⟨b, 0, none⟩ (.pointer (some ⟨b, 0, none⟩)) := by
 obtain ⟨j, hj, hjs⟩ := Option.map_eq_some_iff.1 sizeBuilder
 go_enter Tryz.func31, Tryz.ntmps31
 go_wp2
 rw [Lib.run_to_unsafe w ⟨b, 0, none⟩ Tryz.underlying52 Tryz.underlying106 hj (by rw [hjs]; decide) hsh (Nat.zero_lt_succ 1)]
 simp only [Result.andThen]
 rw [Oper.upon_value]
 go_wp2
 rw [run_callFunc_extern Tryz.func53 (by kernel_rfl) (by kernel_rfl) (by kernel_rfl) (e := Extern.AbiNoEscape.same) (by kernel_rfl)]
 rw [Lib.run_noEscape]
 simp only [Result.andThen]
 rw [Oper.upon_value]
 go_wp2
 rw [Lib.run_from_unsafe w ⟨b, 0, none⟩ Tryz.underlying106 Tryz.underlying52 hj hsh liesBuilderH]
 simp only [Result.andThen]
 rw [Oper.upon_value]
 go_wp2
 go_end0
 exact ⟨rfl, rfl⟩
theorem copycheck_anyH (B b : Nat) (l : List UInt8) (w : World) (h : BldH B b l w) :
  Calls Tryz.prog 31 #[.pointer (some ⟨b, 0, none⟩)] w fun e w' => e = .returned (.tuple #[]) ∧ Lib.BuilderAtF 54 5 B b (.pointer (some ⟨b, 0, none⟩)) (Lib.byteCells l) w' ∧ Wr B b w w' := by
 rcases h with h | h
 ·refine (copycheck_freshH b w h.cell0 h.shape h.frozen0).mono ?_
  rintro e w' ⟨rfl, rfl⟩
  exact ⟨rfl, h.used _, Wr.set h.1 0 _⟩
 ·refine (copycheck_usedH b w h.cell0).mono ?_
  rintro e w' ⟨rfl, rfl⟩
  exact ⟨rfl, h, Wr.refl B b _⟩
set_option maxRecDepth 100000 in
set_option maxHeartbeats 2000000 in
theorem writestring_anyH (B b : Nat) (l : List UInt8) (s : ByteArray) (w : World) (h : BldH B b l w) (hlen : l.length + s.size ≤ 140737488355328) (hBw : B ≤ w.heap.size) :
  Calls Tryz.prog 17 #[.pointer (some ⟨b, 0, none⟩), .string s] w fun e w' => e = .returned (.tuple #[.int .i64 s.size, .nilIface]) ∧ BldH B b (l ++ s.data.toList) w' ∧ Wr B b w w' := by
 obtain ⟨i0, hi, hz0, hz1, hz2⟩ := info_parts infoByte
 have HB0 := Lib.hid h
 clear h
 go_enter Tryz.func17, Tryz.ntmps17
 go_wp2_with fail
 refine (copycheck_anyH B b l _ HB0.out).mono ?_
 rintro e w1 ⟨rfl, h1, hb1⟩
 obtain ⟨hB, v, hbk, hown, hne⟩ := h1
 have c0 : w1.cell? ⟨b, 0, none⟩ = some (.pointer (some ⟨b, 0, none⟩)) := by rw [Lib.cell_of_heap hbk]; rfl
 have c1 : w1.cell? ⟨b, 1, none⟩ = some v := by rw [Lib.cell_of_heap hbk]; rfl
 rw [Lib.byteCells_length] at hown
 go_wp2_with (at_builtin; refine Lib.wpList_append_own_stringF _ rfl _ _ 37 9 rfl B 5 i0 Tryz.underlying37 Tryz.underlying9 hi hz0 hz1 hz2 _ _ _ rfl hown s rfl ?c3 ?c4 ?c5 ?_)
 case c3 => unfold maxLen; omega
 case c4 => omega
 case c5 => have := hb1.below.size; omega
 intro v' w2 hown' hgrow _
 have hlt : b < w1.heap.size := (Array.getElem?_eq_some_iff.1 hbk).1
 have hb2 : w2.heap[b]? = some (.cells #[.pointer (some ⟨b, 0, none⟩), v] 54 (0, 0)) := by
  rw [hgrow.block b hlt (fun e => hne e.symm)]
  exact hbk
 have d0 : w2.cell? ⟨b, 0, none⟩ = some (.pointer (some ⟨b, 0, none⟩)) := by rw [Lib.cell_of_heap hb2]; rfl
 have d1 : w2.cell? ⟨b, 1, none⟩ = some v := by rw [Lib.cell_of_heap hb2]; rfl
 have f1 : w2.frozen? ⟨b, 1, none⟩ = false := Lib.frozen_of_heap hb2 1
 obtain ⟨ao, n', cap, rfl⟩ : ∃ ao n' cap, v' = .slice ao n' cap := by
  rcases hown'.2 with ⟨hv, _⟩ | ⟨g, cap, cur, fz, hv, _⟩
  ·exact ⟨_, _, _, hv⟩
  ·exact ⟨_, _, _, hv⟩
 go_wp2_with fail
 go_ret2
 refine ⟨rfl, .inr ?_, ?_⟩
 ·exact Lib.BuilderAtF.put (T := 54) (e := 5) hB hb2 (bs' := Lib.byteCells (l ++ s.data.toList)) (by rw [Lib.byteCells_append, List.length_append, Lib.byteCells_length, Lib.byteCells_length, Array.length_toList]; exact hown') (by decide)
 ·exact (hb1.trans (Wr.grown hown hgrow (by have := hb1.below.size; omega))).trans (Wr.set hB 1 _)
set_option maxRecDepth 100000 in
set_option maxHeartbeats 2000000 in
theorem writebyte_anyH (B b : Nat) (l : List UInt8) (c : UInt8) (v0 : Int) (w : World) (hv0 : v0 = (c.toNat : Int)) (h : BldH B b l w) (hlen : l.length + 1 ≤ 140737488355328) (hBw : B ≤ w.heap.size) :
  Calls Tryz.prog 59 #[.pointer (some ⟨b, 0, none⟩), .int .u8 v0] w fun e w' => e = .returned .nilIface ∧ BldH B b (l ++ [c]) w' ∧ Wr B b w w' := by
 obtain ⟨i0, hi, hz0, hz1, hz2⟩ := info_parts infoByte
 have HB0 := Lib.hid h
 have HV0 := Lib.hid hv0
 clear h hv0
 go_enter Tryz.func59, Tryz.ntmps59
 go_wp2_with fail
 refine (copycheck_anyH B b l _ HB0.out).mono ?_
 rintro e w1 ⟨rfl, h1, hb1⟩
 obtain ⟨hB, v, hbk, hown, hne⟩ := h1
 have c0 : w1.cell? ⟨b, 0, none⟩ = some (.pointer (some ⟨b, 0, none⟩)) := by rw [Lib.cell_of_heap hbk]; rfl
 have c1 : w1.cell? ⟨b, 1, none⟩ = some v := by rw [Lib.cell_of_heap hbk]; rfl
 rw [Lib.byteCells_length] at hown
 have hlt : b < w1.heap.size := (Array.getElem?_eq_some_iff.1 hbk).1
 go_wp2_with (at_builtin; refine wpList_append_ownF _ rfl _ _ 37 rfl B 5 i0 (.int .u8 0) 1 1 Tryz.underlying37 hi hz0 hz1 hz2 rfl (by decide) v _ _ rfl (hown.alloc _) ⟨w1.heap.size, 0, .none⟩ 1 1 [.int .u8 v0] rfl rfl (new_one w1 _ _) ?c2 ?c3 ?c4 ?c5 ?_)
 case c2 => intro u hu; simp at hu; subst hu; rfl
 case c3 => unfold maxLen; omega
 case c4 => omega
 case c5 => have := hb1.below.size; simp; omega
 intro v' w2 hown' hgrow _
 have hb2 : w2.heap[b]? = some (.cells #[.pointer (some ⟨b, 0, none⟩), v] 54 (0, 0)) := by
  rw [hgrow.block b (by simp; omega) (fun e => hne e.symm)]
  exact (Below.heap_alloc w1 _ b hlt).trans hbk
 have d0 : w2.cell? ⟨b, 0, none⟩ = some (.pointer (some ⟨b, 0, none⟩)) := by rw [Lib.cell_of_heap hb2]; rfl
 have d1 : w2.cell? ⟨b, 1, none⟩ = some v := by rw [Lib.cell_of_heap hb2]; rfl
 have f1 : w2.frozen? ⟨b, 1, none⟩ = false := Lib.frozen_of_heap hb2 1
 obtain ⟨ao, n', cap, rfl⟩ : ∃ ao n' cap, v' = .slice ao n' cap := by
  rcases hown'.2 with ⟨hv, _⟩ | ⟨g, cap, cur, fz, hv, _⟩
  ·exact ⟨_, _, _, hv⟩
  ·exact ⟨_, _, _, hv⟩
 go_wp2_with fail
 go_ret
 refine ⟨rfl, .inr ?_, ?_⟩
 ·exact Lib.BuilderAtF.put (T := 54) (e := 5) hB hb2 (bs' := Lib.byteCells (l ++ [c])) (by
   rw [Lib.byteCells_append, List.length_append, Lib.byteCells_length, Lib.byteCells_length]
   rw [HV0.out] at hown'
   exact hown') (by decide)
 ·exact ((hb1.trans (Wr.of_below ((Below.refl _ _).alloc (Nat.le_refl _) _) (by have := hb1.below.size; omega))).trans (Wr.grown (hown.alloc _) hgrow (by have := hb1.below.size; simp; omega))).trans (Wr.set hB 1 _)
set_option maxRecDepth 100000 in
set_option maxHeartbeats 2000000 in
theorem string_anyH (B b : Nat) (l : List UInt8) (w : World) (h : BldH B b l w) (h0 : l ≠ []) :
  Calls Tryz.prog 19 #[.pointer (some ⟨b, 0, none⟩)] w fun e w' => e = .returned (.string ⟨l.toArray⟩) ∧ BldH B b l w' ∧ Wr B b w w' := by
 obtain ⟨p, hp, hAt⟩ : ∃ p, (p = .pointer none ∨ p = .pointer (some ⟨b, 0, none⟩)) ∧ Lib.BuilderAtF 54 5 B b p (Lib.byteCells l) w := by
  rcases h with h | h
  ·exact ⟨_, .inl rfl, h⟩
  ·exact ⟨_, .inr rfl, h⟩
 obtain ⟨hB, v, hbk, hown, hne⟩ := hAt
 have hl0 : l.length ≠ 0 := by simpa using h0
 rw [Lib.byteCells_length] at hown
 obtain ⟨g, cap, cur, fz, rfl, hbg, hg, hfz, hnc, hcm, hcs, htake⟩ : ∃ g cap cur fz, v = .slice (some ⟨g, 0, none⟩) l.length cap ∧ B ≤ g ∧ w.heap[g]? = some (.cells cur 5 fz) ∧ fz.2 ≤ l.length * 1 ∧ l.length ≤ cap ∧ cap ≤ maxLen ∧ cur.size = cap * 1 ∧ cur.toList.take (l.length * 1) = Lib.byteCells l := by
  rcases hown.2 with ⟨_, hz⟩ | ⟨g, cap, cur, fz, hv, r⟩
  ·exact absurd hz hl0
  ·exact ⟨g, cap, cur, fz, hv, r⟩
 have c1 : w.cell? ⟨b, 1, none⟩ = some (.slice (some ⟨g, 0, none⟩) l.length cap) := by
  rw [Lib.cell_of_heap hbk]; rfl
 have hSD : ∀ W, (Builtin.unsafeSliceData_ #[37] 91 #[.slice (some ⟨g, 0, none⟩) l.length cap]).run Tryz.prog W = .ok (.pointer (some ⟨g, 0, none⟩)) W :=
  fun W => Lib.run_unsafeSliceData_row _ _ _ _ _ _ (by omega)
 have hUS : (Builtin.unsafeString_ #[91, 3] 9 #[.pointer (some ⟨g, 0, none⟩), .int .i64 l.length]).run Tryz.prog w.drew = .ok (.string ⟨l.toArray⟩) (w.drew.freeze ⟨g, 0, none⟩ l.length) := by
  refine Lib.run_unsafeString_row w.drew 91 3 9 5 Tryz.underlying91 (by kernel_rfl) g cur.size (by have hg' : w.drew.heap[g]? = some (.cells cur 5 fz) := hg; simp [World.shape?, hg']) l h0 (by omega) (by unfold maxLen at hcm; omega) ?_
  intro j x hx
  exact hown.cells (g := g) rfl j (.int .u8 x.toNat) (by simp [Lib.byteCells, hx])
 have hkeep : BldH B b l (w.drew.freeze ⟨g, 0, none⟩ l.length) := by
  have hA : Lib.BuilderAtF 54 5 B b p (Lib.byteCells l) w.drew := ⟨hB, _, hbk, by rw [Lib.byteCells_length]; exact hown, hne⟩
  have hF := hA.froze (g := g) (cap := cap) (by rw [Lib.byteCells_length]; exact c1)
  rw [Lib.byteCells_length] at hF
  rcases hp with rfl | rfl
  ·exact .inl hF
  ·exact .inr hF
 have HK := Lib.hid hkeep
 have hfr : Wr B b w (w.drew.freeze ⟨g, 0, none⟩ l.length) := Wr.drew.trans (Wr.freeze (w := w.drew) (cur := cur) (fz := fz) hg hbg _)
 have HG := Lib.hid hfr
 clear hbk hown hne hg hfz hcs htake hkeep hbg h hp hfr
 go_enter Tryz.func19, Tryz.ntmps19
 go_wp2_with fail
 go_region
 all_goals (go_wp2_with fail; go_ret; exact ⟨rfl, HK.out, HG.out⟩)
def tabH : ByteArray := ⟨#[48, 49, 50, 51, 52, 53, 54, 55, 56, 57, 97, 98, 99, 100, 101, 102]⟩
theorem tabH_fin : ∀ n : Fin 16, tabH.data.toList.getD n.val 0 = hexD n.val := by decide +kernel
theorem tabH_at (n : Nat) (h : n < 16) {hh : n < (⟨#[48, 49, 50, 51, 52, 53, 54, 55, 56, 57, 97, 98, 99, 100, 101, 102]⟩ : ByteArray).size} : (⟨#[48, 49, 50, 51, 52, 53, 54, 55, 56, 57, 97, 98, 99, 100, 101, 102]⟩ : ByteArray)[n]'hh = hexD n := by
 rw [← tabH_fin ⟨n, h⟩]
 exact Lib.getD_at tabH n hh
theorem freshB (w : World) : BldH w.heap.size w.heap.size [] (w.alloc (.cells #[.pointer none, .slice none 0 0] 54)) :=
 Lib.IsBuilderF.of (Lib.fresh_isBuilder _ _ w)
theorem hexL_take (l : List UInt8) (q : Nat) (h : q < l.length) : hexL (l.take (q + 1)) = hexL (l.take q) ++ [hexD ((l.getD q 0).toNat / 16)] ++ [hexD ((l.getD q 0).toNat % 16)] := by
 induction l generalizing q with
 | nil => simp at h
 | cons a l ih =>
  cases q with
  | zero => simp [hexL]
  | succ q =>
   have := ih q (by simpa using h)
   simp only [List.take_succ_cons, hexL, List.getD_cons_succ]
   rw [this]
   simp
set_option maxRecDepth 100000 in
set_option maxHeartbeats 2000000 in
theorem hexsh_any (s : ByteArray) (w : World) (hs : s.size ≤ 1048576) :
  Calls Tryz.prog 58 #[.string s] w fun e w' => e = .returned (.string (txt (hexT s.data.toList))) ∧ Below w.heap.size w w' := by
 have hll : s.data.toList.length = s.size := Array.length_toList
 have HLL := Lib.hid hll
 clear hll
 go_enter Tryz.func58, Tryz.ntmps58
 go_wp2_with fail
 ·rename_i he
  go_ret
  refine ⟨?_, Below.refl _ _⟩
  rw [ByteArray.toList_eq] at he
  unfold hexT
  rw [if_pos (List.isEmpty_iff.1 he)]
  rfl
 ·rename_i he _ _
  rw [ByteArray.toList_eq] at he
  have hne : s.data.toList ≠ [] := fun e => by rw [e] at he; cases he
  have HNE := Lib.hid hne
  clear he hne
  go_loopw [9] (fun v wr => ∃ q : Nat, v = .int .i64 q ∧ q ≤ s.size ∧ BldH w.heap.size w.heap.size (hexL (s.data.toList.take q)) wr ∧ Below w.heap.size w wr) (fun v _ => s.size - (intOf v).toNat)
  case atStart => exact ⟨0, rfl, by omega, freshB w, (Below.refl _ _).alloc (Nat.le_refl _) _⟩
  case round =>
   obtain ⟨q, rfl, hq, hbl, hbel⟩ := hrel
   have HBL := Lib.hid hbl
   have HB := Lib.hid hbel
   clear hbl hbel
   by_cases hlt : q < s.size
   ·have q1 : decide ((q : Int) < (s.size : Int)) = true := by rw [decide_eq_true_eq]; omega
    have k0 : (0 : Int) ≤ (q : Int) := by omega
    have hb : s[q].toNat < 256 := UInt8.toNat_lt _
    have k1 : (0 : Int) ≤ (s[q].toNat : Int) / 16 := by omega
    have k2 : (s[q].toNat : Int) / 16 < 16 := by omega
    go_wp2_with fail
    refine (writebyte_anyH _ _ _ (hexD (s[q].toNat / 16)) _ _ (by rw [tabH_at _ (by omega)]) HBL.out (by rw [hexL_len, List.length_take]; omega) HB.out.size).mono ?_
    rintro e1 w1 ⟨rfl, hbl1, hb1⟩
    have HBL1 := Lib.hid hbl1
    have HB1 := Lib.hid (HB.out.trans hb1.below)
    clear hbl1 hb1
    go_wp2_with fail
    refine (writebyte_anyH _ _ _ (hexD (s[q].toNat % 16)) _ _ (by rw [tabH_at _ (by omega)]) HBL1.out (by rw [List.length_append, hexL_len, List.length_take]; simp; omega) HB1.out.size).mono ?_
    rintro e2 w2 ⟨rfl, hbl2, hb2⟩
    have hgq : s.data.toList.getD q 0 = s[q] := (Lib.getD_at s q hlt).symm
    have hbl3 : BldH w.heap.size w.heap.size (hexL (s.data.toList.take (q + 1))) w2 := by
     rw [hexL_take _ _ (by have := HLL.out; omega), hgq]
     exact hbl2
    have HBL2 := Lib.hid hbl3
    have HB2 := Lib.hid (HB1.out.trans hb2.below)
    clear hbl2 hb2 hbl3 hgq
    go_wp2_with fail
    go_roundw
    case rel => exact ⟨q + 1, by go_num, by omega, HBL2.out, HB2.out⟩
    case measure => simp [intOf]; omega
   ·have q1 : decide ((q : Int) < (s.size : Int)) = false := by rw [decide_eq_false_iff_not]; omega
    have hall : s.data.toList.take q = s.data.toList := List.take_of_length_le (by have := HLL.out; omega)
    have hne := HNE.out
    have hbl := HBL.out
    rw [hall] at hbl
    have hx : hexL s.data.toList ≠ [] := fun e => by
     have := congrArg List.length e
     rw [hexL_len] at this
     exact hne (List.eq_nil_of_length_eq_zero (by rw [List.length_nil] at this; omega))
    have HBL2 := Lib.hid hbl
    have HX := Lib.hid hx
    have HT : Hid (hexT s.data.toList = hexL s.data.toList) := Lib.hid (by unfold hexT; rw [if_neg hne])
    clear hbl hall hx hne
    go_wp2_with fail
    refine (string_anyH _ _ _ _ HBL2.out HX.out).mono ?_
    rintro e1 w1 ⟨rfl, hbl1, hb1⟩
    have HB1 := Lib.hid (HB.out.trans hb1.below)
    clear hbl1 hb1
    go_wp2_with fail
    go_ret
    refine ⟨?_, HB1.out⟩
    rw [HT.out]
    rfl
end Go.Proofs.YtilkhmhgjbhfnaaGreatDoor
