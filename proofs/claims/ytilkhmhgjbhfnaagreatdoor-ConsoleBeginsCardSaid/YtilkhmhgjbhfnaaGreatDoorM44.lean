/- Parts of the proof, side by side: ConWords, ConSplit, FsNew, MoNews. -/
import Derived.Test.YtilkhmhgjbhfnaaGreatDoorM15
import Derived.Test.YtilkhmhgjbhfnaaGreatDoorM19
import Derived.Test.YtilkhmhgjbhfnaaGreatDoorM01
import Derived.Test.YtilkhmhgjbhfnaaGreatDoorM06
import Derived.Lib.TrimU
import Derived.Test.YtilkhmhgjbhfnaaGreatDoorM03
import Derived.Laws.ResultCell
set_option linter.unusedVariables false
set_option linter.unusedSimpArgs false
namespace Go.Proofs.YtilkhmhgjbhfnaaGreatDoor
open Go.RowKit Go.Lib
set_option maxRecDepth 100000 in
set_option maxHeartbeats 4000000 in
theorem blank_any (x : Nat) (w : World) : Calls Tryz.prog 30 #[.int .i32 (x : Int)] w fun e w' => e = .returned (.bool (blankP x)) ∧ w' = w := by
 obtain ⟨R, hR⟩ : ∃ R, blankP x = R := ⟨_, rfl⟩
 rw [hR]
 unfold blankP at hR
 have HR := Lib.hid hR
 clear hR
 go_enter Tryz.func30, Tryz.ntmps30
 by_cases h1 : x = 32
 ·subst h1
  obtain rfl : R = true := by rw [← HR.out]; rfl
  go_wp2_with fail
  go_ret
  exact ⟨rfl, rfl⟩
 ·have e1 : ((x : Int) == 32) = false := by rw [beq_eq_false_iff_ne]; omega
  by_cases h2 : x = 9
  ·subst h2
   obtain rfl : R = true := by rw [← HR.out]; rfl
   go_wp2_with fail
   go_ret
   exact ⟨rfl, rfl⟩
  ·have e2 : ((x : Int) == 9) = false := by rw [beq_eq_false_iff_ne]; omega
   obtain rfl : R = false := by
    rw [← HR.out]
    simp [h1, h2]
   clear h1 h2
   go_wp2_with fail
   go_ret
   exact ⟨rfl, rfl⟩
theorem words_any (s : ByteArray) (w : World) (hs : s.size ≤ 4294967296) :
  Calls Tryz.prog 16 #[.string s] w fun e w' => ∃ A, e = .returned (.slice (some ⟨A, 0, none⟩) (wordsB s).length (wordsB s).length) ∧ NmsAt none w' (some ⟨A, 0, none⟩) (wordsB s).length (wordsB s) ∧ Below w.heap.size w w' := by
 have hp : Go.Proofs.PredAtRunes Tryz.prog 30 #[] blankP w := by
  intro W x hx hb
  refine (blank_any x W).mono ?_
  rintro e w' ⟨rfl, rfl⟩
  exact ⟨rfl, 0, rfl⟩
 have h1 := strings_FieldsFunc_runes 30 #[] (enters_of Tryz.func30 (by kernel_rfl) rfl) blankP s w hs hp
 go_enter Tryz.func16, Tryz.ntmps16
 go_wp2_with fail
 refine h1.mono ?_
 clear h1
 rintro e w1 ⟨A, rfl, hA, hown, hb⟩
 have HO := Lib.hid hown
 have HB := Lib.hid hb
 clear hown hb hp
 go_wp2_with fail
 go_ret
 refine ⟨A, rfl, ⟨rfl, fun hn => ?_⟩, HB.out⟩
 obtain ⟨A', c', hv, hc, hn', hg⟩ := row_any HO.out (by decide)
 injection hv with e1 _ _
 obtain ⟨g, hA', hlt, hm, hcell⟩ := hg hn
 rw [← e1] at hA'
 injection hA' with hA'
 injection hA' with hA'
 refine ⟨A, 0, rfl, by rw [hA']; exact hlt, Mine.any _ _ _, fun j x hx => ?_⟩
 rw [Nat.zero_add, hA', hcell j (by rw [Nat.mul_one]; exact (List.getElem?_eq_some_iff.1 hx).1), List.getElem?_map]
 show (Lib.goFieldsP blankP s)[j]?.map Value.string = _
 rw [show (Lib.goFieldsP blankP s)[j]? = some x from hx]
 rfl
end Go.Proofs.YtilkhmhgjbhfnaaGreatDoor
namespace Go.Proofs.YtilkhmhgjbhfnaaGreatDoor
def splitL : List UInt8 → List (List UInt8)
 | [] => [[]]
 | b :: r => if b = 10 then [] :: splitL r else (b :: (splitL r).headD []) :: (splitL r).tail
theorem splitL_ne : ∀ l, ∃ x xs, splitL l = x :: xs
 | [] => ⟨_, _, rfl⟩
 | b :: r => by unfold splitL; split <;> exact ⟨_, _, rfl⟩
theorem idx_cons (b : UInt8) (r : List UInt8) : Lib.index (b :: r) [10] = if b = 10 then 0 else if Lib.index r [10] = -1 then -1 else Lib.index r [10] + 1 := by
 rw [Lib.index]
 by_cases hb : b = 10
 ·subst hb; rfl
 ·have h1 : ([10] : List UInt8).isPrefixOf (b :: r) = false := by
   have : ((10 : UInt8) == b) = false := by rw [beq_eq_false_iff_ne]; exact fun e => hb e.symm
   simp [List.isPrefixOf, this]
  rw [h1, if_neg (by decide), if_neg hb]
  by_cases h2 : Lib.index r [10] = -1
  ·rw [if_pos (beq_iff_eq.2 h2), if_pos h2]
  ·rw [if_neg (fun e => h2 (beq_iff_eq.1 e)), if_neg h2]
theorem split_miss : ∀ s : List UInt8, Lib.index s [10] = -1 → splitL s = [s]
 | [], _ => rfl
 | b :: r, h => by
  rw [idx_cons] at h
  split at h
  ·cases h
  ·rename_i hb
   split at h
   ·rename_i h2
    rw [splitL, if_neg hb, split_miss r h2]
    rfl
   ·have := Lib.index_ge r [10]; omega
theorem split_hit : ∀ (s : List UInt8) (i : Nat), Lib.index s [10] = i → splitL s = s.take i :: splitL (s.drop (i + 1))
 | [], i, h => by have : Lib.index [] [10] = -1 := rfl; omega
 | b :: r, i, h => by
  rw [idx_cons] at h
  split at h
  ·rename_i hb
   obtain rfl : i = 0 := by omega
   subst hb
   rfl
  ·rename_i hb
   split at h
   ·omega
   ·have := Lib.index_ge r [10]
    obtain ⟨j, rfl⟩ : ∃ j, i = j + 1 := ⟨i - 1, by omega⟩
    have hj := split_hit r j (by omega)
    rw [splitL, if_neg hb, hj]
    rfl
theorem splitK_eq : ∀ (n : Nat) (s : List UInt8), s.length ≤ n → Lib.splitK [10] 0 (Lib.count s [10]) s = splitL s := by
 intro n
 induction n with
 | zero =>
  intro s hs
  obtain rfl : s = [] := List.eq_nil_of_length_eq_zero (by omega)
  rfl
 | succ n ih =>
  intro s hs
  by_cases h : Lib.index s [10] = -1
  ·rw [Lib.count_miss h, split_miss s h]
   rfl
  ·have h1 := Lib.index_ge s [10]
   obtain ⟨i, hi⟩ : ∃ i : Nat, Lib.index s [10] = i := ⟨(Lib.index s [10]).toNat, by omega⟩
   have hr := Lib.index_room s [10] (by omega)
   have hl : ([10] : List UInt8).length = 1 := rfl
   rw [Lib.count_hit (by decide) hi, Nat.add_comm, Lib.splitK, if_neg (fun e => h (beq_iff_eq.1 e)), hi, split_hit s i hi]
   have : ((i : Int)).toNat = i := by omega
   rw [this, hl, Nat.add_zero, ih _ (by rw [List.length_drop]; omega)]
theorem splitL_count : ∀ (n : Nat) (s : List UInt8), s.length ≤ n → (splitL s).length = Lib.count s [10] + 1 := by
 intro n
 induction n with
 | zero =>
  intro s hs
  obtain rfl : s = [] := List.eq_nil_of_length_eq_zero (by omega)
  rfl
 | succ n ih =>
  intro s hs
  by_cases h : Lib.index s [10] = -1
  ·rw [Lib.count_miss h, split_miss s h]
   rfl
  ·have h1 := Lib.index_ge s [10]
   obtain ⟨i, hi⟩ : ∃ i : Nat, Lib.index s [10] = i := ⟨(Lib.index s [10]).toNat, by omega⟩
   have hr := Lib.index_room s [10] (by omega)
   have hl : ([10] : List UInt8).length = 1 := rfl
   rw [Lib.count_hit (by decide) hi, split_hit s i hi, hl, List.length_cons, ih _ (by rw [List.length_drop]; omega)]
   omega
theorem splitL_app (a b : List UInt8) : splitL (a ++ 10 :: b) = splitL a ++ splitL b := by
 induction a with
 | nil => rfl
 | cons x r ih =>
  rw [List.cons_append, splitL, splitL]
  split
  ·rw [ih, List.cons_append]
  ·rw [ih]
   obtain ⟨y, ys, e⟩ := splitL_ne r
   rw [e]
   rfl
theorem lines_eq (s : ByteArray) : linesB s = (splitL s.data.toList).map txt := by
 have h1 := Lib.splitB_data ⟨#[10]⟩ 0 (Lib.countB s ⟨#[10]⟩) s
 have h2 : Lib.countB s ⟨#[10]⟩ = Lib.count s.data.toList [10] := rfl
 rw [h2, show ((⟨#[10]⟩ : ByteArray).data.toList) = [10] from rfl, splitK_eq _ _ (Nat.le_refl _)] at h1
 rw [← h1, List.map_map]
 have : (txt ∘ fun x : ByteArray => x.data.toList) = id := by funext x; rfl
 rw [this, List.map_id]
 rfl
theorem linesB_len (s : ByteArray) : (linesB s).length = Lib.countB s ⟨#[10]⟩ + 1 := by
 rw [lines_eq, List.length_map]
 exact splitL_count _ _ (Nat.le_refl _)
theorem linesB_size (s : ByteArray) : ∀ x ∈ linesB s, x.size ≤ s.size := by
 have key : ∀ l : List UInt8, ∀ x ∈ splitL l, x.length ≤ l.length := by
  intro l
  induction l with
  | nil => intro x hx; rw [List.mem_singleton.1 hx]; exact Nat.le_refl _
  | cons b r ih =>
   intro x hx
   rw [splitL] at hx
   obtain ⟨y, ys, e⟩ := splitL_ne r
   rw [e] at hx
   have h1 := ih y (by rw [e]; exact List.mem_cons_self)
   split at hx
   ·rcases List.mem_cons.1 hx with rfl | hx
    ·exact Nat.zero_le _
    ·have := ih x (by rw [e]; exact hx)
     rw [List.length_cons]; omega
   ·rcases List.mem_cons.1 hx with rfl | hx
    ·show (b :: y).length ≤ _
     rw [List.length_cons, List.length_cons]; omega
    ·have := ih x (by rw [e]; exact List.mem_cons_of_mem _ hx)
     rw [List.length_cons]; omega
 intro x hx
 rw [lines_eq] at hx
 obtain ⟨l, hl, rfl⟩ := List.mem_map.1 hx
 have h1 := key _ l hl
 have h2 : s.data.toList.length = s.size := by rw [Array.length_toList]; rfl
 show l.toArray.size ≤ _
 rw [List.size_toArray]
 omega
theorem linesB_many (s : ByteArray) : (linesB s).length ≤ s.size + 2 := by
 unfold linesB
 have h1 := Lib.splitB_length_le ⟨#[10]⟩ 0 (Lib.countB s ⟨#[10]⟩) s
 have h2 : Lib.countB s ⟨#[10]⟩ ≤ s.data.toList.length + 1 := Lib.count_le _ _
 have h3 : s.data.toList.length = s.size := by rw [Array.length_toList]; rfl
 omega
theorem spans_ok (p : Nat → Bool) (s : ByteArray) : ∀ (f pos : Nat) (st : Option Nat) (acc : List (Nat × Nat)), (∀ x ∈ acc, x.1 < x.2 ∧ x.2 ≤ s.size) → (∀ a, st = some a → a < pos ∧ a < s.size) →
  (∀ x ∈ (Lib.spansFromP p s f pos st acc).1, x.1 < x.2 ∧ x.2 ≤ s.size) ∧ (∀ a, (Lib.spansFromP p s f pos st acc).2 = some a → a < s.size) ∧ (Lib.spansFromP p s f pos st acc).1.length ≤ acc.length + f
 | 0, pos, st, acc, h1, h2 => ⟨h1, fun a ha => (h2 a ha).2, Nat.le_refl _⟩
 | f + 1, pos, st, acc, h1, h2 => by
  unfold Lib.spansFromP
  split
  ·rename_i hp
   have hw := Lib.width_pos s pos
   split
   ·split
    ·rename_i a
     have ha := h2 a rfl
     have := spans_ok p s f (pos + (Utf8.decode s pos).2) none (acc ++ [(a, pos)]) (fun x hx => by
      rcases List.mem_append.1 hx with hx | hx
      ·exact h1 x hx
      ·rw [List.mem_singleton.1 hx]; exact ⟨ha.1, Nat.le_of_lt hp⟩) (fun a ha => nomatch ha)
     rw [List.length_append, List.length_singleton] at this
     exact ⟨this.1, this.2.1, by omega⟩
    ·have := spans_ok p s f (pos + (Utf8.decode s pos).2) none acc h1 (fun a ha => nomatch ha)
     exact ⟨this.1, this.2.1, by omega⟩
   ·split
    ·rename_i a
     have ha := h2 a rfl
     have := spans_ok p s f (pos + (Utf8.decode s pos).2) (some a) acc h1 (fun b hb => by cases hb; exact ⟨by omega, ha.2⟩)
     exact ⟨this.1, this.2.1, by omega⟩
    ·have := spans_ok p s f (pos + (Utf8.decode s pos).2) (some pos) acc h1 (fun b hb => by cases hb; exact ⟨by omega, hp⟩)
     exact ⟨this.1, this.2.1, by omega⟩
  ·exact ⟨h1, fun a ha => (h2 a ha).2, by show acc.length ≤ _; omega⟩
theorem words_ok (s : ByteArray) : (∀ x ∈ wordsB s, 1 ≤ x.size ∧ x.size ≤ s.size) ∧ (wordsB s).length ≤ s.size + 1 := by
 obtain ⟨h1, h2, h3⟩ := spans_ok blankP s s.size 0 none [] (fun x hx => nomatch hx) (fun a ha => nomatch ha)
 have hs : (∀ x ∈ Lib.spansOfP blankP s, x.1 < x.2 ∧ x.2 ≤ s.size) ∧ (Lib.spansOfP blankP s).length ≤ s.size + 1 := by
  unfold Lib.spansOfP Lib.closeSpans
  split
  ·rename_i a ha
   refine ⟨fun x hx => ?_, ?_⟩
   ·rcases List.mem_append.1 hx with hx | hx
    ·exact h1 x hx
    ·rw [List.mem_singleton.1 hx]; exact ⟨h2 a ha, Nat.le_refl _⟩
   ·rw [List.length_append, List.length_singleton]
    simp only [List.length_nil, Nat.zero_add] at h3
    omega
  ·refine ⟨h1, ?_⟩
   simp only [List.length_nil, Nat.zero_add] at h3
   omega
 refine ⟨fun x hx => ?_, ?_⟩
 ·unfold wordsB Lib.goFieldsP at hx
  obtain ⟨y, hy, rfl⟩ := List.mem_map.1 hx
  have := hs.1 y hy
  rw [ByteArray.size_extract]
  omega
 ·unfold wordsB Lib.goFieldsP
  rw [List.length_map]
  exact hs.2
theorem words_txt : wordsB (txt []) = [] := by decide +kernel
end Go.Proofs.YtilkhmhgjbhfnaaGreatDoor
namespace Go.Proofs.YtilkhmhgjbhfnaaGreatDoor
open Go.RowKit
theorem make_ints (N : Nat) (h : N ≤ 65536) (w : World) : ∃ W, (Instr.makeSlice 29 (.int .i64 (N : Int)) (.int .i64 (N : Int))).run Tryz.prog w = .ok (.slice (some ⟨w.heap.size, 0, .none⟩) N N) W ∧ IntsAt (some w.heap.size) W (some ⟨w.heap.size, 0, .none⟩) N (List.replicate N 0) ∧ Below w.heap.size w W := by
 refine ⟨_, run_make_row' (P := Tryz.prog) 29 3 (.int .i64 0) 8 Tryz.underlying29 infoNum rfl .i64 .i64 N (by omega) (by omega) w, ⟨by simp, fun hn => ⟨w.heap.size, 0, rfl, by simp, fun B hB => ?_, fun j x hx => ?_⟩⟩, (Below.refl _ _).alloc (Nat.le_refl _) _⟩
 ·cases hB
  exact ⟨Nat.le_refl _, _, heap_alloc_new w _⟩
 ·have hj : j < N := by have := (List.getElem?_eq_some_iff.1 hx).1; simpa using this
  have h0 : x = 0 := by rw [List.getElem?_replicate, if_pos hj] at hx; exact (Option.some.inj hx).symm
  subst h0
  rw [Nat.zero_add]
  refine (cell_of_row _ w.heap.size _ _ _ (0, 0) (heap_alloc_new w _)).trans ?_
  simp [madeCells, hj, Nat.mod_one]
set_option maxRecDepth 100000 in
set_option maxHeartbeats 4000000 in
theorem mnew_any (n : Nat) (h1 : 1 ≤ n) (h8 : n ≤ 8) (w : World) :
  Calls Tryz.prog 14 #[.int .i64 (n : Int)] w fun e w' => ∃ v, e = .returned (.tuple #[v, .int .i64 0]) ∧ StAt (some w.heap.size) w' v (newV n) ∧ Below w.heap.size w w' := by
 have q1 : decide ((n : Int) < 1) = false := by rw [decide_eq_false_iff_not]; omega
 have q2 : decide ((8 : Int) < (n : Int)) = false := by rw [decide_eq_false_iff_not]; omega
 obtain ⟨W1, hW1⟩ : ∃ W1, w.alloc (.cells #[.slice none 0 0, .slice none 0 0, .slice none 0 0] 31) = W1 := ⟨_, rfl⟩
 have o1 : OutAt W1 w.heap.size (.slice none 0 0) (.slice none 0 0) (.slice none 0 0) := by rw [← hW1]; exact heap_alloc_new w _
 have l1 : Below w.heap.size w W1 := by rw [← hW1]; exact (Below.refl _ _).alloc (Nat.le_refl _) _
 have z1 : W1.heap.size = w.heap.size + 1 := by rw [← hW1]; simp
 obtain ⟨W2, hW2⟩ : ∃ W2, W1.alloc (.cells #[.int .i64 1, .bool true, .slice none 0 0, .string ⟨#[]⟩] 65) = W2 := ⟨_, rfl⟩
 have i2 : W2.heap[W1.heap.size]? = some (.cells #[.int .i64 1, .bool true, .slice none 0 0, .string ⟨#[]⟩] 65 (0, 0)) := by rw [← hW2]; exact heap_alloc_new W1 _
 have l2 : Below W1.heap.size W1 W2 := by rw [← hW2]; exact (Below.refl _ _).alloc (Nat.le_refl _) _
 have z2 : W2.heap.size = W1.heap.size + 1 := by rw [← hW2]; simp
 obtain ⟨W3, hmk, hints, l3⟩ := make_ints n (by omega) W2
 have i3 := (l3.block W1.heap.size (by omega)).trans i2
 have o3 : OutAt W3 w.heap.size (.slice none 0 0) (.slice none 0 0) (.slice none 0 0) := ((l2.trans (l3.mono (by omega))).block w.heap.size (by omega)).trans o1
 have hb3 : Below w.heap.size w W3 := Cv.next l1 (Cv.next l2 l3)
 obtain ⟨g0, g1, g2, gf⟩ := o3.get
 have gf0 := gf 0
 have gf1 := gf 1
 have gf2 := gf 2
 obtain ⟨W4, hW4, o4, k4, b4⟩ := o3.three (.slice (some ⟨W1.heap.size, 0, none⟩) 1 1) (.slice none 0 0) (.slice (some ⟨W2.heap.size, 0, none⟩) n n)
 have i4 := ((k4 65 (by decide)).same _ _ i3).trans i3
 have hi : InosAt (some w.heap.size) W4 (some ⟨W1.heap.size, 0, none⟩) 1 [⟨1, true, [], txt []⟩] := by
  refine ⟨rfl, fun _ => ⟨W1.heap.size, 0, rfl, (Array.getElem?_eq_some_iff.1 i4).1, fun B hB => ?_, fun j x hx => ?_⟩⟩
  ·cases hB
   exact ⟨by omega, _, i4⟩
  ·have hj : j = 0 := by have := (List.getElem?_eq_some_iff.1 hx).1; simpa using this
   subst hj
   have ex : (⟨1, true, [], txt []⟩ : Ino) = x := by simpa using hx
   subst ex
   refine ⟨?_, ?_, ⟨none, 0, 0, ?_, ⟨Nat.le_refl _, fun _ => rfl⟩, rfl, fun h => absurd h (by omega)⟩, ?_⟩ <;> (rw [cell_of_row W4 W1.heap.size _ _ _ (0, 0) i4]; rfl)
 have hd : DescsAt (some w.heap.size) W4 none 0 [] := ⟨rfl, fun h => absurd h (by omega)⟩
 have hm : IntsAt (some w.heap.size) W4 (some ⟨W2.heap.size, 0, none⟩) n (List.replicate n 0) := (hints.keep (k4 _ (by decide))).mono (by omega)
 have hst : StAt (some w.heap.size) W4 (.agg #[.slice (some ⟨W1.heap.size, 0, none⟩) 1 1, .slice none 0 0, .slice (some ⟨W2.heap.size, 0, none⟩) n n]) (newV n) := by
  refine ⟨⟨_, 1, 1, _, 0, 0, _, n, n, rfl, hi, hd, hm, ⟨Nat.le_refl _, fun h => by cases h⟩, ⟨Nat.le_refl _, fun _ => rfl⟩, ⟨Nat.le_refl _, fun h => by cases h⟩⟩, ⟨?_, ?_, ?_, ?_⟩⟩
  ·show 1 + bulkE [⟨1, true, [], txt []⟩] + 0 + (List.replicate n (0 : Int)).length ≤ _
   rw [List.length_replicate]
   show 1 + 0 + 0 + n ≤ _
   omega
  ·intro x hx
   have ex : x = ⟨1, true, [], txt []⟩ := by simpa [newV] using hx
   subst ex
   exact ⟨Nat.zero_le _, fun e he => by cases he⟩
  ·intro x hx
   have ex : x = ⟨1, true, [], txt []⟩ := by simpa [newV] using hx
   subst ex
   exact ⟨by show (-9223372036854775808 : Int) ≤ 1; omega, by show (1 : Int) ≤ 9223372036854775807; omega, fun e he => by cases he⟩
  ·intro x hx
   have ex : x = 0 := by
    have := List.mem_replicate.1 (show x ∈ List.replicate n (0 : Int) from hx)
    exact this.2
   subst ex
   omega
 have HST := Lib.hid hst
 have HB4 := Lib.hid (b4 _ _ (Nat.le_refl _) hb3)
 have HO4 := Lib.hid o4
 obtain ⟨t0, t1, t2, _⟩ := o4.get
 clear hst hi hd hm i4 i3 i2 o1 o3 o4 k4 b4 l1 l2 l3 hb3 hints z1 z2 gf
 go_enter Tryz.func14, Tryz.ntmps14
 go_wp2_with fail
 (try simp only [Exit.inBlock, Exit.then])
 refine bodyPost_ret (v := .tuple #[.agg #[.slice (some ⟨W1.heap.size, 0, none⟩) 1 1, .slice none 0 0, .slice (some ⟨W2.heap.size, 0, none⟩) n n], .int .i64 0]) ?_ rfl ⟨_, rfl, HST.out, HB4.out⟩
 rw [results_cell_tmp rfl]
 have hload := run_loadVar_row (P := Tryz.prog) W4 w.heap.size _ 31 _ (0, 0) _ HO4.out Tryz.underlying31 rfl (by kernel_rfl)
 simp [asAddr, hload, Result.andThen]
end Go.Proofs.YtilkhmhgjbhfnaaGreatDoor
