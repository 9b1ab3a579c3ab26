/- Parts of the proof, side by side: ConTest, Decimal3, ConWords, FsNew, MoNews. -/
import Derived.Test.YtilkhmhgjbhfnaaGreatDoorM15
import Derived.Test.YtilkhmhgjbhfnaaGreatDoorM00
import Derived.Laws.OwnMore
import Derived.OwnWalk
import Derived.Laws.AppendOwnNone
import Derived.Test.YtilkhmhgjbhfnaaGreatDoorM16
import Derived.Test.YtilkhmhgjbhfnaaGreatDoorM01
import Derived.Test.YtilkhmhgjbhfnaaGreatDoorM06
import Derived.Test.YtilkhmhgjbhfnaaGreatDoorM03
import Derived.Test.YtilkhmhgjbhfnaaGreatDoorM02
import Derived.Laws.ResultCell
set_option linter.unusedVariables false
set_option linter.unusedSimpArgs false
namespace Go.Proofs.YtilkhmhgjbhfnaaGreatDoor
def awakeS : ByteArray := ⟨#[99, 114, 101, 97, 116, 101, 32, 48, 32, 47, 97, 10, 35, 32, 120, 10, 111, 112, 101, 110, 32, 49, 32, 47, 97, 10, 119, 114, 105, 116, 101, 32, 49, 32, 48, 32, 48, 32, 54, 56, 54, 57, 10, 114, 101, 97, 100, 32, 49, 32, 48, 32, 49, 32, 57, 10, 108, 105, 115, 116, 32, 48, 32, 47, 10, 102, 114, 111, 98, 10, 115, 116, 97, 116, 32, 48, 32, 47, 10, 108, 105, 110, 107, 115, 32, 48, 32, 47, 97, 10, 104, 97, 115, 104, 32, 97]⟩
set_option maxRecDepth 100000 in
theorem con_awake : runB awakeS = [48, 10, 48, 32, 48, 10, 48, 32, 50, 10, 48, 32, 54, 57, 10, 48, 32, 97, 10, 101, 114, 114, 111, 114, 32, 50, 55, 48, 48, 10, 48, 32, 100, 105, 114, 10, 48, 32, 49, 10, 50, 32, 51, 49, 52, 10] := by decide +kernel
end Go.Proofs.YtilkhmhgjbhfnaaGreatDoor
namespace Go.Proofs.YtilkhmhgjbhfnaaGreatDoor.Dc
open Go.RowKit
theorem infoU8 : (Tryz.prog.info? 5).map (fun i => (i.zero, i.size, i.bytes)) = some (some (.int .u8 0), 1, 1) := by kernel_rfl
def byteV (l : List UInt8) : List Value := l.map fun b => .int .u8 (b.toNat : Int)
theorem byteRow_of_owns {w : World} {base n : Nat} {v : Value} {l : List UInt8} (h : w.ownsRow base 5 1 v n (byteV l)) (hl : l.length = n) :
  (v = .slice .none 0 0 ∧ l = []) ∨ ∃ g cap, v = .slice (some ⟨g, 0, .none⟩) n cap ∧ Cv.ByteRow w g l ∧ base ≤ g := by
 rcases h.2 with ⟨hv, h0⟩ | ⟨g, cap, cur, hv, hb, hg, hnc, hcm, hcs, htk⟩
 ·subst h0
  exact .inl ⟨hv, List.eq_nil_of_length_eq_zero hl⟩
 ·refine .inr ⟨g, cap, hv, ⟨(Array.getElem?_eq_some_iff.1 hg).1, fun j hj => ⟨?_, frozen_of_row w g j cur _ hg⟩⟩, hb⟩
  rw [cell_of_row w g j cur _ (0, 0) hg]
  have h1 : (byteV l)[j]? = some (.int .u8 ((l.getD j 0).toNat : Int)) := by
   simp [byteV, hj]
  rw [← htk, List.getElem?_take] at h1
  split at h1
  ·simpa using h1
  ·cases h1
def dgt (d : Nat) : UInt8 := UInt8.ofNat (48 + d)
theorem dgt_val (d : Nat) (hd : d < 10) : IntKind.u8.wrap (48 + (d : Int)) = ((dgt d).toNat : Int) := by
 unfold dgt
 rw [IntKind.wrap_u8', UInt8.toNat_ofNat']
 omega
def nilOf (v : Value) : Nat := match v with | .slice .none _ _ => 1 | _ => 0
theorem byteRow_cells {w : World} {g : Nat} {l : List UInt8} (h : Cv.ByteRow w g l) (j : Nat) (u : Value) (hu : (byteV l)[j]? = some u) : w.cell? ((⟨g, 0, .none⟩ : Addr).add j) = some u := by
 have hj : j < l.length := by
  have := (List.getElem?_eq_some_iff.1 hu).1
  simpa [byteV] using this
 rw [Cv.addr_add, (h.2 j hj).1, ← hu]
 simp [byteV, hj]
theorem byteRow_new (w : World) (y : UInt8) (b : Nat) (t : TypeId) (hb : b = w.heap.size) : Cv.ByteRow (w.alloc (.cells #[.int .u8 (y.toNat : Int)] t)) b [y] := by
 subst hb
 have hh := heap_alloc_new w (.cells #[.int .u8 (y.toNat : Int)] t)
 refine ⟨by simp, fun j hj => ⟨?_, frozen_of_row _ _ j _ _ hh⟩⟩
 obtain rfl : j = 0 := by simpa using hj
 rw [cell_of_row _ _ 0 _ _ (0, 0) hh]
 rfl
def decG : Nat → Nat → List UInt8 → List UInt8
 | 0, r, l => dgt r :: l
 | f + 1, r, l => if r < 10 then dgt r :: l else decG f (r / 10) (dgt (r % 10) :: l)
def dec3L (x : Nat) : List UInt8 := decG 3 x []
def dec3B (x : Nat) : ByteArray := ⟨(dec3L x).toArray⟩
def Dec3 (x r : Nat) (l : List UInt8) : Prop := ∃ f, f + l.length = 3 ∧ r < 10 ^ f ∧ ((r = 0 ∧ l ≠ [] ∧ l = dec3L x) ∨ (0 < r ∨ l = []) ∧ 0 < f ∧ decG f r l = dec3L x)
def Dec3Rel (w wr : World) (x : Nat) (sz v : Value) : Prop :=
 Below w.heap.size w wr ∧ ∃ (r : Nat) (l : List UInt8), sz = .int .u64 r ∧ r ≤ x ∧ Dec3 x r l ∧ ((l = [] ∧ v = .slice .none 0 0) ∨ (∃ g cap, 0 < l.length ∧ v = .slice (some ⟨g, 0, .none⟩) l.length cap ∧ Cv.ByteRow wr g l))
theorem dec3_step {x r : Nat} {l : List UInt8} (h : Dec3 x r l) (hr : 0 < r ∨ l = []) : Dec3 x (r / 10) (dgt (r % 10) :: l) := by
 obtain ⟨f, hf, hb, h⟩ := h
 have h2 : 0 < f ∧ decG f r l = dec3L x := by
  rcases h with ⟨h0, h1, _⟩ | ⟨_, h2, h3⟩
  ·rcases hr with hr | hr
   ·omega
   ·exact absurd hr h1
  ·exact ⟨h2, h3⟩
 obtain ⟨g, rfl⟩ : ∃ g, f = g + 1 := ⟨f - 1, by omega⟩
 have hq : r / 10 < 10 ^ g := by
  rw [Nat.div_lt_iff_lt_mul (by omega), ← Nat.pow_succ]
  exact hb
 refine ⟨g, by rw [List.length_cons]; omega, hq, ?_⟩
 have h3 := h2.2
 unfold decG at h3
 by_cases h10 : r < 10
 ·rw [if_pos h10] at h3
  exact .inl ⟨by omega, by simp, by rw [← h3, Nat.mod_eq_of_lt h10]⟩
 ·rw [if_neg h10] at h3
  refine .inr ⟨.inl (by omega), ?_, h3⟩
  rcases Nat.eq_zero_or_pos g with h0 | h0
  ·subst h0
   simp at hb
   omega
  ·exact h0
theorem dec3_end {x : Nat} {l : List UInt8} (h : Dec3 x 0 l) (hl : 0 < l.length) : l = dec3L x := by
 obtain ⟨f, hf, hb, h⟩ := h
 rcases h with ⟨_, _, h1⟩ | ⟨h1, _, _⟩
 ·exact h1
 ·rcases h1 with h1 | h1
  ·omega
  ·rw [h1] at hl; simp at hl
theorem dec3_len {x r : Nat} {l : List UInt8} (h : Dec3 x r l) : l.length ≤ 3 := by
 obtain ⟨f, hf, _⟩ := h
 omega
set_option maxHeartbeats 4000000 in
theorem decimal3_any (x : Nat) (hx : x < 1000) (w : World) :
  Calls Tryz.prog 12 #[.int .i64 x] w fun e w' => e = .returned (.string (dec3B x)) ∧ Below w.heap.size w w' := by
 obtain ⟨i0, hi, hz0, hz1, hz2⟩ := info_parts infoU8
 have hw0 : IntKind.u64.wrap (x : Int) = (x : Int) := by rw [IntKind.wrap_u64]; omega
 have q0 : decide ((x : Int) < 0) = false := by simp
 have HX := Lib.hid hx
 clear hx
 go_enter Tryz.func12, Tryz.ntmps12
 go_wp2_with fail
 go_loopw [3, 4] (fun sz v wr => Dec3Rel w wr x sz v) (fun sz v _ => (intOf sz).toNat + nilOf v)
 case atStart => exact ⟨Below.refl _ _, x, [], rfl, Nat.le_refl _, ⟨3, rfl, by have := HX.out; omega, .inr ⟨.inr rfl, by omega, rfl⟩⟩, .inl ⟨rfl, rfl⟩⟩
 case round =>
  obtain ⟨hbel, r, l, rfl, hrx, hdec, hv⟩ := hrel
  have HB := Lib.hid hbel
  have HDEC := Lib.hid hdec
  have hlen := dec3_len hdec
  obtain ⟨d, hd⟩ : ∃ d, r % 10 = d := ⟨_, rfl⟩
  have hd10 : d < 10 := by omega
  have e1 : (r : Int).tmod 10 = (d : Int) := by rw [← hd]; rfl
  obtain ⟨q, hq⟩ : ∃ q, r / 10 = q := ⟨_, rfl⟩
  have e2 : (r : Int).tdiv 10 = (q : Int) := by rw [← hq]; rfl
  have hdv := dgt_val d hd10
  obtain ⟨y, hy⟩ : ∃ y, dgt d = y := ⟨_, rfl⟩
  rw [hy] at hdv
  have hxq : q ≤ r ∧ (r = 0 ∨ q < r) := by omega
  have hwq : IntKind.u64.wrap (q : Int) = (q : Int) := by rw [IntKind.wrap_u64]; have := HX.out; omega
  have hwd : IntKind.u64.wrap (d : Int) = (d : Int) := by rw [IntKind.wrap_u64]; omega
  have hnext : (0 < r ∨ l = []) → Dec3 x q (y :: l) := fun h => by have := dec3_step hdec h; rw [hd, hq, hy] at this; exact this
  have HN := Lib.hid hnext
  have HXQ := Lib.hid hxq
  have HRX := Lib.hid hrx
  have HOWN := Lib.hid (World.ownsRow_lit (base := w.heap.size) (e := 5) (size := 1) wr #[.int .u8 (y.toNat : Int)] 1 HB.out.size (by unfold maxLen; omega) rfl)
  clear hbel hdec hd hq hxq hnext hrx
  rcases hv with ⟨rfl, rfl⟩ | ⟨g, cap, hlp, rfl, hrow⟩
  ·by_cases hx0 : r = 0
   ·subst hx0
    have hy0 : y = dgt 0 := by
     have : d = 0 := by
      have h9 : ((0 : Nat) : Int).tmod 10 = (d : Int) := e1
      have h8 : ((0 : Nat) : Int).tmod 10 = 0 := rfl
      omega
     rw [← hy, this]
    subst hy0
    have HO0 := Lib.hid (World.ownsRow_lit (base := w.heap.size) (e := 5) (size := 1) wr #[.int .u8 48] 1 HB.out.size (by unfold maxLen; omega) rfl)
    have hq0 : q = 0 := by have := HXQ.out; omega
    subst hq0
    clear hdv e1 e2 hy
    go_wp2_with (at_builtin; refine wpList_append_own_none rfl _ _ 37 rfl w.heap.size 5 i0 1 Tryz.underlying37 hi _ 1 _ rfl HO0.out rfl ?_)
    exact ⟨⟨HB.out.alloc HB.out.size _, 0, [dgt 0], rfl, Nat.zero_le _, HN.out (.inr rfl), .inr ⟨_, 1, by decide, rfl, byteRow_new wr (dgt 0) _ _ rfl⟩⟩, by simp [intOf, nilOf]⟩
   ·have q1 : decide (0 < (r : Int)) = true := by simp; omega
    go_wp2_with (at_builtin; refine wpList_append_own_none rfl _ _ 37 rfl w.heap.size 5 i0 1 Tryz.underlying37 hi _ 1 _ rfl HOWN.out rfl ?_)
    refine ⟨⟨HB.out.alloc HB.out.size _, q, [y], rfl, by have := HXQ.out; have := HRX.out; omega, HN.out (.inr rfl), .inr ⟨_, 1, by simp, rfl, byteRow_new wr y _ _ rfl⟩⟩, ?_⟩
    have := HXQ.out
    simp [intOf, nilOf]
    omega
  ·by_cases hq0 : r = 0
   ·subst hq0
    have hdec : dec3B x = ⟨l.toArray⟩ := by
     unfold dec3B
     rw [← dec3_end HDEC.out hlp]
    have HDE := Lib.hid hdec
    have hcv := Cv.back_of hrow l.length cap rfl
    have hl0 : ((l.length : Int) == 0) = false := by rw [beq_eq_false_iff_ne]; omega
    clear hrow hdec hy hdv e1 e2
    go_wp2_with fail
    go_ret
    exact ⟨by rw [HDE.out]; rfl, HB.out⟩
   ·have q1 : decide (0 < (r : Int)) = true := by simp; omega
    have hrow2 : Cv.ByteRow (wr.alloc (.cells #[.int .u8 (y.toNat : Int)] 5)) g l := hrow.below ((Below.refl _ _).alloc (Nat.le_refl _) _) hrow.1
    have HROW := Lib.hid hrow2
    obtain ⟨n, hn⟩ : ∃ n, l.length = n := ⟨_, rfl⟩
    have HL := Lib.hid hn
    have hn3 : n ≤ 3 := by omega
    rw [hn]
    clear hrow hrow2 hn hlp hlen
    go_wp2_with (at_builtin; refine wpList_append_own _ rfl _ _ 37 rfl w.heap.size 5 i0 (.int .u8 0) 1 1 Tryz.underlying37 hi hz0 hz1 hz2 rfl (by decide) _ _ _ rfl HOWN.out ⟨g, 0, .none⟩ n cap (byteV l) rfl ?ca1 ?ca2 ?ca3 ?ca4 ?ca5 ?ca6 ?_)
    case ca1 => first | (rw [← HL.out]; simp [byteV]) | exact HL.out | rfl
    case ca2 =>
     intro j u hu
     have := byteRow_cells HROW.out j u hu
     rw [Cv.addr_add] at this
     first | exact this | (rw [Cv.addr_add]; exact this)
    case ca3 =>
     intro u hu
     obtain ⟨b, _, rfl⟩ := List.mem_map.1 hu
     rfl
    case ca4 => unfold maxLen; omega
    case ca5 => omega
    case ca6 => exact Nat.le_trans HB.out.size (by simp)
    intro v' w5 hown' hgrow _
    have hb5 : Below w.heap.size w w5 := (HB.out.alloc HB.out.size _).grown hgrow (Nat.le_trans HB.out.size (by simp)) fun x hx => (HOWN.out.lt x hx).1
    have hown5 : w5.ownsRow w.heap.size 5 1 v' (1 + n) (byteV (y :: l)) := hown'
    rcases byteRow_of_owns hown5 (by rw [List.length_cons, HL.out]; omega) with ⟨_, hnil⟩ | ⟨g5, cap5, rfl, hrow5, _⟩
    ·cases hnil
    ·have HR5 := Lib.hid hrow5
     have HB5 := Lib.hid hb5
     clear hown' hgrow hb5 hown5 hrow5
     go_wp2_with fail
     refine ⟨⟨HB5.out, q, y :: l, rfl, by have := HXQ.out; have := HRX.out; omega, HN.out (.inl (by omega)), .inr ⟨g5, cap5, by simp, by rw [List.length_cons, HL.out, Nat.add_comm], HR5.out⟩⟩, ?_⟩
     have := HXQ.out
     simp [intOf, nilOf]
     omega
end Go.Proofs.YtilkhmhgjbhfnaaGreatDoor.Dc
namespace Go.Proofs.YtilkhmhgjbhfnaaGreatDoor
open Go.RowKit Go.Lib
set_option maxRecDepth 100000 in
set_option maxHeartbeats 4000000 in
theorem blank_any (x : Nat) (w : World) : Calls Tryz.prog 30 #[.int .i32 (x : Int)] w fun e w' => e = .returned (.bool (blankP x)) ∧ w' = w := by
 obtain ⟨R, hR⟩ : ∃ R, blankP x = R := ⟨_, rfl⟩
 rw [hR]
 unfold blankP at hR
 have HR := Lib.hid hR
 clear hR
 go_enter Tryz.func30, Tryz.ntmps30
 by_cases h1 : x = 32
 ·subst h1
  obtain rfl : R = true := by rw [← HR.out]; rfl
  go_wp2_with fail
  go_ret
  exact ⟨rfl, rfl⟩
 ·have e1 : ((x : Int) == 32) = false := by rw [beq_eq_false_iff_ne]; omega
  by_cases h2 : x = 9
  ·subst h2
   obtain rfl : R = true := by rw [← HR.out]; rfl
   go_wp2_with fail
   go_ret
   exact ⟨rfl, rfl⟩
  ·have e2 : ((x : Int) == 9) = false := by rw [beq_eq_false_iff_ne]; omega
   obtain rfl : R = false := by
    rw [← HR.out]
    simp [h1, h2]
   clear h1 h2
   go_wp2_with fail
   go_ret
   exact ⟨rfl, rfl⟩
theorem words_any (s : ByteArray) (w : World) (hs : s.size ≤ 4294967296) :
  Calls Tryz.prog 16 #[.string s] w fun e w' => ∃ A, e = .returned (.slice (some ⟨A, 0, none⟩) (wordsB s).length (wordsB s).length) ∧ NmsAt none w' (some ⟨A, 0, none⟩) (wordsB s).length (wordsB s) ∧ Below w.heap.size w w' := by
 have hp : Go.Proofs.PredAtRunes Tryz.prog 30 #[] blankP w := by
  intro W x hx hb
  refine (blank_any x W).mono ?_
  rintro e w' ⟨rfl, rfl⟩
  exact ⟨rfl, 0, rfl⟩
 have h1 := strings_FieldsFunc_runes 30 #[] (enters_of Tryz.func30 (by kernel_rfl) rfl) blankP s w hs hp
 go_enter Tryz.func16, Tryz.ntmps16
 go_wp2_with fail
 refine h1.mono ?_
 clear h1
 rintro e w1 ⟨A, rfl, hA, hown, hb⟩
 have HO := Lib.hid hown
 have HB := Lib.hid hb
 clear hown hb hp
 go_wp2_with fail
 go_ret
 refine ⟨A, rfl, ⟨rfl, fun hn => ?_⟩, HB.out⟩
 obtain ⟨A', c', hv, hc, hn', hg⟩ := row_any HO.out (by decide)
 injection hv with e1 _ _
 obtain ⟨g, hA', hlt, hm, hcell⟩ := hg hn
 rw [← e1] at hA'
 injection hA' with hA'
 injection hA' with hA'
 refine ⟨A, 0, rfl, by rw [hA']; exact hlt, Mine.any _ _ _, fun j x hx => ?_⟩
 rw [Nat.zero_add, hA', hcell j (by rw [Nat.mul_one]; exact (List.getElem?_eq_some_iff.1 hx).1), List.getElem?_map]
 show (Lib.goFieldsP blankP s)[j]?.map Value.string = _
 rw [show (Lib.goFieldsP blankP s)[j]? = some x from hx]
 rfl
end Go.Proofs.YtilkhmhgjbhfnaaGreatDoor
namespace Go.Proofs.YtilkhmhgjbhfnaaGreatDoor
open Go.RowKit
theorem make_ints (N : Nat) (h : N ≤ 65536) (w : World) : ∃ W, (Instr.makeSlice 29 (.int .i64 (N : Int)) (.int .i64 (N : Int))).run Tryz.prog w = .ok (.slice (some ⟨w.heap.size, 0, .none⟩) N N) W ∧ IntsAt (some w.heap.size) W (some ⟨w.heap.size, 0, .none⟩) N (List.replicate N 0) ∧ Below w.heap.size w W := by
 refine ⟨_, run_make_row' (P := Tryz.prog) 29 3 (.int .i64 0) 8 Tryz.underlying29 infoNum rfl .i64 .i64 N (by omega) (by omega) w, ⟨by simp, fun hn => ⟨w.heap.size, 0, rfl, by simp, fun B hB => ?_, fun j x hx => ?_⟩⟩, (Below.refl _ _).alloc (Nat.le_refl _) _⟩
 ·cases hB
  exact ⟨Nat.le_refl _, _, heap_alloc_new w _⟩
 ·have hj : j < N := by have := (List.getElem?_eq_some_iff.1 hx).1; simpa using this
  have h0 : x = 0 := by rw [List.getElem?_replicate, if_pos hj] at hx; exact (Option.some.inj hx).symm
  subst h0
  rw [Nat.zero_add]
  refine (cell_of_row _ w.heap.size _ _ _ (0, 0) (heap_alloc_new w _)).trans ?_
  simp [madeCells, hj, Nat.mod_one]
set_option maxRecDepth 100000 in
set_option maxHeartbeats 4000000 in
theorem mnew_any (n : Nat) (h1 : 1 ≤ n) (h8 : n ≤ 8) (w : World) :
  Calls Tryz.prog 14 #[.int .i64 (n : Int)] w fun e w' => ∃ v, e = .returned (.tuple #[v, .int .i64 0]) ∧ StAt (some w.heap.size) w' v (newV n) ∧ Below w.heap.size w w' := by
 have q1 : decide ((n : Int) < 1) = false := by rw [decide_eq_false_iff_not]; omega
 have q2 : decide ((8 : Int) < (n : Int)) = false := by rw [decide_eq_false_iff_not]; omega
 obtain ⟨W1, hW1⟩ : ∃ W1, w.alloc (.cells #[.slice none 0 0, .slice none 0 0, .slice none 0 0] 31) = W1 := ⟨_, rfl⟩
 have o1 : OutAt W1 w.heap.size (.slice none 0 0) (.slice none 0 0) (.slice none 0 0) := by rw [← hW1]; exact heap_alloc_new w _
 have l1 : Below w.heap.size w W1 := by rw [← hW1]; exact (Below.refl _ _).alloc (Nat.le_refl _) _
 have z1 : W1.heap.size = w.heap.size + 1 := by rw [← hW1]; simp
 obtain ⟨W2, hW2⟩ : ∃ W2, W1.alloc (.cells #[.int .i64 1, .bool true, .slice none 0 0, .string ⟨#[]⟩] 65) = W2 := ⟨_, rfl⟩
 have i2 : W2.heap[W1.heap.size]? = some (.cells #[.int .i64 1, .bool true, .slice none 0 0, .string ⟨#[]⟩] 65 (0, 0)) := by rw [← hW2]; exact heap_alloc_new W1 _
 have l2 : Below W1.heap.size W1 W2 := by rw [← hW2]; exact (Below.refl _ _).alloc (Nat.le_refl _) _
 have z2 : W2.heap.size = W1.heap.size + 1 := by rw [← hW2]; simp
 obtain ⟨W3, hmk, hints, l3⟩ := make_ints n (by omega) W2
 have i3 := (l3.block W1.heap.size (by omega)).trans i2
 have o3 : OutAt W3 w.heap.size (.slice none 0 0) (.slice none 0 0) (.slice none 0 0) := ((l2.trans (l3.mono (by omega))).block w.heap.size (by omega)).trans o1
 have hb3 : Below w.heap.size w W3 := Cv.next l1 (Cv.next l2 l3)
 obtain ⟨g0, g1, g2, gf⟩ := o3.get
 have gf0 := gf 0
 have gf1 := gf 1
 have gf2 := gf 2
 obtain ⟨W4, hW4, o4, k4, b4⟩ := o3.three (.slice (some ⟨W1.heap.size, 0, none⟩) 1 1) (.slice none 0 0) (.slice (some ⟨W2.heap.size, 0, none⟩) n n)
 have i4 := ((k4 65 (by decide)).same _ _ i3).trans i3
 have hi : InosAt (some w.heap.size) W4 (some ⟨W1.heap.size, 0, none⟩) 1 [⟨1, true, [], txt []⟩] := by
  refine ⟨rfl, fun _ => ⟨W1.heap.size, 0, rfl, (Array.getElem?_eq_some_iff.1 i4).1, fun B hB => ?_, fun j x hx => ?_⟩⟩
  ·cases hB
   exact ⟨by omega, _, i4⟩
  ·have hj : j = 0 := by have := (List.getElem?_eq_some_iff.1 hx).1; simpa using this
   subst hj
   have ex : (⟨1, true, [], txt []⟩ : Ino) = x := by simpa using hx
   subst ex
   refine ⟨?_, ?_, ⟨none, 0, 0, ?_, ⟨Nat.le_refl _, fun _ => rfl⟩, rfl, fun h => absurd h (by omega)⟩, ?_⟩ <;> (rw [cell_of_row W4 W1.heap.size _ _ _ (0, 0) i4]; rfl)
 have hd : DescsAt (some w.heap.size) W4 none 0 [] := ⟨rfl, fun h => absurd h (by omega)⟩
 have hm : IntsAt (some w.heap.size) W4 (some ⟨W2.heap.size, 0, none⟩) n (List.replicate n 0) := (hints.keep (k4 _ (by decide))).mono (by omega)
 have hst : StAt (some w.heap.size) W4 (.agg #[.slice (some ⟨W1.heap.size, 0, none⟩) 1 1, .slice none 0 0, .slice (some ⟨W2.heap.size, 0, none⟩) n n]) (newV n) := by
  refine ⟨⟨_, 1, 1, _, 0, 0, _, n, n, rfl, hi, hd, hm, ⟨Nat.le_refl _, fun h => by cases h⟩, ⟨Nat.le_refl _, fun _ => rfl⟩, ⟨Nat.le_refl _, fun h => by cases h⟩⟩, ⟨?_, ?_, ?_, ?_⟩⟩
  ·show 1 + bulkE [⟨1, true, [], txt []⟩] + 0 + (List.replicate n (0 : Int)).length ≤ _
   rw [List.length_replicate]
   show 1 + 0 + 0 + n ≤ _
   omega
  ·intro x hx
   have ex : x = ⟨1, true, [], txt []⟩ := by simpa [newV] using hx
   subst ex
   exact ⟨Nat.zero_le _, fun e he => by cases he⟩
  ·intro x hx
   have ex : x = ⟨1, true, [], txt []⟩ := by simpa [newV] using hx
   subst ex
   exact ⟨by show (-9223372036854775808 : Int) ≤ 1; omega, by show (1 : Int) ≤ 9223372036854775807; omega, fun e he => by cases he⟩
  ·intro x hx
   have ex : x = 0 := by
    have := List.mem_replicate.1 (show x ∈ List.replicate n (0 : Int) from hx)
    exact this.2
   subst ex
   omega
 have HST := Lib.hid hst
 have HB4 := Lib.hid (b4 _ _ (Nat.le_refl _) hb3)
 have HO4 := Lib.hid o4
 obtain ⟨t0, t1, t2, _⟩ := o4.get
 clear hst hi hd hm i4 i3 i2 o1 o3 o4 k4 b4 l1 l2 l3 hb3 hints z1 z2 gf
 go_enter Tryz.func14, Tryz.ntmps14
 go_wp2_with fail
 (try simp only [Exit.inBlock, Exit.then])
 refine bodyPost_ret (v := .tuple #[.agg #[.slice (some ⟨W1.heap.size, 0, none⟩) 1 1, .slice none 0 0, .slice (some ⟨W2.heap.size, 0, none⟩) n n], .int .i64 0]) ?_ rfl ⟨_, rfl, HST.out, HB4.out⟩
 rw [results_cell_tmp rfl]
 have hload := run_loadVar_row (P := Tryz.prog) W4 w.heap.size _ 31 _ (0, 0) _ HO4.out Tryz.underlying31 rfl (by kernel_rfl)
 simp [asAddr, hload, Result.andThen]
end Go.Proofs.YtilkhmhgjbhfnaaGreatDoor
