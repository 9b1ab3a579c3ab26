/- Parts of the proof, side by side: Awake14, Decimal3. -/
import Derived.Test.YthhceopnnappgaaGreatDoorM10
import Derived.Test.YthhceopnnappgaaGreatDoorM37
import Derived.Test.YthhceopnnappgaaGreatDoorM00
import Derived.Laws.OwnMore
import Derived.OwnWalk
import Derived.Laws.AppendOwnNone
set_option linter.unusedVariables false
set_option linter.unusedSimpArgs false
namespace Go.Proofs.YthhceopnnappgaaGreatDoor
open Go.RowKit
def callA : Ca := ⟨0, 0, 0, 0, 0, ⟨#[47, 97]⟩, ⟨#[]⟩, ⟨#[]⟩⟩
def stA : St := ⟨[⟨1, true, [⟨⟨#[97]⟩, 2⟩], ⟨#[]⟩⟩, ⟨2, false, [], ⟨#[]⟩⟩], [], [1]⟩
def stNone : St := ⟨[], [], []⟩
theorem stNone_at (w : World) : StAt none w (.agg #[.slice none 0 0, .slice none 0 0, .slice none 0 0]) stNone :=
 ⟨⟨none, 0, 0, none, 0, 0, none, 0, 0, rfl, ⟨rfl, fun h => absurd h (by omega)⟩, ⟨rfl, fun h => absurd h (by omega)⟩, ⟨rfl, fun h => absurd h (by omega)⟩, ⟨by omega, fun _ => rfl⟩, ⟨by omega, fun _ => rfl⟩, ⟨by omega, fun _ => rfl⟩⟩, ⟨by decide +kernel, by decide +kernel, by decide +kernel⟩⟩
theorem num14 (n : Int) (w : World) : Calls Tryz.prog 11 #[.int .i64 n] w fun e w' => e = .returned (.int .i64 n) ∧ w = w' := by
 go_enter Tryz.func11, Tryz.ntmps11
 go_wp2_with fail
 go_ret
 exact ⟨rfl, rfl⟩
theorem Do_14 (v : Value) (w : World) (h : StAt none w v (newV 1)) :
  Calls Tryz.prog 19 #[v, caV callA] w fun e w' => ∃ v', e = .returned (.tuple #[v', resV (make1V (newV 1) callA).2]) ∧ StAt (some w.heap.size) w' v' stA ∧ Below w.heap.size w w' := by
 have e : (make1V (newV 1) callA).1 = stA := by decide +kernel
 rw [← e]
 exact Do_of v (newV 1) callA _ _ w h fun u hu => do_make v (newV 1) callA (-1) u hu (by decide +kernel) (by decide) (by decide +kernel) rfl (by decide) ⟨⟨by decide +kernel, by decide +kernel, by decide +kernel⟩, ⟨by decide +kernel, by decide +kernel, by decide +kernel⟩, ⟨by decide +kernel, by decide +kernel, by decide +kernel⟩, by decide +kernel⟩ (by decide +kernel)
theorem of_stA : txt (ofO stA) = ⟨#[100, 32, 47, 32, 49, 10, 102, 32, 47, 97, 32, 50, 32, 45, 10, 109, 32, 49, 10]⟩ := congrArg txt (show ofO stA = [100, 32, 47, 32, 49, 10, 102, 32, 47, 97, 32, 50, 32, 45, 10, 109, 32, 49, 10] by decide +kernel)
theorem files_stA : txt (filesO stA) = ⟨#[100, 32, 47, 32, 49, 10, 102, 32, 47, 97, 32, 50, 32, 45, 10]⟩ := congrArg txt (show filesO stA = [100, 32, 47, 32, 49, 10, 102, 32, 47, 97, 32, 50, 32, 45, 10] by decide +kernel)
theorem code_stA : codeO stA = 0 ∧ codeO stNone = 1400 := ⟨by decide +kernel, by decide +kernel⟩
theorem same_stA : sameO stA stA = true ∧ sameO (newV 1) stA = false := ⟨by decide +kernel, by decide +kernel⟩
set_option maxRecDepth 100000 in
set_option maxHeartbeats 8000000 in
theorem awake14 (w : World) (hT : Tab w) : Calls Tryz.prog 16 #[] w fun e w' => e = .returned (.bool true) ∧ Below w.heap.size w w' := by
 have HT := Lib.hid hT
 clear hT
 go_enter Tryz.func16, Tryz.ntmps16
 go_wp2_with fail
 refine (new_any 1 (by omega) (by omega) w).mono ?_
 rintro e w1 ⟨v1, rfl, hst1, hb1⟩
 obtain ⟨A1, n1, c1, E1, m1, d1, D1, k1, e1, rfl, _⟩ := hst1.at_
 obtain ⟨W1, hW1, p0, p1, p2, hal1, hl1⟩ := box_st w1 A1 n1 c1 E1 m1 d1 D1 k1 e1
 have HB := Lib.hid (Cv.next hb1 hal1)
 have HS := Lib.hid (hst1.weak.below hal1)
 have HP := Lib.hid (And.intro p0 (And.intro p1 p2))
 have HL1 := Lib.hid hl1
 clear hb1 hst1 hal1
 go_wp2_with fail
 refine (Do_14 _ W1 HS.out).mono ?_
 rintro e w2 ⟨v2, rfl, hst2, hb2⟩
 have hst2 := hst2.weak
 obtain ⟨A2, n2, c2, E2, m2, d2, D2, k2, e2, rfl, _⟩ := hst2.at_
 have HST2 := Lib.hid hst2
 have HB2 := Lib.hid hb2
 clear hst2 hb2 p0 p1 p2
 unfold resV
 go_wp2_with fail
 obtain ⟨W2, hW2, q0, q1, q2, hal2, hl2⟩ := box_st w2 A2 n2 c2 E2 m2 d2 D2 k2 e2
 rw [hW2]
 have hst2 := HST2.out
 have hb2 := HB2.out
 obtain ⟨W3, hW3⟩ : ∃ W3, W2.alloc (.cells #[.int .i64 (make1V (newV 1) callA).2.code, .int .i64 (make1V (newV 1) callA).2.fd, .int .i64 (make1V (newV 1) callA).2.num, .bool (make1V (newV 1) callA).2.dir, .string (make1V (newV 1) callA).2.data, .slice none 0 0] 44) = W3 := ⟨_, rfl⟩
 rw [hW3]
 have hz2 : W2.heap.size = w2.heap.size + 1 := by rw [← hW2]; simp
 have hz3 : W3.heap.size = w2.heap.size + 2 := by rw [← hW3, ← hW2]; simp
 have hal3 : Below W2.heap.size W2 W3 := by rw [← hW3]; exact (Below.refl _ _).alloc (Nat.le_refl _) _
 have hb13 : Below W1.heap.size W1 W3 := Cv.next (Cv.next hb2 hal2) hal3
 have HS := Lib.hid (HS.out.below hb13)
 have HU := Lib.hid ((hst2.below hal2).below hal3)
 have HB := Lib.hid (Cv.next HB.out hb13)
 have p0 := (hb13.cell (p := ⟨w1.heap.size, 0, none⟩) hl1).trans HP.out.1
 have p1 := (hb13.cell (p := ⟨w1.heap.size, 1, none⟩) hl1).trans HP.out.2.1
 have p2 := (hb13.cell (p := ⟨w1.heap.size, 2, none⟩) hl1).trans HP.out.2.2
 have q0 := (hal3.cell (p := ⟨w2.heap.size, 0, none⟩) hl2).trans q0
 have q1 := (hal3.cell (p := ⟨w2.heap.size, 1, none⟩) hl2).trans q1
 have q2 := (hal3.cell (p := ⟨w2.heap.size, 2, none⟩) hl2).trans q2
 have lp : w1.heap.size < W3.heap.size := Nat.lt_of_lt_of_le hl1 hb13.size
 have lq : w2.heap.size < W3.heap.size := Nat.lt_of_lt_of_le hl2 hal3.size
 clear hst2 hb2 hal2 hal3 hb13 hl1 hl2 hW2 hW3
 have h1 := shof_any _ stA W3 HU.out (HT.out.below HB.out)
 rw [of_stA, code_stA.1] at h1
 refine h1.mono ?_
 clear h1
 rintro e w4 ⟨rfl, hb4⟩
 have HS := Lib.hid (HS.out.below hb4)
 have HU := Lib.hid (HU.out.below hb4)
 have HB := Lib.hid (Cv.next HB.out hb4)
 have p0 := (hb4.cell (p := ⟨w1.heap.size, 0, none⟩) lp).trans p0
 have p1 := (hb4.cell (p := ⟨w1.heap.size, 1, none⟩) lp).trans p1
 have p2 := (hb4.cell (p := ⟨w1.heap.size, 2, none⟩) lp).trans p2
 have q0 := (hb4.cell (p := ⟨w2.heap.size, 0, none⟩) lq).trans q0
 have q1 := (hb4.cell (p := ⟨w2.heap.size, 1, none⟩) lq).trans q1
 have q2 := (hb4.cell (p := ⟨w2.heap.size, 2, none⟩) lq).trans q2
 have lp : w1.heap.size < w4.heap.size := Nat.lt_of_lt_of_le lp hb4.size
 have lq : w2.heap.size < w4.heap.size := Nat.lt_of_lt_of_le lq hb4.size
 clear hb4
 go_wp2_with fail
 have h1 := shfiles_any _ stA w4 HU.out (HT.out.below HB.out)
 rw [files_stA, code_stA.1] at h1
 refine h1.mono ?_
 clear h1
 rintro e w5 ⟨rfl, hb5⟩
 have HS := Lib.hid (HS.out.below hb5)
 have HU := Lib.hid (HU.out.below hb5)
 have HB := Lib.hid (Cv.next HB.out hb5)
 have p0 := (hb5.cell (p := ⟨w1.heap.size, 0, none⟩) lp).trans p0
 have p1 := (hb5.cell (p := ⟨w1.heap.size, 1, none⟩) lp).trans p1
 have p2 := (hb5.cell (p := ⟨w1.heap.size, 2, none⟩) lp).trans p2
 have q0 := (hb5.cell (p := ⟨w2.heap.size, 0, none⟩) lq).trans q0
 have q1 := (hb5.cell (p := ⟨w2.heap.size, 1, none⟩) lq).trans q1
 have q2 := (hb5.cell (p := ⟨w2.heap.size, 2, none⟩) lq).trans q2
 have lp : w1.heap.size < w5.heap.size := Nat.lt_of_lt_of_le lp hb5.size
 have lq : w2.heap.size < w5.heap.size := Nat.lt_of_lt_of_le lq hb5.size
 clear hb5
 go_wp2_with fail
 have h1 := shof_any _ stNone w5 (stNone_at w5) (HT.out.below HB.out)
 rw [code_stA.2] at h1
 refine h1.mono ?_
 clear h1
 rintro e w6 ⟨rfl, hb6⟩
 have HS := Lib.hid (HS.out.below hb6)
 have HU := Lib.hid (HU.out.below hb6)
 have HB := Lib.hid (Cv.next HB.out hb6)
 have p0 := (hb6.cell (p := ⟨w1.heap.size, 0, none⟩) lp).trans p0
 have p1 := (hb6.cell (p := ⟨w1.heap.size, 1, none⟩) lp).trans p1
 have p2 := (hb6.cell (p := ⟨w1.heap.size, 2, none⟩) lp).trans p2
 have q0 := (hb6.cell (p := ⟨w2.heap.size, 0, none⟩) lq).trans q0
 have q1 := (hb6.cell (p := ⟨w2.heap.size, 1, none⟩) lq).trans q1
 have q2 := (hb6.cell (p := ⟨w2.heap.size, 2, none⟩) lq).trans q2
 have lp : w1.heap.size < w6.heap.size := Nat.lt_of_lt_of_le lp hb6.size
 have lq : w2.heap.size < w6.heap.size := Nat.lt_of_lt_of_le lq hb6.size
 clear hb6
 go_wp2_with fail
 refine (num14 _ _).mono ?_
 rintro e w6' ⟨rfl, rfl⟩
 go_wp2_with fail
 refine (num14 _ _).mono ?_
 rintro e w6' ⟨rfl, rfl⟩
 go_wp2_with fail
 refine (num14 _ _).mono ?_
 rintro e w6' ⟨rfl, rfl⟩
 go_wp2_with fail
 have h1 := shsame_any _ _ stA stA w6 HU.out HU.out (HT.out.below HB.out)
 rw [same_stA.1] at h1
 refine h1.mono ?_
 clear h1
 rintro e w7 ⟨rfl, hb7⟩
 have HS := Lib.hid (HS.out.below hb7)
 have HU := Lib.hid (HU.out.below hb7)
 have HB := Lib.hid (Cv.next HB.out hb7)
 have p0 := (hb7.cell (p := ⟨w1.heap.size, 0, none⟩) lp).trans p0
 have p1 := (hb7.cell (p := ⟨w1.heap.size, 1, none⟩) lp).trans p1
 have p2 := (hb7.cell (p := ⟨w1.heap.size, 2, none⟩) lp).trans p2
 have q0 := (hb7.cell (p := ⟨w2.heap.size, 0, none⟩) lq).trans q0
 have q1 := (hb7.cell (p := ⟨w2.heap.size, 1, none⟩) lq).trans q1
 have q2 := (hb7.cell (p := ⟨w2.heap.size, 2, none⟩) lq).trans q2
 have lp : w1.heap.size < w7.heap.size := Nat.lt_of_lt_of_le lp hb7.size
 have lq : w2.heap.size < w7.heap.size := Nat.lt_of_lt_of_le lq hb7.size
 clear hb7
 go_wp2_with fail
 have h1 := shsame_any _ _ (newV 1) stA w7 HS.out HU.out (HT.out.below HB.out)
 rw [same_stA.2] at h1
 refine h1.mono ?_
 clear h1
 rintro e w8 ⟨rfl, hb8⟩
 have HB := Lib.hid (Cv.next HB.out hb8)
 clear hb8
 go_wp2_with fail
 go_ret
 exact ⟨rfl, HB.out⟩
end Go.Proofs.YthhceopnnappgaaGreatDoor
namespace Go.Proofs.YthhceopnnappgaaGreatDoor.Dc
open Go.RowKit
theorem infoU8 : (Tryz.prog.info? 5).map (fun i => (i.zero, i.size, i.bytes)) = some (some (.int .u8 0), 1, 1) := by kernel_rfl
def byteV (l : List UInt8) : List Value := l.map fun b => .int .u8 (b.toNat : Int)
theorem byteRow_of_owns {w : World} {base n : Nat} {v : Value} {l : List UInt8} (h : w.ownsRow base 5 1 v n (byteV l)) (hl : l.length = n) :
  (v = .slice .none 0 0 ∧ l = []) ∨ ∃ g cap, v = .slice (some ⟨g, 0, .none⟩) n cap ∧ Cv.ByteRow w g l ∧ base ≤ g := by
 rcases h.2 with ⟨hv, h0⟩ | ⟨g, cap, cur, hv, hb, hg, hnc, hcm, hcs, htk⟩
 ·subst h0
  exact .inl ⟨hv, List.eq_nil_of_length_eq_zero hl⟩
 ·refine .inr ⟨g, cap, hv, ⟨(Array.getElem?_eq_some_iff.1 hg).1, fun j hj => ⟨?_, frozen_of_row w g j cur _ hg⟩⟩, hb⟩
  rw [cell_of_row w g j cur _ (0, 0) hg]
  have h1 : (byteV l)[j]? = some (.int .u8 ((l.getD j 0).toNat : Int)) := by
   simp [byteV, hj]
  rw [← htk, List.getElem?_take] at h1
  split at h1
  ·simpa using h1
  ·cases h1
def dgt (d : Nat) : UInt8 := UInt8.ofNat (48 + d)
theorem dgt_val (d : Nat) (hd : d < 10) : IntKind.u8.wrap (48 + (d : Int)) = ((dgt d).toNat : Int) := by
 unfold dgt
 rw [IntKind.wrap_u8', UInt8.toNat_ofNat']
 omega
def nilOf (v : Value) : Nat := match v with | .slice .none _ _ => 1 | _ => 0
theorem byteRow_cells {w : World} {g : Nat} {l : List UInt8} (h : Cv.ByteRow w g l) (j : Nat) (u : Value) (hu : (byteV l)[j]? = some u) : w.cell? ((⟨g, 0, .none⟩ : Addr).add j) = some u := by
 have hj : j < l.length := by
  have := (List.getElem?_eq_some_iff.1 hu).1
  simpa [byteV] using this
 rw [Cv.addr_add, (h.2 j hj).1, ← hu]
 simp [byteV, hj]
theorem byteRow_new (w : World) (y : UInt8) (b : Nat) (t : TypeId) (hb : b = w.heap.size) : Cv.ByteRow (w.alloc (.cells #[.int .u8 (y.toNat : Int)] t)) b [y] := by
 subst hb
 have hh := heap_alloc_new w (.cells #[.int .u8 (y.toNat : Int)] t)
 refine ⟨by simp, fun j hj => ⟨?_, frozen_of_row _ _ j _ _ hh⟩⟩
 obtain rfl : j = 0 := by simpa using hj
 rw [cell_of_row _ _ 0 _ _ (0, 0) hh]
 rfl
def decG : Nat → Nat → List UInt8 → List UInt8
 | 0, r, l => dgt r :: l
 | f + 1, r, l => if r < 10 then dgt r :: l else decG f (r / 10) (dgt (r % 10) :: l)
def dec3L (x : Nat) : List UInt8 := decG 3 x []
def dec3B (x : Nat) : ByteArray := ⟨(dec3L x).toArray⟩
def Dec3 (x r : Nat) (l : List UInt8) : Prop := ∃ f, f + l.length = 3 ∧ r < 10 ^ f ∧ ((r = 0 ∧ l ≠ [] ∧ l = dec3L x) ∨ (0 < r ∨ l = []) ∧ 0 < f ∧ decG f r l = dec3L x)
def Dec3Rel (w wr : World) (x : Nat) (sz v : Value) : Prop :=
 Below w.heap.size w wr ∧ ∃ (r : Nat) (l : List UInt8), sz = .int .u64 r ∧ r ≤ x ∧ Dec3 x r l ∧ ((l = [] ∧ v = .slice .none 0 0) ∨ (∃ g cap, 0 < l.length ∧ v = .slice (some ⟨g, 0, .none⟩) l.length cap ∧ Cv.ByteRow wr g l))
theorem dec3_step {x r : Nat} {l : List UInt8} (h : Dec3 x r l) (hr : 0 < r ∨ l = []) : Dec3 x (r / 10) (dgt (r % 10) :: l) := by
 obtain ⟨f, hf, hb, h⟩ := h
 have h2 : 0 < f ∧ decG f r l = dec3L x := by
  rcases h with ⟨h0, h1, _⟩ | ⟨_, h2, h3⟩
  ·rcases hr with hr | hr
   ·omega
   ·exact absurd hr h1
  ·exact ⟨h2, h3⟩
 obtain ⟨g, rfl⟩ : ∃ g, f = g + 1 := ⟨f - 1, by omega⟩
 have hq : r / 10 < 10 ^ g := by
  rw [Nat.div_lt_iff_lt_mul (by omega), ← Nat.pow_succ]
  exact hb
 refine ⟨g, by rw [List.length_cons]; omega, hq, ?_⟩
 have h3 := h2.2
 unfold decG at h3
 by_cases h10 : r < 10
 ·rw [if_pos h10] at h3
  exact .inl ⟨by omega, by simp, by rw [← h3, Nat.mod_eq_of_lt h10]⟩
 ·rw [if_neg h10] at h3
  refine .inr ⟨.inl (by omega), ?_, h3⟩
  rcases Nat.eq_zero_or_pos g with h0 | h0
  ·subst h0
   simp at hb
   omega
  ·exact h0
theorem dec3_end {x : Nat} {l : List UInt8} (h : Dec3 x 0 l) (hl : 0 < l.length) : l = dec3L x := by
 obtain ⟨f, hf, hb, h⟩ := h
 rcases h with ⟨_, _, h1⟩ | ⟨h1, _, _⟩
 ·exact h1
 ·rcases h1 with h1 | h1
  ·omega
  ·rw [h1] at hl; simp at hl
theorem dec3_len {x r : Nat} {l : List UInt8} (h : Dec3 x r l) : l.length ≤ 3 := by
 obtain ⟨f, hf, _⟩ := h
 omega
set_option maxHeartbeats 4000000 in
theorem decimal3_any (x : Nat) (hx : x < 1000) (w : World) :
  Calls Tryz.prog 31 #[.int .i64 x] w fun e w' => e = .returned (.string (dec3B x)) ∧ Below w.heap.size w w' := by
 obtain ⟨i0, hi, hz0, hz1, hz2⟩ := info_parts infoU8
 have hw0 : IntKind.u64.wrap (x : Int) = (x : Int) := by rw [IntKind.wrap_u64]; omega
 have q0 : decide ((x : Int) < 0) = false := by simp
 have HX := Lib.hid hx
 clear hx
 go_enter Tryz.func31, Tryz.ntmps31
 go_wp2_with fail
 go_loopw [3, 4] (fun sz v wr => Dec3Rel w wr x sz v) (fun sz v _ => (intOf sz).toNat + nilOf v)
 case atStart => exact ⟨Below.refl _ _, x, [], rfl, Nat.le_refl _, ⟨3, rfl, by have := HX.out; omega, .inr ⟨.inr rfl, by omega, rfl⟩⟩, .inl ⟨rfl, rfl⟩⟩
 case round =>
  obtain ⟨hbel, r, l, rfl, hrx, hdec, hv⟩ := hrel
  have HB := Lib.hid hbel
  have HDEC := Lib.hid hdec
  have hlen := dec3_len hdec
  obtain ⟨d, hd⟩ : ∃ d, r % 10 = d := ⟨_, rfl⟩
  have hd10 : d < 10 := by omega
  have e1 : (r : Int).tmod 10 = (d : Int) := by rw [← hd]; rfl
  obtain ⟨q, hq⟩ : ∃ q, r / 10 = q := ⟨_, rfl⟩
  have e2 : (r : Int).tdiv 10 = (q : Int) := by rw [← hq]; rfl
  have hdv := dgt_val d hd10
  obtain ⟨y, hy⟩ : ∃ y, dgt d = y := ⟨_, rfl⟩
  rw [hy] at hdv
  have hxq : q ≤ r ∧ (r = 0 ∨ q < r) := by omega
  have hwq : IntKind.u64.wrap (q : Int) = (q : Int) := by rw [IntKind.wrap_u64]; have := HX.out; omega
  have hwd : IntKind.u64.wrap (d : Int) = (d : Int) := by rw [IntKind.wrap_u64]; omega
  have hnext : (0 < r ∨ l = []) → Dec3 x q (y :: l) := fun h => by have := dec3_step hdec h; rw [hd, hq, hy] at this; exact this
  have HN := Lib.hid hnext
  have HXQ := Lib.hid hxq
  have HRX := Lib.hid hrx
  have HOWN := Lib.hid (World.ownsRow_lit (base := w.heap.size) (e := 5) (size := 1) wr #[.int .u8 (y.toNat : Int)] 1 HB.out.size (by unfold maxLen; omega) rfl)
  clear hbel hdec hd hq hxq hnext hrx
  rcases hv with ⟨rfl, rfl⟩ | ⟨g, cap, hlp, rfl, hrow⟩
  ·by_cases hx0 : r = 0
   ·subst hx0
    have hy0 : y = dgt 0 := by
     have : d = 0 := by
      have h9 : ((0 : Nat) : Int).tmod 10 = (d : Int) := e1
      have h8 : ((0 : Nat) : Int).tmod 10 = 0 := rfl
      omega
     rw [← hy, this]
    subst hy0
    have HO0 := Lib.hid (World.ownsRow_lit (base := w.heap.size) (e := 5) (size := 1) wr #[.int .u8 48] 1 HB.out.size (by unfold maxLen; omega) rfl)
    have hq0 : q = 0 := by have := HXQ.out; omega
    subst hq0
    clear hdv e1 e2 hy
    go_wp2_with (at_builtin; refine wpList_append_own_none rfl _ _ 57 rfl w.heap.size 5 i0 1 Tryz.underlying57 hi _ 1 _ rfl HO0.out rfl ?_)
    exact ⟨⟨HB.out.alloc HB.out.size _, 0, [dgt 0], rfl, Nat.zero_le _, HN.out (.inr rfl), .inr ⟨_, 1, by decide, rfl, byteRow_new wr (dgt 0) _ _ rfl⟩⟩, by simp [intOf, nilOf]⟩
   ·have q1 : decide (0 < (r : Int)) = true := by simp; omega
    go_wp2_with (at_builtin; refine wpList_append_own_none rfl _ _ 57 rfl w.heap.size 5 i0 1 Tryz.underlying57 hi _ 1 _ rfl HOWN.out rfl ?_)
    refine ⟨⟨HB.out.alloc HB.out.size _, q, [y], rfl, by have := HXQ.out; have := HRX.out; omega, HN.out (.inr rfl), .inr ⟨_, 1, by simp, rfl, byteRow_new wr y _ _ rfl⟩⟩, ?_⟩
    have := HXQ.out
    simp [intOf, nilOf]
    omega
  ·by_cases hq0 : r = 0
   ·subst hq0
    have hdec : dec3B x = ⟨l.toArray⟩ := by
     unfold dec3B
     rw [← dec3_end HDEC.out hlp]
    have HDE := Lib.hid hdec
    have hcv := Cv.back_of hrow l.length cap rfl
    have hl0 : ((l.length : Int) == 0) = false := by rw [beq_eq_false_iff_ne]; omega
    clear hrow hdec hy hdv e1 e2
    go_wp2_with fail
    go_ret
    exact ⟨by rw [HDE.out]; rfl, HB.out⟩
   ·have q1 : decide (0 < (r : Int)) = true := by simp; omega
    have hrow2 : Cv.ByteRow (wr.alloc (.cells #[.int .u8 (y.toNat : Int)] 5)) g l := hrow.below ((Below.refl _ _).alloc (Nat.le_refl _) _) hrow.1
    have HROW := Lib.hid hrow2
    obtain ⟨n, hn⟩ : ∃ n, l.length = n := ⟨_, rfl⟩
    have HL := Lib.hid hn
    have hn3 : n ≤ 3 := by omega
    rw [hn]
    clear hrow hrow2 hn hlp hlen
    go_wp2_with (at_builtin; refine wpList_append_own _ rfl _ _ 57 rfl w.heap.size 5 i0 (.int .u8 0) 1 1 Tryz.underlying57 hi hz0 hz1 hz2 rfl (by decide) _ _ _ rfl HOWN.out ⟨g, 0, .none⟩ n cap (byteV l) rfl ?ca1 ?ca2 ?ca3 ?ca4 ?ca5 ?ca6 ?_)
    case ca1 => first | (rw [← HL.out]; simp [byteV]) | exact HL.out | rfl
    case ca2 =>
     intro j u hu
     have := byteRow_cells HROW.out j u hu
     rw [Cv.addr_add] at this
     first | exact this | (rw [Cv.addr_add]; exact this)
    case ca3 =>
     intro u hu
     obtain ⟨b, _, rfl⟩ := List.mem_map.1 hu
     rfl
    case ca4 => unfold maxLen; omega
    case ca5 => omega
    case ca6 => exact Nat.le_trans HB.out.size (by simp)
    intro v' w5 hown' hgrow _
    have hb5 : Below w.heap.size w w5 := (HB.out.alloc HB.out.size _).grown hgrow (Nat.le_trans HB.out.size (by simp)) fun x hx => (HOWN.out.lt x hx).1
    have hown5 : w5.ownsRow w.heap.size 5 1 v' (1 + n) (byteV (y :: l)) := hown'
    rcases byteRow_of_owns hown5 (by rw [List.length_cons, HL.out]; omega) with ⟨_, hnil⟩ | ⟨g5, cap5, rfl, hrow5, _⟩
    ·cases hnil
    ·have HR5 := Lib.hid hrow5
     have HB5 := Lib.hid hb5
     clear hown' hgrow hb5 hown5 hrow5
     go_wp2_with fail
     refine ⟨⟨HB5.out, q, y :: l, rfl, by have := HXQ.out; have := HRX.out; omega, HN.out (.inl (by omega)), .inr ⟨g5, cap5, by simp, by rw [List.length_cons, HL.out, Nat.add_comm], HR5.out⟩⟩, ?_⟩
     have := HXQ.out
     simp [intOf, nilOf]
     omega
end Go.Proofs.YthhceopnnappgaaGreatDoor.Dc
