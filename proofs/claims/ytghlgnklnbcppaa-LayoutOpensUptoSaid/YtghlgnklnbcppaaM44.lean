/- Parts of the proof, side by side: LaGet, FsNew, Awake19. -/
import Derived.Test.YtghlgnklnbcppaaLaReadAll
import Derived.Test.YtghlgnklnbcppaaM10
import Derived.Test.YtghlgnklnbcppaaFsDo
import Derived.Test.YtghlgnklnbcppaaM12
import Derived.Test.YtghlgnklnbcppaaM16
import Derived.Laws.ResultCell
import Derived.Test.YtghlgnklnbcppaaM41
import Derived.Test.YtghlgnklnbcppaaM39
set_option linter.unusedVariables false
set_option linter.unusedSimpArgs false
set_option linter.unusedVariables false
set_option linter.unusedSimpArgs false
namespace Go.Proofs.Ytghlgnklnbcppaa
open Go.RowKit
set_option maxRecDepth 100000 in
set_option maxHeartbeats 4000000 in
theorem get_ok (made : List Int) (inos : List Ino) (w : World) (n : Nat) (hn : (headL made inos).length = n) (hn5 : 5 ≤ n) (hlen : n ≤ 65528) (hm : made.length ≤ 8) (hmade : ∀ x ∈ made, 0 ≤ x ∧ x < 128) (hi : inos.length < 128) (hs : ∀ x ∈ inos, SmallI x) (hmay : mayV ⟨inos, [], made⟩ = true) :
  Calls Try.prog 21 #[.string ⟨(sealL (headL made inos)).toArray⟩] w fun e w' => ∃ v, e = .returned (.tuple #[v, .int .i64 0]) ∧ StAt none w' v ⟨inos, [], made⟩ ∧ Below w.heap.size w w' := by
 obtain ⟨S, hS⟩ : ∃ S : ByteArray, (⟨(sealL (headL made inos)).toArray⟩ : ByteArray) = S := ⟨_, rfl⟩
 have HC := fun w => Lib.hid (read_ok made inos w n hn hn5 hlen hm hmade hi hs)
 rw [hS] at HC ⊢
 clear hS hn hn5 hlen hm hmade hi hs
 go_enter Try.func21, Try.ntmps21
 go_wp2_with fail
 refine (HC _).out.mono ?_
 rintro e1 w1 ⟨v, rfl, hst, hb⟩
 obtain ⟨⟨A, k, c, B, m, d, D, kk, ee, rfl, hI, hD, hM, h5, h6, h7⟩, hz⟩ := hst
 have HST := Lib.hid (StAt.of_parts hI hD hM h5 h6 h7 hz)
 have HB := Lib.hid hb
 clear hI hD hM h5 h6 h7 hz hb
 go_wp2_with fail
 obtain ⟨U, hU⟩ : ∃ U, w1.alloc (.cells #[.slice A k c, .slice B m d, .slice D kk ee] 26) = U := ⟨_, rfl⟩
 rw [hU]
 have hbU : Below w1.heap.size w1 U := by rw [← hU]; exact (Below.refl _ _).alloc (Nat.le_refl _) _
 have hvU : Sta3 U w1.heap.size (.slice A k c) (.slice B m d) (.slice D kk ee) := by rw [← hU]; exact heap_alloc_new w1 _
 have hs1 := HB.out.size
 have ho : Sta3 U w.heap.size (.slice none 0 0) (.slice none 0 0) (.slice none 0 0) := (hbU.block _ (by have := hs1; simp at this; omega)).trans ((HB.out.block _ (by simp)).trans (heap_alloc_new w _))
 have HVU := Lib.hid hvU
 have HOU := Lib.hid ho
 have HSTU := Lib.hid (HST.out.below hbU)
 have HBU : Hid (Below w.heap.size w U) := Lib.hid ((((Below.refl _ _).alloc (Nat.le_refl _) _).trans (HB.out.mono (by simp))).trans (hbU.mono (by have := hs1; simp at this; omega)))
 clear hU hbU hvU ho hs1
 refine (mmay_any _ _ U HSTU.out.weak).mono ?_
 rintro e2 w2 ⟨rfl, hb2⟩
 rw [hmay]
 have HV2 : Hid (Sta3 w2 w1.heap.size _ _ _) := Lib.hid ((hb2.block _ HVU.out.get.2.2.2.2).trans HVU.out)
 have HO2 : Hid (Sta3 w2 w.heap.size _ _ _) := Lib.hid ((hb2.block _ HOU.out.get.2.2.2.2).trans HOU.out)
 have HST2 := Lib.hid (HSTU.out.below hb2)
 have HB2 := Lib.hid (HBU.out.trans (hb2.mono HBU.out.size))
 obtain ⟨b0, b1, b2, bf, _⟩ := HV2.out.get
 obtain ⟨d0, d1, d2, df, _⟩ := HO2.out.get
 clear hb2
 obtain ⟨w5, hw5, hi5, hg5⟩ := HO2.out.three (.slice A k c) (.slice B m d) (.slice D kk ee)
 have k5 : ∀ t, 26 ≠ t → KeepT t w2 w5 := fun t ht => KeepT.row HO2.out hg5 ht
 have HI5 := Lib.hid hi5
 have HS5 := Lib.hid (HST2.out.keep3 (k5 _ (by decide)) (k5 _ (by decide)) (k5 _ (by decide)) (k5 _ (by decide))).weak
 have HB5 := Lib.hid (HB2.out.grown hg5 HB2.out.size (by intro g9 e9; injection e9 with e9; omega))
 clear hi5 hg5 k5
 go_wp2_with fail
 (try simp only [Exit.inBlock, Exit.then])
 refine bodyPost_ret (v := .tuple #[.agg #[.slice A k c, .slice B m d, .slice D kk ee], .int .i64 0]) ?_ rfl ?_
 ·rw [results_cell_tmp rfl]
  have hl1 := run_loadVar_row (P := Try.prog) w5 w.heap.size _ 26 _ (0, 0) _ HI5.out Try.underlying26 rfl (by kernel_rfl)
  simp [asAddr, hl1, Result.andThen]
 ·exact ⟨_, rfl, HS5.out, HB5.out⟩
set_option maxRecDepth 100000 in
set_option maxHeartbeats 4000000 in
theorem read_empty (w : World) :
  Calls Try.prog 53 #[.string ⟨#[]⟩] w fun e w' => e = .returned (.tuple #[.agg #[.slice none 0 0, .slice none 0 0, .slice none 0 0], .int .i64 1900]) ∧ Below w.heap.size w w' := by
 go_enter Try.func53, Try.ntmps53
 go_wp2_with fail
 (try simp only [Exit.inBlock, Exit.then])
 refine bodyPost_ret (v := .tuple #[.agg #[.slice none 0 0, .slice none 0 0, .slice none 0 0], .int .i64 1900]) ?_ rfl ?_
 ·rw [results_cell_tmp rfl]
  have hl1 := run_loadVar_row (P := Try.prog) (w.alloc (.cells #[.slice none 0 0, .slice none 0 0, .slice none 0 0] 26)) w.heap.size _ 26 _ (0, 0) _ (heap_alloc_new w _) Try.underlying26 rfl (by kernel_rfl)
  simp [asAddr, hl1, Result.andThen]
 ·exact ⟨rfl, (Below.refl _ _).alloc (Nat.le_refl _) _⟩
set_option maxRecDepth 100000 in
set_option maxHeartbeats 4000000 in
theorem get_empty (w : World) :
  Calls Try.prog 21 #[.string ⟨#[]⟩] w fun e w' => e = .returned (.tuple #[.agg #[.slice none 0 0, .slice none 0 0, .slice none 0 0], .int .i64 1900]) ∧ Below w.heap.size w w' := by
 go_enter Try.func21, Try.ntmps21
 go_wp2_with fail
 refine (read_empty _).mono ?_
 rintro e1 w1 ⟨rfl, hb⟩
 have HB := Lib.hid hb
 clear hb
 obtain ⟨U, hU⟩ : ∃ U, w1.alloc (.cells #[.slice none 0 0, .slice none 0 0, .slice none 0 0] 26) = U := ⟨_, rfl⟩
 have hbU : Below w1.heap.size w1 U := by rw [← hU]; exact (Below.refl _ _).alloc (Nat.le_refl _) _
 have hs1 := HB.out.size
 have ho : Sta3 U w.heap.size (.slice none 0 0) (.slice none 0 0) (.slice none 0 0) := (hbU.block _ (by have := hs1; simp at this; omega)).trans ((HB.out.block _ (by simp)).trans (heap_alloc_new w _))
 have HO := Lib.hid ho
 have HBU : Hid (Below w.heap.size w U) := Lib.hid ((((Below.refl _ _).alloc (Nat.le_refl _) _).trans (HB.out.mono (by simp))).trans (hbU.mono (by have := hs1; simp at this; omega)))
 obtain ⟨d0, d1, d2, df, _⟩ := HO.out.get
 rw [← hU] at d0 d1 d2 df
 clear hbU ho hs1
 have HU := Lib.hid hU
 clear hU
 go_wp2_with fail
 rw [HU.out]
 obtain ⟨w5, hw5, hi5, hg5⟩ := HO.out.three (.slice none 0 0) (.slice none 0 0) (.slice none 0 0)
 rw [hw5]
 (try simp only [Exit.inBlock, Exit.then])
 refine bodyPost_ret (v := .tuple #[.agg #[.slice none 0 0, .slice none 0 0, .slice none 0 0], .int .i64 1900]) ?_ rfl ?_
 ·rw [results_cell_tmp rfl]
  have hl1 := run_loadVar_row (P := Try.prog) w5 w.heap.size _ 26 _ (0, 0) _ hi5 Try.underlying26 rfl (by kernel_rfl)
  simp [asAddr, hl1, Result.andThen]
 ·exact ⟨rfl, HBU.out.grown hg5 HBU.out.size (by intro g9 e9; injection e9 with e9; omega)⟩
end Go.Proofs.Ytghlgnklnbcppaa

set_option linter.unusedVariables false
set_option linter.unusedSimpArgs false
namespace Go.Proofs.Ytghlgnklnbcppaa
open Go.RowKit
theorem make_ints (N : Nat) (h : N ≤ 65536) (w : World) : ∃ W, (Instr.makeSlice 24 (.int .i64 (N : Int)) (.int .i64 (N : Int))).run Try.prog w = .ok (.slice (some ⟨w.heap.size, 0, .none⟩) N N) W ∧ IntsAt (some w.heap.size) W (some ⟨w.heap.size, 0, .none⟩) N (List.replicate N 0) ∧ Below w.heap.size w W := by
 refine ⟨_, run_make_row' (P := Try.prog) 24 3 (.int .i64 0) 8 Try.underlying24 infoNum rfl .i64 .i64 N (by omega) (by omega) w, ⟨by simp, fun hn => ⟨w.heap.size, 0, rfl, by simp, fun B hB => ?_, fun j x hx => ?_⟩⟩, (Below.refl _ _).alloc (Nat.le_refl _) _⟩
 ·cases hB
  exact ⟨Nat.le_refl _, _, heap_alloc_new w _⟩
 ·have hj : j < N := by have := (List.getElem?_eq_some_iff.1 hx).1; simpa using this
  have h0 : x = 0 := by rw [List.getElem?_replicate, if_pos hj] at hx; exact (Option.some.inj hx).symm
  subst h0
  rw [Nat.zero_add]
  refine (cell_of_row _ w.heap.size _ _ _ (0, 0) (heap_alloc_new w _)).trans ?_
  simp [madeCells, hj, Nat.mod_one]
set_option maxRecDepth 100000 in
set_option maxHeartbeats 4000000 in
theorem new_any (n : Nat) (h1 : 1 ≤ n) (h8 : n ≤ 8) (w : World) :
  Calls Try.prog 14 #[.int .i64 (n : Int)] w fun e w' => ∃ v, e = .returned (.tuple #[v, .int .i64 0]) ∧ StAt (some w.heap.size) w' v (newV n) ∧ Below w.heap.size w w' := by
 have q1 : decide ((n : Int) < 1) = false := by rw [decide_eq_false_iff_not]; omega
 have q2 : decide ((8 : Int) < (n : Int)) = false := by rw [decide_eq_false_iff_not]; omega
 obtain ⟨W1, hW1⟩ : ∃ W1, w.alloc (.cells #[.slice none 0 0, .slice none 0 0, .slice none 0 0] 26) = W1 := ⟨_, rfl⟩
 have o1 : OutAt W1 w.heap.size (.slice none 0 0) (.slice none 0 0) (.slice none 0 0) := by rw [← hW1]; exact heap_alloc_new w _
 have l1 : Below w.heap.size w W1 := by rw [← hW1]; exact (Below.refl _ _).alloc (Nat.le_refl _) _
 have z1 : W1.heap.size = w.heap.size + 1 := by rw [← hW1]; simp
 obtain ⟨W2, hW2⟩ : ∃ W2, W1.alloc (.cells #[.int .i64 1, .bool true, .slice none 0 0, .string ⟨#[]⟩] 72) = W2 := ⟨_, rfl⟩
 have i2 : W2.heap[W1.heap.size]? = some (.cells #[.int .i64 1, .bool true, .slice none 0 0, .string ⟨#[]⟩] 72 (0, 0)) := by rw [← hW2]; exact heap_alloc_new W1 _
 have l2 : Below W1.heap.size W1 W2 := by rw [← hW2]; exact (Below.refl _ _).alloc (Nat.le_refl _) _
 have z2 : W2.heap.size = W1.heap.size + 1 := by rw [← hW2]; simp
 obtain ⟨W3, hmk, hints, l3⟩ := make_ints n (by omega) W2
 have i3 := (l3.block W1.heap.size (by omega)).trans i2
 have o3 : OutAt W3 w.heap.size (.slice none 0 0) (.slice none 0 0) (.slice none 0 0) := ((l2.trans (l3.mono (by omega))).block w.heap.size (by omega)).trans o1
 have hb3 : Below w.heap.size w W3 := Cv.next l1 (Cv.next l2 l3)
 obtain ⟨g0, g1, g2, gf⟩ := o3.get
 have gf0 := gf 0
 have gf1 := gf 1
 have gf2 := gf 2
 obtain ⟨W4, hW4, o4, k4, b4⟩ := o3.three (.slice (some ⟨W1.heap.size, 0, none⟩) 1 1) (.slice none 0 0) (.slice (some ⟨W2.heap.size, 0, none⟩) n n)
 have i4 := ((k4 72 (by decide)).same _ _ i3).trans i3
 have hi : InosAt (some w.heap.size) W4 (some ⟨W1.heap.size, 0, none⟩) 1 [⟨1, true, [], txt []⟩] := by
  refine ⟨rfl, fun _ => ⟨W1.heap.size, 0, rfl, (Array.getElem?_eq_some_iff.1 i4).1, fun B hB => ?_, fun j x hx => ?_⟩⟩
  ·cases hB
   exact ⟨by omega, _, i4⟩
  ·have hj : j = 0 := by have := (List.getElem?_eq_some_iff.1 hx).1; simpa using this
   subst hj
   have ex : (⟨1, true, [], txt []⟩ : Ino) = x := by simpa using hx
   subst ex
   refine ⟨?_, ?_, ⟨none, 0, 0, ?_, ⟨Nat.le_refl _, fun _ => rfl⟩, rfl, fun h => absurd h (by omega)⟩, ?_⟩ <;> (rw [cell_of_row W4 W1.heap.size _ _ _ (0, 0) i4]; rfl)
 have hd : DescsAt (some w.heap.size) W4 none 0 [] := ⟨rfl, fun h => absurd h (by omega)⟩
 have hm : IntsAt (some w.heap.size) W4 (some ⟨W2.heap.size, 0, none⟩) n (List.replicate n 0) := (hints.keep (k4 _ (by decide))).mono (by omega)
 have hst : StAt (some w.heap.size) W4 (.agg #[.slice (some ⟨W1.heap.size, 0, none⟩) 1 1, .slice none 0 0, .slice (some ⟨W2.heap.size, 0, none⟩) n n]) (newV n) := by
  refine ⟨⟨_, 1, 1, _, 0, 0, _, n, n, rfl, hi, hd, hm, ⟨Nat.le_refl _, fun h => by cases h⟩, ⟨Nat.le_refl _, fun _ => rfl⟩, ⟨Nat.le_refl _, fun h => by cases h⟩⟩, ⟨?_, ?_, ?_, ?_⟩⟩
  ·show 1 + bulkE [⟨1, true, [], txt []⟩] + 0 + (List.replicate n (0 : Int)).length ≤ _
   rw [List.length_replicate]
   show 1 + 0 + 0 + n ≤ _
   omega
  ·intro x hx
   have ex : x = ⟨1, true, [], txt []⟩ := by simpa [newV] using hx
   subst ex
   exact ⟨Nat.zero_le _, fun e he => by cases he⟩
  ·intro x hx
   have ex : x = ⟨1, true, [], txt []⟩ := by simpa [newV] using hx
   subst ex
   exact ⟨by show (-9223372036854775808 : Int) ≤ 1; omega, by show (1 : Int) ≤ 9223372036854775807; omega, fun e he => by cases he⟩
  ·intro x hx
   have ex : x = 0 := by
    have := List.mem_replicate.1 (show x ∈ List.replicate n (0 : Int) from hx)
    exact this.2
   subst ex
   omega
 have HST := Lib.hid hst
 have HB4 := Lib.hid (b4 _ _ (Nat.le_refl _) hb3)
 have HO4 := Lib.hid o4
 obtain ⟨t0, t1, t2, _⟩ := o4.get
 clear hst hi hd hm i4 i3 i2 o1 o3 o4 k4 b4 l1 l2 l3 hb3 hints z1 z2 gf
 go_enter Try.func14, Try.ntmps14
 go_wp2_with fail
 (try simp only [Exit.inBlock, Exit.then])
 refine bodyPost_ret (v := .tuple #[.agg #[.slice (some ⟨W1.heap.size, 0, none⟩) 1 1, .slice none 0 0, .slice (some ⟨W2.heap.size, 0, none⟩) n n], .int .i64 0]) ?_ rfl ⟨_, rfl, HST.out, HB4.out⟩
 rw [results_cell_tmp rfl]
 have hload := run_loadVar_row (P := Try.prog) W4 w.heap.size _ 26 _ (0, 0) _ HO4.out Try.underlying26 rfl (by kernel_rfl)
 simp [asAddr, hload, Result.andThen]
end Go.Proofs.Ytghlgnklnbcppaa

set_option linter.unusedVariables false
set_option linter.unusedSimpArgs false
namespace Go.Proofs.Ytghlgnklnbcppaa
open Go.RowKit
def callA : Ca := ⟨0, 0, 0, 0, 0, ⟨#[47, 97]⟩, ⟨#[]⟩, ⟨#[]⟩⟩
def stA : St := ⟨[⟨1, true, [⟨⟨#[97]⟩, 2⟩], ⟨#[]⟩⟩, ⟨2, false, [], ⟨#[]⟩⟩], [], [1]⟩
def stNone : St := ⟨[], [], []⟩
theorem stNone_at (w : World) : StAt none w (.agg #[.slice none 0 0, .slice none 0 0, .slice none 0 0]) stNone :=
 ⟨⟨none, 0, 0, none, 0, 0, none, 0, 0, rfl, ⟨rfl, fun h => absurd h (by omega)⟩, ⟨rfl, fun h => absurd h (by omega)⟩, ⟨rfl, fun h => absurd h (by omega)⟩, ⟨by omega, fun _ => rfl⟩, ⟨by omega, fun _ => rfl⟩, ⟨by omega, fun _ => rfl⟩⟩, ⟨by decide +kernel, by decide +kernel, by decide +kernel⟩⟩
theorem make_first (n : Nat) (h1 : 1 ≤ n) (h8 : n ≤ 8) : MakeSized (newV n) callA := by
 have : n = 1 ∨ n = 2 ∨ n = 3 ∨ n = 4 ∨ n = 5 ∨ n = 6 ∨ n = 7 ∨ n = 8 := by omega
 rcases this with h | h | h | h | h | h | h | h <;> (subst h; exact ⟨⟨by decide +kernel, by decide +kernel, by decide +kernel⟩, ⟨by decide +kernel, by decide +kernel, by decide +kernel⟩, ⟨by decide +kernel, by decide +kernel, by decide +kernel⟩, by decide +kernel⟩)
theorem num19 (n : Int) (w : World) : Calls Try.prog 9 #[.int .i64 n] w fun e w' => e = .returned (.int .i64 n) ∧ w = w' := by
 go_enter Try.func9, Try.ntmps9
 go_wp2_with fail
 go_ret
 exact ⟨rfl, rfl⟩
theorem may_new (n : Nat) (h1 : 1 ≤ n) (h8 : n ≤ 8) : mayV (newV n) = true ∧ (make1V (newV n) callA).2.code = 0 := by
 have : n = 1 ∨ n = 2 ∨ n = 3 ∨ n = 4 ∨ n = 5 ∨ n = 6 ∨ n = 7 ∨ n = 8 := by omega
 rcases this with h | h | h | h | h | h | h | h <;> (subst h; exact ⟨by decide +kernel, by decide +kernel⟩)
theorem Do_first (n : Nat) (h1 : 1 ≤ n) (h8 : n ≤ 8) (v : Value) (w : World) (h : StAt none w v (newV n)) :
  Calls Try.prog 10 #[v, caV callA] w fun e w' => ∃ v', e = .returned (.tuple #[v', resV (make1V (newV n) callA).2]) ∧ StAt (some w.heap.size) w' v' (make1V (newV n) callA).1 ∧ Below w.heap.size w w' :=
 Do_of v (newV n) callA _ _ w h fun u hu => do_make v (newV n) callA (-1) u hu (may_new n h1 h8).1 (by decide) (by show (0 : Int) < ((List.replicate n (0 : Int)).length : Int); rw [List.length_replicate]; omega) rfl (by decide) (make_first n h1 h8) (may_new n h1 h8).2
set_option maxRecDepth 100000 in
set_option maxHeartbeats 4000000 in
theorem awake19 (w : World) : Calls Try.prog 7 #[] w fun e w' => e = .returned (.bool true) ∧ Below w.heap.size w w' := by
 have HMAY0 := Lib.hid (show mayV (newV 1) = true by decide +kernel)
 have HCODE := Lib.hid (show (make1V (newV 1) callA).2.code = 0 by decide +kernel)
 have HMK := Lib.hid (show (make1V (newV 1) callA).1 = stA by decide +kernel)
 have HMAY := Lib.hid (show mayV stA = true by decide +kernel)
 have HDEL := Lib.hid (show ∀ x ∈ stA.inos, delB stA x = false by decide +kernel)
 have HMAYN := Lib.hid (show mayV stNone = false by decide +kernel)
 have HMSZ := Lib.hid (make_first 1 (by omega) (by omega))
 go_enter Try.func7, Try.ntmps7
 go_wp2_with fail
 refine (new_any 1 (by omega) (by omega) w).mono ?_
 rintro e w1 ⟨v1, rfl, hst1, hb1⟩
 obtain ⟨A1, n1, c1, E1, m1, d1, D1, k1, e1, rfl, _⟩ := hst1.at_
 have HB1 := Lib.hid hb1
 have HST1 := Lib.hid hst1.weak
 clear hb1 hst1
 go_wp2_with fail
 refine (Do_first 1 (by omega) (by omega) _ _ (HST1.out.below ((Below.refl _ _).alloc (Nat.le_refl _) _))).mono ?_
 rintro e w2 ⟨v2, rfl, hst2, hb2⟩
 rw [HMK.out] at hst2
 have hst2 := hst2.weak
 obtain ⟨A2, n2, c2, E2, m2, d2, D2, k2, e2, rfl, _⟩ := hst2.at_
 have HB2 := Lib.hid (HB1.out.trans ((((Below.refl w1.heap.size w1).alloc (Nat.le_refl _) _).trans (hb2.mono (by simp))).mono HB1.out.size))
 have HST2 := Lib.hid hst2
 clear hb2 hst2
 unfold resV
 go_wp2_with fail
 obtain ⟨W3, hW3, t0, t1, t2, ha3, hl3⟩ := box_st w2 A2 n2 c2 E2 m2 d2 D2 k2 e2
 rw [hW3]
 have ha4 := (Below.refl W3.heap.size W3).alloc (Nat.le_refl _) (.cells #[.int .i64 (make1V (newV 1) callA).2.code, .int .i64 (make1V (newV 1) callA).2.fd, .int .i64 (make1V (newV 1) callA).2.num, .bool (make1V (newV 1) callA).2.dir, .string (make1V (newV 1) callA).2.data, .slice none 0 0] 37)
 refine (put_all _ _ _ ((HST2.out.below ha3).below ha4) HMAY.out HDEL.out).mono ?_
 rintro e w4 ⟨rfl, hb4⟩
 have hb34 : Below W3.heap.size W3 w4 := ha4.trans (hb4.mono (by simp))
 have HST4 := Lib.hid ((HST2.out.below ha3).below hb34)
 have HB4 := Lib.hid (HB2.out.trans ((ha3.trans (hb34.mono ha3.size)).mono HB2.out.size))
 have T0 := (hb34.cell (p := ⟨w2.heap.size, 0, none⟩) hl3).trans t0
 have T1 := (hb34.cell (p := ⟨w2.heap.size, 1, none⟩) hl3).trans t1
 have T2 := (hb34.cell (p := ⟨w2.heap.size, 2, none⟩) hl3).trans t2
 have hl4 : w2.heap.size < w4.heap.size := Nat.lt_of_lt_of_le hl3 hb34.size
 obtain ⟨BB, hBB⟩ : ∃ BB : ByteArray, (⟨(sealL (headL stA.made stA.inos)).toArray⟩ : ByteArray) = BB := ⟨_, rfl⟩
 have HBB := Lib.hid hBB
 rw [hBB]
 clear hBB hb4 hb34 ha3 ha4 t0 t1 t2 hl3 hW3
 go_wp2_with fail
 have hget := get_ok stA.made stA.inos w4 16 (by decide +kernel) (by omega) (by omega) (by decide) (by decide) (by decide) (fun x hx => by
  have h2 : x = ⟨1, true, [⟨⟨#[97]⟩, 2⟩], ⟨#[]⟩⟩ ∨ x = ⟨2, false, [], ⟨#[]⟩⟩ := by simpa [stA] using hx
  rcases h2 with h3 | h3 <;> (subst h3; exact ⟨by decide, by decide, by decide, by decide, by decide⟩)) HMAY.out
 rw [HBB.out] at hget
 refine hget.mono ?_
 clear hget
 rintro e w5 ⟨v5, rfl, hst5, hb5⟩
 obtain ⟨A5, n5, c5, E5, m5, d5, D5, k5, e5, rfl, _⟩ := hst5.at_
 have T0 := (hb5.cell (p := ⟨w2.heap.size, 0, none⟩) hl4).trans T0
 have T1 := (hb5.cell (p := ⟨w2.heap.size, 1, none⟩) hl4).trans T1
 have T2 := (hb5.cell (p := ⟨w2.heap.size, 2, none⟩) hl4).trans T2
 have hl5 : w2.heap.size < w5.heap.size := Nat.lt_of_lt_of_le hl4 hb5.size
 have HST4 := Lib.hid (HST4.out.below hb5)
 have HST5 := Lib.hid hst5
 have HB5 := Lib.hid (HB4.out.trans (hb5.mono HB4.out.size))
 clear hb5 hst5 hl4
 go_wp2_with fail
 obtain ⟨W6, hW6, u0, u1, u2, ha6, hl6⟩ := box_st w5 A5 n5 c5 E5 m5 d5 D5 k5 e5
 rw [hW6]
 refine (get_empty W6).mono ?_
 rintro e w7 ⟨rfl, hb7⟩
 have hb57 : Below w5.heap.size w5 w7 := ha6.trans (hb7.mono ha6.size)
 have T0 := (hb57.cell (p := ⟨w2.heap.size, 0, none⟩) hl5).trans T0
 have T1 := (hb57.cell (p := ⟨w2.heap.size, 1, none⟩) hl5).trans T1
 have T2 := (hb57.cell (p := ⟨w2.heap.size, 2, none⟩) hl5).trans T2
 have U0 := (hb7.cell (p := ⟨w5.heap.size, 0, none⟩) hl6).trans u0
 have U1 := (hb7.cell (p := ⟨w5.heap.size, 1, none⟩) hl6).trans u1
 have U2 := (hb7.cell (p := ⟨w5.heap.size, 2, none⟩) hl6).trans u2
 have hl7 : w5.heap.size < w7.heap.size := Nat.lt_of_lt_of_le hl6 hb7.size
 have HST4 := Lib.hid (HST4.out.below hb57)
 have HST5 := Lib.hid (HST5.out.below hb57)
 have HB7 := Lib.hid (HB5.out.trans (hb57.mono HB5.out.size))
 clear hb7 hb57 u0 u1 u2 ha6 hl6 hW6
 go_wp2_with fail
 obtain ⟨W8, hW8, u0, u1, u2, ha8, hl8⟩ := box_st w7 none 0 0 none 0 0 none 0 0
 rw [hW8]
 refine (put_bad _ stNone W8 (stNone_at _) HMAYN.out).mono ?_
 rintro e w9 ⟨rfl, hb9⟩
 have hb79 : Below w7.heap.size w7 w9 := ha8.trans (hb9.mono ha8.size)
 have T0 := (hb79.cell (p := ⟨w2.heap.size, 0, none⟩) (Nat.lt_trans hl5 hl7)).trans T0
 have T1 := (hb79.cell (p := ⟨w2.heap.size, 1, none⟩) (Nat.lt_trans hl5 hl7)).trans T1
 have T2 := (hb79.cell (p := ⟨w2.heap.size, 2, none⟩) (Nat.lt_trans hl5 hl7)).trans T2
 have U0 := (hb79.cell (p := ⟨w5.heap.size, 0, none⟩) hl7).trans U0
 have U1 := (hb79.cell (p := ⟨w5.heap.size, 1, none⟩) hl7).trans U1
 have U2 := (hb79.cell (p := ⟨w5.heap.size, 2, none⟩) hl7).trans U2
 have hs79 := hb79.size
 have l2 : w2.heap.size < w9.heap.size := by omega
 have l5 : w5.heap.size < w9.heap.size := by omega
 have HST4 := Lib.hid (HST4.out.below hb79)
 have HST5 := Lib.hid (HST5.out.below hb79)
 have HB9 := Lib.hid (HB7.out.trans (hb79.mono HB7.out.size))
 have HSEAL := Lib.hid (show (⟨(sealL [67, 78, 67, 49, 1, 1, 2, 1, 1, 1, 1, 97, 2, 2, 0, 0]).toArray⟩ : ByteArray) = BB by rw [← HBB.out]; exact congrArg (fun l => (⟨(sealL l).toArray⟩ : ByteArray)) (by decide +kernel))
 have HLEN := Lib.hid (show (sealL (headL stA.made stA.inos)).length = BB.size by rw [← HBB.out]; rfl)
 clear hb9 hb79 u0 u1 u2 ha8 hl8 hW8 hs79
 go_wp2_with fail
 refine (num19 _ _).mono ?_
 rintro e w9' ⟨rfl, rfl⟩
 go_wp2_with fail
 refine (seal_any ⟨#[67, 78, 67, 49, 1, 1, 2, 1, 1, 1, 1, 97, 2, 2, 0, 0]⟩ _ (by decide)).mono ?_
 rintro e w10 ⟨rfl, hb10⟩
 rw [show (⟨(sealL (⟨#[67, 78, 67, 49, 1, 1, 2, 1, 1, 1, 1, 97, 2, 2, 0, 0]⟩ : ByteArray).data.toList).toArray⟩ : ByteArray) = BB from HSEAL.out]
 have T0 := (hb10.cell (p := ⟨w2.heap.size, 0, none⟩) l2).trans T0
 have T1 := (hb10.cell (p := ⟨w2.heap.size, 1, none⟩) l2).trans T1
 have T2 := (hb10.cell (p := ⟨w2.heap.size, 2, none⟩) l2).trans T2
 have U0 := (hb10.cell (p := ⟨w5.heap.size, 0, none⟩) l5).trans U0
 have U1 := (hb10.cell (p := ⟨w5.heap.size, 1, none⟩) l5).trans U1
 have U2 := (hb10.cell (p := ⟨w5.heap.size, 2, none⟩) l5).trans U2
 have l2 : w2.heap.size < w10.heap.size := Nat.lt_of_lt_of_le l2 hb10.size
 have HST4 := Lib.hid (HST4.out.below hb10)
 have HST5 := Lib.hid (HST5.out.below hb10)
 have HB10 := Lib.hid (HB9.out.trans (hb10.mono HB9.out.size))
 clear hb10
 go_wp2_with fail
 refine (num19 _ _).mono ?_
 rintro e w10' ⟨rfl, rfl⟩
 go_wp2_with fail
 refine (plain_any _ _ _ _ _ HST4.out HST5.out).mono ?_
 rintro e w11 ⟨rfl, hb11⟩
 rw [show plainV stA ⟨stA.inos, [], stA.made⟩ = true from plainV_yes rfl]
 have T0 := (hb11.cell (p := ⟨w2.heap.size, 0, none⟩) l2).trans T0
 have T1 := (hb11.cell (p := ⟨w2.heap.size, 1, none⟩) l2).trans T1
 have T2 := (hb11.cell (p := ⟨w2.heap.size, 2, none⟩) l2).trans T2
 have HST4 := Lib.hid (HST4.out.below hb11)
 have HB11 := Lib.hid (HB10.out.trans (hb11.mono HB10.out.size))
 clear hb11
 go_wp2_with fail
 refine (num19 _ _).mono ?_
 rintro e w11' ⟨rfl, rfl⟩
 go_wp2_with fail
 refine (num19 _ _).mono ?_
 rintro e w11' ⟨rfl, rfl⟩
 go_wp2_with fail
 refine (size_all _ _ _ HST4.out HMAY.out HDEL.out).mono ?_
 rintro e w12 ⟨rfl, hb12⟩
 rw [HLEN.out]
 have HB12 := Lib.hid (HB11.out.trans (hb12.mono HB11.out.size))
 clear hb12
 go_wp2_with fail
 go_ret
 exact ⟨rfl, HB12.out⟩
end Go.Proofs.Ytghlgnklnbcppaa
