/- Parts of the proof, side by side: Awake19, LaySizesP. -/
import Derived.Test.YtghlgnklnbcppaaFsEqual
import Derived.Test.YtghlgnklnbcppaaM38
import Derived.Test.YtghlgnklnbcppaaM40
set_option linter.unusedVariables false
set_option linter.unusedSimpArgs false
/- What the laws of chapter 19 ask of every program: awake. -/
namespace Go.Proofs.Ytghlgnklnbcppaa
open Go.RowKit
set_option linter.unusedVariables false
set_option linter.unusedSimpArgs false
def callA : Ca := ⟨0, 0, 0, 0, 0, ⟨#[47, 97]⟩, ⟨#[]⟩, ⟨#[]⟩⟩
def stA : St := ⟨[⟨1, true, [⟨⟨#[97]⟩, 2⟩], ⟨#[]⟩⟩, ⟨2, false, [], ⟨#[]⟩⟩], [], [1]⟩
def stNone : St := ⟨[], [], []⟩
theorem stNone_at (w : World) : StAt none w (.agg #[.slice none 0 0, .slice none 0 0, .slice none 0 0]) stNone :=
  ⟨⟨none, 0, 0, none, 0, 0, none, 0, 0, rfl, ⟨rfl, fun h => absurd h (by omega)⟩, ⟨rfl, fun h => absurd h (by omega)⟩, ⟨rfl, fun h => absurd h (by omega)⟩, ⟨by omega, fun _ => rfl⟩, ⟨by omega, fun _ => rfl⟩, ⟨by omega, fun _ => rfl⟩⟩, ⟨by decide +kernel, by decide +kernel, by decide +kernel⟩⟩
theorem make_first (n : Nat) (h1 : 1 ≤ n) (h8 : n ≤ 8) : MakeSized (newV n) callA := by
  have : n = 1 ∨ n = 2 ∨ n = 3 ∨ n = 4 ∨ n = 5 ∨ n = 6 ∨ n = 7 ∨ n = 8 := by omega
  rcases this with h | h | h | h | h | h | h | h <;> (subst h; exact ⟨⟨by decide +kernel, by decide +kernel, by decide +kernel⟩, ⟨by decide +kernel, by decide +kernel, by decide +kernel⟩, ⟨by decide +kernel, by decide +kernel, by decide +kernel⟩, by decide +kernel⟩)
theorem num19 (n : Int) (w : World) : Calls Try.prog 9 #[.int .i64 n] w fun e w' => e = .returned (.int .i64 n) ∧ w = w' := by
  go_enter Try.func9, Try.ntmps9
  go_wp2_with fail
  go_ret
  exact ⟨rfl, rfl⟩
theorem may_new (n : Nat) (h1 : 1 ≤ n) (h8 : n ≤ 8) : mayV (newV n) = true ∧ (make1V (newV n) callA).2.code = 0 := by
  have : n = 1 ∨ n = 2 ∨ n = 3 ∨ n = 4 ∨ n = 5 ∨ n = 6 ∨ n = 7 ∨ n = 8 := by omega
  rcases this with h | h | h | h | h | h | h | h <;> (subst h; exact ⟨by decide +kernel, by decide +kernel⟩)
theorem Do_first (n : Nat) (h1 : 1 ≤ n) (h8 : n ≤ 8) (v : Value) (w : World) (h : StAt none w v (newV n)) :
    Calls Try.prog 10 #[v, caV callA] w fun e w' => ∃ v', e = .returned (.tuple #[v', resV (make1V (newV n) callA).2]) ∧ StAt (some w.heap.size) w' v' (make1V (newV n) callA).1 ∧ Below w.heap.size w w' :=
  Do_of v (newV n) callA _ _ w h fun u hu => do_make v (newV n) callA (-1) u hu (may_new n h1 h8).1 (by decide) (by show (0 : Int) < ((List.replicate n (0 : Int)).length : Int); rw [List.length_replicate]; omega) rfl (by decide) (make_first n h1 h8) (may_new n h1 h8).2
set_option maxRecDepth 100000 in
set_option maxHeartbeats 4000000 in
theorem awake19 (w : World) : Calls Try.prog 7 #[] w fun e w' => e = .returned (.bool true) ∧ Below w.heap.size w w' := by
  have HMAY0 := Lib.hid (show mayV (newV 1) = true by decide +kernel)
  have HCODE := Lib.hid (show (make1V (newV 1) callA).2.code = 0 by decide +kernel)
  have HMK := Lib.hid (show (make1V (newV 1) callA).1 = stA by decide +kernel)
  have HMAY := Lib.hid (show mayV stA = true by decide +kernel)
  have HDEL := Lib.hid (show ∀ x ∈ stA.inos, delB stA x = false by decide +kernel)
  have HMAYN := Lib.hid (show mayV stNone = false by decide +kernel)
  have HMSZ := Lib.hid (make_first 1 (by omega) (by omega))
  go_enter Try.func7, Try.ntmps7
  go_wp2_with fail
  refine (new_any 1 (by omega) (by omega) w).mono ?_
  rintro e w1 ⟨v1, rfl, hst1, hb1⟩
  obtain ⟨A1, n1, c1, E1, m1, d1, D1, k1, e1, rfl, _⟩ := hst1.at_
  have HB1 := Lib.hid hb1
  have HST1 := Lib.hid hst1.weak
  clear hb1 hst1
  go_wp2_with fail
  refine (Do_first 1 (by omega) (by omega) _ _ (HST1.out.below ((Below.refl _ _).alloc (Nat.le_refl _) _))).mono ?_
  rintro e w2 ⟨v2, rfl, hst2, hb2⟩
  rw [HMK.out] at hst2
  have hst2 := hst2.weak
  obtain ⟨A2, n2, c2, E2, m2, d2, D2, k2, e2, rfl, _⟩ := hst2.at_
  have HB2 := Lib.hid (HB1.out.trans ((((Below.refl w1.heap.size w1).alloc (Nat.le_refl _) _).trans (hb2.mono (by simp))).mono HB1.out.size))
  have HST2 := Lib.hid hst2
  clear hb2 hst2
  unfold resV
  go_wp2_with fail
  obtain ⟨W3, hW3, t0, t1, t2, ha3, hl3⟩ := box_st w2 A2 n2 c2 E2 m2 d2 D2 k2 e2
  rw [hW3]
  have ha4 := (Below.refl W3.heap.size W3).alloc (Nat.le_refl _) (.cells #[.int .i64 (make1V (newV 1) callA).2.code, .int .i64 (make1V (newV 1) callA).2.fd, .int .i64 (make1V (newV 1) callA).2.num, .bool (make1V (newV 1) callA).2.dir, .string (make1V (newV 1) callA).2.data, .slice none 0 0] 37)
  refine (put_all _ _ _ ((HST2.out.below ha3).below ha4) HMAY.out HDEL.out).mono ?_
  rintro e w4 ⟨rfl, hb4⟩
  have hb34 : Below W3.heap.size W3 w4 := ha4.trans (hb4.mono (by simp))
  have HST4 := Lib.hid ((HST2.out.below ha3).below hb34)
  have HB4 := Lib.hid (HB2.out.trans ((ha3.trans (hb34.mono ha3.size)).mono HB2.out.size))
  have T0 := (hb34.cell (p := ⟨w2.heap.size, 0, none⟩) hl3).trans t0
  have T1 := (hb34.cell (p := ⟨w2.heap.size, 1, none⟩) hl3).trans t1
  have T2 := (hb34.cell (p := ⟨w2.heap.size, 2, none⟩) hl3).trans t2
  have hl4 : w2.heap.size < w4.heap.size := Nat.lt_of_lt_of_le hl3 hb34.size
  obtain ⟨BB, hBB⟩ : ∃ BB : ByteArray, (⟨(sealL (headL stA.made stA.inos)).toArray⟩ : ByteArray) = BB := ⟨_, rfl⟩
  have HBB := Lib.hid hBB
  rw [hBB]
  clear hBB hb4 hb34 ha3 ha4 t0 t1 t2 hl3 hW3
  go_wp2_with fail
  have hget := get_ok stA.made stA.inos w4 16 (by decide +kernel) (by omega) (by omega) (by decide) (by decide) (by decide) (fun x hx => by
    have h2 : x = ⟨1, true, [⟨⟨#[97]⟩, 2⟩], ⟨#[]⟩⟩ ∨ x = ⟨2, false, [], ⟨#[]⟩⟩ := by simpa [stA] using hx
    rcases h2 with h3 | h3 <;> (subst h3; exact ⟨by decide, by decide, by decide, by decide, by decide⟩)) HMAY.out
  rw [HBB.out] at hget
  refine hget.mono ?_
  clear hget
  rintro e w5 ⟨v5, rfl, hst5, hb5⟩
  obtain ⟨A5, n5, c5, E5, m5, d5, D5, k5, e5, rfl, _⟩ := hst5.at_
  have T0 := (hb5.cell (p := ⟨w2.heap.size, 0, none⟩) hl4).trans T0
  have T1 := (hb5.cell (p := ⟨w2.heap.size, 1, none⟩) hl4).trans T1
  have T2 := (hb5.cell (p := ⟨w2.heap.size, 2, none⟩) hl4).trans T2
  have hl5 : w2.heap.size < w5.heap.size := Nat.lt_of_lt_of_le hl4 hb5.size
  have HST4 := Lib.hid (HST4.out.below hb5)
  have HST5 := Lib.hid hst5
  have HB5 := Lib.hid (HB4.out.trans (hb5.mono HB4.out.size))
  clear hb5 hst5 hl4
  go_wp2_with fail
  obtain ⟨W6, hW6, u0, u1, u2, ha6, hl6⟩ := box_st w5 A5 n5 c5 E5 m5 d5 D5 k5 e5
  rw [hW6]
  refine (get_empty W6).mono ?_
  rintro e w7 ⟨rfl, hb7⟩
  have hb57 : Below w5.heap.size w5 w7 := ha6.trans (hb7.mono ha6.size)
  have T0 := (hb57.cell (p := ⟨w2.heap.size, 0, none⟩) hl5).trans T0
  have T1 := (hb57.cell (p := ⟨w2.heap.size, 1, none⟩) hl5).trans T1
  have T2 := (hb57.cell (p := ⟨w2.heap.size, 2, none⟩) hl5).trans T2
  have U0 := (hb7.cell (p := ⟨w5.heap.size, 0, none⟩) hl6).trans u0
  have U1 := (hb7.cell (p := ⟨w5.heap.size, 1, none⟩) hl6).trans u1
  have U2 := (hb7.cell (p := ⟨w5.heap.size, 2, none⟩) hl6).trans u2
  have hl7 : w5.heap.size < w7.heap.size := Nat.lt_of_lt_of_le hl6 hb7.size
  have HST4 := Lib.hid (HST4.out.below hb57)
  have HST5 := Lib.hid (HST5.out.below hb57)
  have HB7 := Lib.hid (HB5.out.trans (hb57.mono HB5.out.size))
  clear hb7 hb57 u0 u1 u2 ha6 hl6 hW6
  go_wp2_with fail
  obtain ⟨W8, hW8, u0, u1, u2, ha8, hl8⟩ := box_st w7 none 0 0 none 0 0 none 0 0
  rw [hW8]
  refine (put_bad _ stNone W8 (stNone_at _) HMAYN.out).mono ?_
  rintro e w9 ⟨rfl, hb9⟩
  have hb79 : Below w7.heap.size w7 w9 := ha8.trans (hb9.mono ha8.size)
  have T0 := (hb79.cell (p := ⟨w2.heap.size, 0, none⟩) (Nat.lt_trans hl5 hl7)).trans T0
  have T1 := (hb79.cell (p := ⟨w2.heap.size, 1, none⟩) (Nat.lt_trans hl5 hl7)).trans T1
  have T2 := (hb79.cell (p := ⟨w2.heap.size, 2, none⟩) (Nat.lt_trans hl5 hl7)).trans T2
  have U0 := (hb79.cell (p := ⟨w5.heap.size, 0, none⟩) hl7).trans U0
  have U1 := (hb79.cell (p := ⟨w5.heap.size, 1, none⟩) hl7).trans U1
  have U2 := (hb79.cell (p := ⟨w5.heap.size, 2, none⟩) hl7).trans U2
  have hs79 := hb79.size
  have l2 : w2.heap.size < w9.heap.size := by omega
  have l5 : w5.heap.size < w9.heap.size := by omega
  have HST4 := Lib.hid (HST4.out.below hb79)
  have HST5 := Lib.hid (HST5.out.below hb79)
  have HB9 := Lib.hid (HB7.out.trans (hb79.mono HB7.out.size))
  have HSEAL := Lib.hid (show (⟨(sealL [67, 78, 67, 49, 1, 1, 2, 1, 1, 1, 1, 97, 2, 2, 0, 0]).toArray⟩ : ByteArray) = BB by rw [← HBB.out]; exact congrArg (fun l => (⟨(sealL l).toArray⟩ : ByteArray)) (by decide +kernel))
  have HLEN := Lib.hid (show (sealL (headL stA.made stA.inos)).length = BB.size by rw [← HBB.out]; rfl)
  clear hb9 hb79 u0 u1 u2 ha8 hl8 hW8 hs79
  go_wp2_with fail
  refine (num19 _ _).mono ?_
  rintro e w9' ⟨rfl, rfl⟩
  go_wp2_with fail
  refine (seal_any ⟨#[67, 78, 67, 49, 1, 1, 2, 1, 1, 1, 1, 97, 2, 2, 0, 0]⟩ _ (by decide)).mono ?_
  rintro e w10 ⟨rfl, hb10⟩
  rw [show (⟨(sealL (⟨#[67, 78, 67, 49, 1, 1, 2, 1, 1, 1, 1, 97, 2, 2, 0, 0]⟩ : ByteArray).data.toList).toArray⟩ : ByteArray) = BB from HSEAL.out]
  have T0 := (hb10.cell (p := ⟨w2.heap.size, 0, none⟩) l2).trans T0
  have T1 := (hb10.cell (p := ⟨w2.heap.size, 1, none⟩) l2).trans T1
  have T2 := (hb10.cell (p := ⟨w2.heap.size, 2, none⟩) l2).trans T2
  have U0 := (hb10.cell (p := ⟨w5.heap.size, 0, none⟩) l5).trans U0
  have U1 := (hb10.cell (p := ⟨w5.heap.size, 1, none⟩) l5).trans U1
  have U2 := (hb10.cell (p := ⟨w5.heap.size, 2, none⟩) l5).trans U2
  have l2 : w2.heap.size < w10.heap.size := Nat.lt_of_lt_of_le l2 hb10.size
  have HST4 := Lib.hid (HST4.out.below hb10)
  have HST5 := Lib.hid (HST5.out.below hb10)
  have HB10 := Lib.hid (HB9.out.trans (hb10.mono HB9.out.size))
  clear hb10
  go_wp2_with fail
  refine (num19 _ _).mono ?_
  rintro e w10' ⟨rfl, rfl⟩
  go_wp2_with fail
  refine (plain_any _ _ _ _ _ HST4.out HST5.out).mono ?_
  rintro e w11 ⟨rfl, hb11⟩
  rw [show plainV stA ⟨stA.inos, [], stA.made⟩ = true from plainV_yes rfl]
  have T0 := (hb11.cell (p := ⟨w2.heap.size, 0, none⟩) l2).trans T0
  have T1 := (hb11.cell (p := ⟨w2.heap.size, 1, none⟩) l2).trans T1
  have T2 := (hb11.cell (p := ⟨w2.heap.size, 2, none⟩) l2).trans T2
  have HST4 := Lib.hid (HST4.out.below hb11)
  have HB11 := Lib.hid (HB10.out.trans (hb11.mono HB10.out.size))
  clear hb11
  go_wp2_with fail
  refine (num19 _ _).mono ?_
  rintro e w11' ⟨rfl, rfl⟩
  go_wp2_with fail
  refine (num19 _ _).mono ?_
  rintro e w11' ⟨rfl, rfl⟩
  go_wp2_with fail
  refine (size_all _ _ _ HST4.out HMAY.out HDEL.out).mono ?_
  rintro e w12 ⟨rfl, hb12⟩
  rw [HLEN.out]
  have HB12 := Lib.hid (HB11.out.trans (hb12.mono HB11.out.size))
  clear hb12
  go_wp2_with fail
  go_ret
  exact ⟨rfl, HB12.out⟩
end Go.Proofs.Ytghlgnklnbcppaa

/- A byte more in a file: plain. -/
namespace Go.Proofs.Ytghlgnklnbcppaa
open Go.RowKit
set_option linter.unusedVariables false
set_option linter.unusedSimpArgs false
def inoF (D : ByteArray) : Ino := ⟨2, false, [], D⟩
def inoR : Ino := ⟨1, true, [⟨⟨#[97]⟩, 2⟩], ⟨#[]⟩⟩
def stF (n : Nat) (o : List Ds) (D : ByteArray) : St := ⟨[inoR, inoF D], o, 1 :: List.replicate (n - 1) 0⟩
def dsF : Ds := ⟨0, 0, 2⟩
def zerosB (m : Nat) : ByteArray := ⟨(List.replicate m (0 : UInt8)).toArray⟩
theorem zerosB_size (m : Nat) : (zerosB m).size = m := by
  show (List.replicate m (0 : UInt8)).toArray.size = m
  simp
/-- The calls of the law: Create, Open, Truncate. -/
def callQ (m q : Nat) : Ca := match q with
  | 0 => ⟨0, 0, 0, 0, 0, ⟨#[47, 97]⟩, ⟨#[]⟩, ⟨#[]⟩⟩
  | 1 => ⟨2, 0, 0, 0, 0, ⟨#[47, 97]⟩, ⟨#[]⟩, ⟨#[]⟩⟩
  | _ => ⟨6, 0, 0, 0, (m : Int), ⟨#[]⟩, ⟨#[]⟩, ⟨#[]⟩⟩
/-- The states of the law. -/
def stQ (n m q : Nat) : St := match q with
  | 0 => newV n
  | 1 => stF n [] ⟨#[]⟩
  | 2 => stF n [dsF] ⟨#[]⟩
  | _ => stF n [dsF] (zerosB m)
theorem small_n {n : Nat} (h1 : 1 ≤ n) (h8 : n ≤ 8) : n = 1 ∨ n = 2 ∨ n = 3 ∨ n = 4 ∨ n = 5 ∨ n = 6 ∨ n = 7 ∨ n = 8 := by omega
theorem may_step (s : St) (D : ByteArray) (hD : D.size ≤ 256) (hi : s.inos = [inoR, inoF D]) (e1 : inoBad s none inoR = false) (e2 : badNum s.made (some 1) 2 = false) (e3 : inoLost s true inoR true = false) (e4 : inoLost s false (inoF D) true = false)
    (e5 : reachV s.inos = [true, true]) (e6 : (decide (1 ≤ s.made.length) && decide (s.made.length ≤ 8) && rootB s.inos && opensV s && madeG s.made && decide (s.inos.length ≤ 257)) = true) (e7 : entsV s.inos [] = true) : mayV s = true := by
  have h9 : decide (256 < D.size) = false := decide_eq_false_iff_not.2 (by omega)
  have h2 : inoBad s (some 1) (inoF D) = false := by
    unfold inoBad
    rw [show (inoF D).data = D from rfl, h9, show (inoF D).ents = [] from rfl, e7, show (inoF D).num = 2 from rfl, e2]
    rfl
  unfold mayV
  rw [e6, e5, Bool.true_and, hi]
  unfold inosG
  rw [e1, if_neg (by decide)]
  show (if inoLost s true inoR true = true then false else inosG s [inoF D] (some 1) [true]) = true
  rw [e3, if_neg (by decide)]
  unfold inosG
  rw [h2, if_neg (by decide)]
  show (if inoLost s false (inoF D) true = true then false else true) = true
  rw [e4, if_neg (by decide)]
theorem may_file (n : Nat) (h1 : 1 ≤ n) (h8 : n ≤ 8) (o : List Ds) (ho : o = [] ∨ o = [dsF]) (D : ByteArray) (hD : D.size ≤ 256) : mayV (stF n o D) = true := by
  rcases small_n h1 h8 with h | h | h | h | h | h | h | h <;> rcases ho with h2 | h2 <;> (
    subst h h2
    exact may_step _ D hD rfl (by kernel_rfl) (by kernel_rfl) (by kernel_rfl) (by kernel_rfl) (by kernel_rfl) (by kernel_rfl) (by kernel_rfl))
theorem sized_file (n : Nat) (h1 : 1 ≤ n) (h8 : n ≤ 8) (o : List Ds) (ho : o = [] ∨ o = [dsF]) (D : ByteArray) (hD : D.size ≤ 256) : Sized (stF n o D) := by
  refine ⟨?_, ?_, ?_, ?_⟩
  · have : o.length ≤ 1 := by rcases ho with h | h <;> (subst h; decide)
    show 2 + 1 + o.length + (1 :: List.replicate (n - 1) (0 : Int)).length ≤ 1099511627776
    rw [List.length_cons, List.length_replicate]
    omega
  · intro x hx
    have h2 : x = inoR ∨ x = inoF D := by simpa [stF] using hx
    rcases h2 with h3 | h3
    · subst h3; decide
    · subst h3
      exact ⟨by show D.size ≤ _; omega, fun e he => by simp [inoF] at he⟩
  · intro x hx
    have h2 : x = inoR ∨ x = inoF D := by simpa [stF] using hx
    rcases h2 with h3 | h3
    · subst h3; decide
    · subst h3
      exact ⟨by show (-9223372036854775808 : Int) ≤ 2; decide, by show (2 : Int) ≤ 9223372036854775807; decide, fun e he => by simp [inoF] at he⟩
  · intro x hx
    have h2 : x = 1 ∨ x ∈ List.replicate (n - 1) (0 : Int) := by simpa [stF] using hx
    rcases h2 with h3 | h3
    · subst h3; decide
    · rw [List.mem_replicate] at h3; rw [h3.2]; decide
theorem make_file (n : Nat) (h1 : 1 ≤ n) (h8 : n ≤ 8) : (make1V (newV n) callA).1 = stF n [] ⟨#[]⟩ := by
  rcases small_n h1 h8 with h | h | h | h | h | h | h | h <;> (subst h; decide +kernel)
def openC : Ca := ⟨2, 0, 0, 0, 0, ⟨#[47, 97]⟩, ⟨#[]⟩, ⟨#[]⟩⟩
theorem open_file (n : Nat) (h1 : 1 ≤ n) (h8 : n ≤ 8) : (openedV (stF n [] ⟨#[]⟩) openC (-1)).1 = stF n [dsF] ⟨#[]⟩ ∧ (openedV (stF n [] ⟨#[]⟩) openC (-1)).2.1.code = 0 ∧ (openedV (stF n [] ⟨#[]⟩) openC (-1)).2.2 = true := by
  rcases small_n h1 h8 with h | h | h | h | h | h | h | h <;> (subst h; exact ⟨by decide +kernel, by decide +kernel, by decide +kernel⟩)
theorem trunc_file (n m k : Nat) (hk : k ≤ m) : truncV (stF n [dsF] (zerosB k)) 1 (inoF (zerosB k)) m = stF n [dsF] (zerosB m) := by
  have e : (txt (sizedL (zerosB k).data.toList m)) = zerosB m := by
    have h1 : (zerosB k).data.toList = List.replicate k (0 : UInt8) := rfl
    rw [h1, sizedL_long _ _ (by simpa using hk), List.length_replicate, List.replicate_append_replicate, show k + (m - k) = m by omega]
    rfl
  show (⟨[inoR, { inoF (zerosB k) with data := txt (sizedL (zerosB k).data.toList m) }], [dsF], _⟩ : St) = _
  rw [e]
  rfl
theorem Do_trunc (n m k : Nat) (h1 : 1 ≤ n) (h8 : n ≤ 8) (hk : k ≤ m) (hm : m ≤ 256) (v : Value) (w : World) (h : StAt none w v (stF n [dsF] (zerosB k))) :
    Calls Try.prog 10 #[v, caV ⟨6, 0, 0, 0, (m : Int), ⟨#[]⟩, ⟨#[]⟩, ⟨#[]⟩⟩] w fun e w' => ∃ v', e = .returned (.tuple #[v', resV {}]) ∧ StAt (some w.heap.size) w' v' (stF n [dsF] (zerosB m)) ∧ Below w.heap.size w w' := by
  have hsz : (zerosB k).size = k := zerosB_size k
  have hsm : (zerosB m).size = m := zerosB_size m
  refine Do_of v _ _ _ _ w h fun u hu => ?_
  have := do_fd v (stF n [dsF] (zerosB k)) 0 0 0 m ⟨#[]⟩ ⟨#[]⟩ ⟨#[]⟩ (-1) 2 1 (inoF (zerosB k)) u hu (may_file n h1 h8 _ (.inr rfl) _ (by omega)) (by decide)
    (by show (0 : Int) < ((1 :: List.replicate (n - 1) (0 : Int)).length : Int); rw [List.length_cons]; omega) (by rfl) (by decide) (by rfl) (by rfl) (by show (zerosB k).size ≤ m; omega) hm
    (by rw [trunc_file n m k hk]; exact sized_file n h1 h8 _ (.inr rfl) _ (by omega))
  rw [trunc_file n m k hk] at this
  exact this
theorem Do_open1 (n : Nat) (h1 : 1 ≤ n) (h8 : n ≤ 8) (v : Value) (w : World) (h : StAt none w v (stF n [] ⟨#[]⟩)) :
    Calls Try.prog 10 #[v, caV openC] w fun e w' => ∃ v' r, e = .returned (.tuple #[v', resV r]) ∧ StAt (some w.heap.size) w' v' (stF n [dsF] ⟨#[]⟩) ∧ Below w.heap.size w w' := by
  obtain ⟨o1, o2, o3⟩ := open_file n h1 h8
  have hsz : Sized (openedV (stF n [] ⟨#[]⟩) openC (-1)).1 := by rw [o1]; exact sized_file n h1 h8 _ (.inr rfl) _ (by decide)
  refine (Do_of v (stF n [] ⟨#[]⟩) openC _ _ w h fun u hu => do_open v (stF n [] ⟨#[]⟩) 0 0 0 0 ⟨#[47, 97]⟩ ⟨#[]⟩ ⟨#[]⟩ (-1) u hu (may_file n h1 h8 _ (.inl rfl) _ (by decide)) (by decide)
    (by show (0 : Int) < ((1 :: List.replicate (n - 1) (0 : Int)).length : Int); rw [List.length_cons]; omega) (by decide) hsz o2 o3).mono ?_
  rintro e w' ⟨v', rfl, hst, hb⟩
  have hst' : StAt (some w.heap.size) w' v' (openedV (stF n [] ⟨#[]⟩) openC (-1)).1 := hst
  rw [o1] at hst'
  exact ⟨v', _, rfl, hst', hb⟩
/-- A round of the law's loop. -/
theorem Do_round (n m q : Nat) (h1 : 1 ≤ n) (h8 : n ≤ 8) (hm : m ≤ 256) (hq : q < 3) (v : Value) (w : World) (h : StAt none w v (stQ n m q)) :
    Calls Try.prog 10 #[v, caV (callQ m q)] w fun e w' => ∃ v' r, e = .returned (.tuple #[v', resV r]) ∧ StAt (some w.heap.size) w' v' (stQ n m (q + 1)) ∧ Below w.heap.size w w' := by
  have : q = 0 ∨ q = 1 ∨ q = 2 := by omega
  rcases this with hq | hq | hq
  · subst hq
    refine (Do_first n h1 h8 v w h).mono ?_
    rintro e w' ⟨v', rfl, hst, hb⟩
    rw [make_file n h1 h8] at hst
    exact ⟨v', _, rfl, hst, hb⟩
  · subst hq
    exact Do_open1 n h1 h8 v w h
  · subst hq
    refine (Do_trunc n m 0 h1 h8 (by omega) hm v w h).mono ?_
    rintro e w' ⟨v', rfl, hst, hb⟩
    exact ⟨v', _, rfl, hst, hb⟩
theorem eightL_len (h : Nat) : (eightL h).length = 8 := by simp [eightL]
theorem madeL_rep : ∀ k : Nat, (madeL (List.replicate k 0)).length = k
  | 0 => rfl
  | k + 1 => by
    rw [List.replicate_succ]
    unfold madeL
    rw [List.length_append, madeL_rep k]
    show ([0] : List UInt8).length + k = k + 1
    simp [Nat.add_comm]
/-- How long the bytes are. -/
theorem head_len (n m : Nat) (h1 : 1 ≤ n) (h8 : n ≤ 8) : (sealL (headL (stF n [dsF] (zerosB m)).made (stF n [dsF] (zerosB m)).inos)).length = 22 + n + (numL m).length + m := by
  have e1 : (stF n [dsF] (zerosB m)).made = 1 :: List.replicate (n - 1) 0 := rfl
  have e2 : (stF n [dsF] (zerosB m)).inos = [inoR, inoF (zerosB m)] := rfl
  have e3 : (inodeL (inoF (zerosB m))).length = 2 + (numL m).length + m := by
    show ((numL 2 ++ numL 0) ++ (numL (zerosB m).size ++ (zerosB m).data.toList)).length = _
    rw [zerosB_size, List.length_append, List.length_append, List.length_append, show (numL 2).length = 1 by decide, show (numL 0).length = 1 by decide]
    show 1 + 1 + ((numL m).length + (List.replicate m (0 : UInt8)).length) = _
    rw [List.length_replicate]
    omega
  have e4 : (inodeL inoR).length = 6 := by decide
  have e5 : (numL (1 :: List.replicate (n - 1) (0 : Int)).length).length = 1 := by
    rw [List.length_cons, List.length_replicate, numL_last _ (by omega)]
    rfl
  rw [e1, e2]
  unfold sealL headL
  rw [List.length_append, eightL_len, List.length_append, List.length_append, List.length_append, List.length_append, e5]
  show 4 + 1 + (numL (1 : Int).toNat ++ madeL (List.replicate (n - 1) 0)).length + (numL 2).length + (inodeL inoR ++ (inodeL (inoF (zerosB m)) ++ [])).length + 8 = _
  rw [List.length_append, madeL_rep, List.length_append, List.length_append, e3, e4, show (numL (1 : Int).toNat).length = 1 by decide, show (numL 2).length = 1 by decide]
  simp only [List.length_nil]
  omega
theorem numL_size (m : Nat) (h : m ≤ 256) : (numL m).length = if m < 128 then 1 else 2 := by
  by_cases h2 : m < 128
  · rw [if_pos h2, numL_last _ h2]
    rfl
  · rw [if_neg h2, numL_step _ (by omega) (by omega), numL_last _ (by omega)]
    rfl
theorem head_more (n m : Nat) (h1 : 1 ≤ n) (h8 : n ≤ 8) (hm : m ≤ 255) : (sealL (headL (stF n [dsF] (zerosB (m + 1))).made (stF n [dsF] (zerosB (m + 1))).inos)).length = (sealL (headL (stF n [dsF] (zerosB m)).made (stF n [dsF] (zerosB m)).inos)).length + (if m = 127 then 2 else 1) := by
  rw [head_len n _ h1 h8, head_len n _ h1 h8, numL_size _ (by omega), numL_size _ (by omega)]
  split <;> split <;> split <;> omega
theorem del_file (n : Nat) (D : ByteArray) : ∀ x ∈ (stF n [dsF] D).inos, delB (stF n [dsF] D) x = false := by
  intro x hx
  have h2 : x = inoR ∨ x = inoF D := by simpa [stF] using hx
  rcases h2 with h3 | h3 <;> (subst h3; rfl)
end Go.Proofs.Ytghlgnklnbcppaa
