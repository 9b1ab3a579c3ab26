/- journal.Journal.put, by its contract. -/
import Derived.Test.YtbflennacniacaaJoPut0
namespace Go.Proofs.Ytbflennacniacaa
open Go.RowKit
set_option linter.unusedVariables false
def turn1 (t : Nat) : Nat := (t + 1) % 18446744073709551616
theorem turn1_wrap (t : Nat) : IntKind.u64.wrap ((t : Int) + 1) = (turn1 t : Int) := by
  unfold turn1
  rw [IntKind.wrap_u64]
  omega
theorem reads4 (w : World) (b x1 x2 x3 : Nat) (t : TypeId) (hb : b = w.heap.size) :
    Reads (w.alloc (.cells #[.int .u64 7165066905520534131, .int .u64 (x1 : Int), .int .u64 (x2 : Int), .int .u64 (x3 : Int)] t)) (some ⟨b, 0, .none⟩) 4 ([magicN, x1, x2, x3].map fun x : Nat => Value.int .u64 (x : Int)) := by
  refine ⟨rfl, fun _ => ⟨b, 0, rfl, by rw [hb]; simp, fun i hi => ?_⟩⟩
  subst hb
  have : i = 0 ∨ i = 1 ∨ i = 2 ∨ i = 3 := by omega
  rcases this with e | e | e | e <;> subst e <;> exact (World.cell?_alloc_mark w _ _ (0, 0) _).trans rfl
set_option maxRecDepth 100000 in
set_option maxHeartbeats 8000000 in
theorem put_any (w0 wz w : World) (Z : Nat → Prop) (j a : Nat) (J : JD) (M : PM) (s : ByteArray) (K : Nat) (h : Jour w0 wz w Z j a J M) (hfit : JFit J M) (ha : J.area ≤ 1) (hs8 : J.start % 8 = 0) (hsz : s.size ≤ 65536) (ho : M.ok K) (hK : K ≤ 274877906944) :
    Calls Try.prog 56 #[.pointer (some ⟨j, 0, .none⟩), .string s] w fun e w' => e = .returned (.tuple #[]) ∧ Jour w0 wz w' Z j a (J.put s) (putM M (baseN J (1 - J.area) / 8) (turn1 J.turn) s.data.toList) := by
  obtain ⟨c0, c1, c2, c3, c4, c5, hfz⟩ := h.cells
  have HJ := Lib.hid h
  have hw := hfit.words
  have hst := hfit.start
  obtain ⟨k, hk⟩ : ∃ k, 1 - J.area = k := ⟨_, rfl⟩
  have hk1 : k ≤ 1 := by omega
  have ek : IntKind.i64.wrap (1 - (J.area : Int)) = (k : Int) := by rw [IntKind.wrap_i64]; omega
  have et := turn1_wrap J.turn
  obtain ⟨t1, ht1⟩ : ∃ t, turn1 J.turn = t := ⟨_, rfl⟩
  rw [ht1] at et
  have HBASE := Lib.hid (fun (w1 : World) (J1 : JD) (M1 : PM) (h1 : Jour w0 wz w1 Z j a J1 M1) (e1 : J1.start = J.start ∧ J1.words = J.words) => base_any w1 j J.start J.words k (by rw [← e1.1]; exact h1.cells.2.1) (by rw [← e1.2]; exact h1.cells.2.2.1) (by omega) hst hk1)
  obtain ⟨B, hB⟩ : ∃ B, J.start + k * halfN J.words = B := ⟨_, rfl⟩
  have hB' : baseN J k = B := hB
  rw [hB] at HBASE
  have HBV := Lib.hid hB
  obtain ⟨q, hq⟩ : ∃ q, B / 8 = q := ⟨_, rfl⟩
  have hBq : B = 8 * q := by
    have h1 : (k * halfN J.words) % 8 = 0 := by
      unfold halfN
      rw [← Nat.mul_assoc]
      exact Nat.mul_mod_left ..
    omega
  have hBb : B + 32 ≤ 65536 := by
    have h1 := hfit.room k hk1
    obtain ⟨F, _, hm, _⟩ := h.mem
    have h2 := hm.size
    have h3 : 32 ≤ halfN J.words := by unfold halfN; omega
    omega
  have hsl : s.data.toList.length = s.size := by simp
  obtain ⟨T, hT⟩ : ∃ T, s.data.toList = T := ⟨_, rfl⟩
  obtain ⟨L, hL⟩ : ∃ L, wordsOfText T = L := ⟨_, rfl⟩
  rw [hT] at hsl
  have hLv : (s.size + 7) / 8 = L := by rw [← hL, ← hsl]; rfl
  have hLb : L ≤ 8192 := by omega
  have e8 : ((s.size : Int) + 8 - 1).tdiv 8 = (L : Int) := by
    rw [show ((s.size : Int) + 8 - 1) = ((s.size + 7 : Nat) : Int) from by omega]
    show ((((s.size + 7) / 8 : Nat)) : Int) = _
    rw [hLv]
  have HFIN : Hid (putM M (baseN J (1 - J.area) / 8) (turn1 J.turn) s.data.toList = flushP (stH (flushP (stT M (8 * q + 8) T L) (q + 1) L) (8 * q) (head5 t1 T) 5) q 8) := Lib.hid (by rw [hk, hB', hq, ht1, hT]; unfold putM; rw [hL])
  have HWORD := Lib.hid (fun (at_ : Nat) (w1 : World) (h : at_ ≤ 4611686018427387904) => word_any s at_ w1 (by unfold maxLen; omega) h)
  rw [hT] at HWORD
  have HSUM := Lib.hid (fun w1 => sum_any s w1 (by unfold maxLen; omega))
  rw [hT] at HSUM
  have HT := Lib.hid hT
  have HHK := Lib.hid hk
  have HT1 := Lib.hid ht1
  have HBQ := Lib.hid hBq
  have HLV := Lib.hid hLv
  have HSL := Lib.hid hsl
  have HOK1 := Lib.hid (fun n => stT_ok ho (8 * q + 8) T n)
  have hqb : q + 3 ≤ 8192 := by omega
  have ho2 := flushP_ok (stT_ok ho (8 * q + 8) T L) (q + 1) L
  have HOK2 := Lib.hid (fun n => stH_ok ho2 (8 * q) (head5 t1 T) n)
  clear h ha hs8 hfz hk ht1 hB hB' hq hBq hT hL hsl hLv ho ho2 c5
  go_enter Try.func56, Try.ntmps56
  go_wp2_with fail
  go_quiet (fail)
  clear ek et
  go_wp2_with fail
  refine (HBASE.out _ J M (HJ.out.drewN nq) ⟨rfl, rfl⟩).mono ?_
  rintro e w1 ⟨rfl, n1, rfl⟩
  have hj1 := (HJ.out.drewN nq).drewN n1
  obtain ⟨w1, hw1⟩ : ∃ w1, (w.drewN nq).drewN n1 = w1 := ⟨_, rfl⟩
  rw [hw1] at hj1 ⊢
  have HJ1 := Lib.hid hj1
  clear hj1 hw1
  go_wp2_with fail
  go_loopw [32] (fun i wr => ∃ n : Nat, n ≤ L ∧ i = .int .i64 n ∧ Jour w0 wz wr Z j a J (stT M (8 * q + 8) T n)) (fun i _ => L - (intOf i).toNat)
  case atStart => exact ⟨0, by omega, rfl, HJ1.out⟩
  case round =>
    obtain ⟨n, hn, rfl, hj⟩ := hrel
    obtain ⟨d0, _⟩ := hj.cells
    have HJ2 := Lib.hid hj
    clear hj
    by_cases hlt : n < L
    · have q1 : decide (n < L) = true := by simpa using hlt
      have hw1 : IntKind.i64.wrap ((B : Int) + 8 + (n : Int)) = (B : Int) + 8 + (n : Int) := by rw [IntKind.wrap_i64]; omega
      have hw2 : IntKind.i64.wrap ((n : Int) * 8) = ((8 * n : Nat) : Int) := by rw [IntKind.wrap_i64]; omega
      have hw3 : IntKind.i64.wrap ((n : Int) * 8) = (n : Int) * 8 := by rw [IntKind.wrap_i64]; omega
      have hcast : (B : Int) + 8 + (n : Int) = ((8 * q + 8 + n : Nat) : Int) := by have := HBQ.out; omega
      have hc8 : (n : Int) * 8 = ((8 * n : Nat) : Int) := by omega
      have HCAST := Lib.hid hcast
      have HC8 := Lib.hid hc8
      clear hcast hc8 hw2
      go_wp2_with fail
      go_region_held3 (fun w' => w'.cell? ⟨j, 0, none⟩ = some (.pointer (some ⟨a, 0, none⟩)))
        (first
          | go_keep
          | exact hj3.cells.1)
        (first
          | (go_at_call 64; rw [HC8.out]; refine (HWORD.out (8 * n) _ (by omega)).mono ?_; rintro e3 w3 ⟨rfl, rfl⟩)
          | (go_at_call 17; rw [HCAST.out]; refine (store_j HJ2.out.drew _ _ _ (HOK1.out n) (by omega)).mono ?_; rintro e4 w4 ⟨rfl, hj3⟩))
      have HJ3 : Hid (Jour w0 wz w4 Z j a J (stT M (8 * q + 8) T (n + 1))) := Lib.hid hj3
      clear hj3 hw1 hw3
      go_wp2_with fail
      exact ⟨⟨n + 1, by omega, by go_num, HJ3.out⟩, by simp [intOf]; omega⟩
    · obtain rfl : n = L := by omega
      have q1 : decide (n < n) = false := by simp
      clear hlt
      have hx : (B : Int) + 8 = ((8 * (q + 1) : Nat) : Int) := by have := HBQ.out; omega
      have HX := Lib.hid hx
      clear hx
      go_wp2_with fail
      refine (jflush_any w0 wz wr Z j a J _ (q + 1) n (K + n) _ HX.out HJ2.out (HOK1.out n) (by omega) (by omega) (by omega)).mono ?_
      rintro e5 w5 ⟨rfl, hj5⟩
      have HJ5 := Lib.hid hj5
      clear hj5 HJ2 HJ1 d0
      have hwu : IntKind.u64.wrap (s.size : Int) = (s.size : Int) := by rw [IntKind.wrap_u64]; omega
      go_wp2_with fail
      refine (HSUM.out _).mono ?_
      rintro e6 w6 ⟨rfl, rfl⟩
      obtain ⟨TS, hTS⟩ : ∃ TS, sumN T = TS := ⟨_, rfl⟩
      rw [hTS]
      have HTS := Lib.hid hTS
      clear hTS hwu
      have hh4 : [magicN, t1, s.size, TS] = head4 t1 T := by unfold head4; rw [HSL.out, HTS.out]
      have ht64 : t1 < 18446744073709551616 := by
        rw [← HT1.out]
        unfold turn1
        omega
      have hts64 : TS < 18446744073709551616 := by
        rw [← HTS.out]
        have := sumN_lt T
        rw [hM_lit] at this
        exact this
      have HX4 : Hid (∀ x ∈ [magicN, t1, s.size, TS], x < 18446744073709551616) := Lib.hid fun x hx => by
        simp at hx
        rcases hx with rfl | rfl | rfl | rfl
        · decide
        · exact ht64
        · omega
        · exact hts64
      clear ht64 hts64
      obtain ⟨OS, hOS⟩ : ∃ OS, sumN (digitsL (head4 t1 T)) = OS := ⟨_, rfl⟩
      have hdl : (digitsL (head4 t1 T)).length = 32 := by rw [digitsL_len]; rfl
      have HSO : Hid (∀ w1, Calls Try.prog 66 #[.string ⟨(digitsL (head4 t1 T)).toArray⟩] w1 fun e w' => e = .returned (.int .u64 (OS : Int)) ∧ w1 = w') := Lib.hid fun w1 => by
        have := sum_any ⟨(digitsL (head4 t1 T)).toArray⟩ w1 (by unfold maxLen; show (digitsL (head4 t1 T)).toArray.size ≤ _; simp; omega)
        rw [show (ByteArray.mk (digitsL (head4 t1 T)).toArray).data.toList = digitsL (head4 t1 T) from by simp, hOS] at this
        exact this
      have hh5 : [magicN, t1, s.size, TS] ++ [OS] = head5 t1 T := by unfold head5; rw [HSL.out, HTS.out, hOS]; rfl
      have HH4 := Lib.hid hh4
      have HH5 := Lib.hid hh5
      clear hh4 hh5 hOS hdl
      obtain ⟨i0, hi, hz0, hz1, hz2⟩ := info_parts infoU64'
      have HOWN := Lib.hid (World.ownsRow_lit (base := w5.heap.size) (e := 29) (size := 1) w5 #[.int .u64 7165066905520534131, .int .u64 (t1 : Int), .int .u64 (s.size : Int), .int .u64 (TS : Int)] 4 (Nat.le_refl _) (by unfold maxLen; omega) rfl)
      go_wp2_with fail
      refine (digits_any _ 4 4 [magicN, t1, s.size, TS] _ (reads4 w5 _ t1 s.size TS _ rfl) HX4.out (by omega)).mono ?_
      rintro e7 w7 ⟨rfl, hb7⟩
      rw [HH4.out]
      have hown7 := owns_below HOWN.out hb7
      have hbel7 : Below w5.heap.size w5 w7 := ((Below.refl _ _).alloc (Nat.le_refl _) _).trans (hb7.mono (by simp))
      have HO7 := Lib.hid hown7
      have HB7 := Lib.hid hbel7
      clear hb7 hown7 hbel7
      go_wp2_with fail
      refine (HSO.out _).mono ?_
      rintro e8' w8 ⟨rfl, rfl⟩
      have HO8 := Lib.hid (HO7.out.alloc (.cells #[.int .u64 (OS : Int)] 29))
      go_wp2_with (at_builtin; refine wpList_append_own _ rfl _ _ 49 rfl w5.heap.size 29 i0 (.int .u64 0) 1 8 Try.underlying49 hi hz0 hz1 hz2 rfl (by decide) _ _ _ rfl HO8.out ⟨w7.heap.size, 0, .none⟩ 1 1 [.int .u64 (OS : Int)] rfl rfl ?ca2 ?ca3 ?ca4 ?ca5 ?ca6 ?_)
      case ca2 => exact cell_one_new _ _ _
      case ca3 =>
        intro u hu
        simp at hu
        subst hu
        rfl
      case ca4 => unfold maxLen; omega
      case ca5 => omega
      case ca6 => exact Nat.le_trans HB7.out.size (by simp)
      intro v' w9 hown' hgrow _
      have hb9 : Below w5.heap.size w5 w9 := (HB7.out.alloc HB7.out.size _).grown hgrow (Nat.le_trans HB7.out.size (by simp)) fun x hx => (HO8.out.lt x hx).1
      obtain ⟨g, cap, rfl, hgb, hgl, hgc⟩ := RowT.of_owns (xs := head5 t1 T) (n := 5) (by
        rw [← HH5.out, List.map_append]
        exact hown') rfl (by omega)
      have hj9 := HJ5.out.grow hb9 g hgb hgl
      have HJ9 := Lib.hid hj9
      have HJ9z := Lib.hid (HJ5.out.below hb9)
      have HGC := Lib.hid hgc
      clear hown' hgrow hb9 hj9 hgc
      go_wp2_with fail
      obtain ⟨M2, hM2⟩ : ∃ M2, flushP (stT M (8 * q + 8) T n) (q + 1) n = M2 := ⟨_, rfl⟩
      rw [hM2] at HJ9 HOK2
      have HM2 := Lib.hid hM2
      clear hM2
      go_loopw [66] (fun i wr => ∃ m : Nat, m ≤ 5 ∧ i = .int .i64 m ∧ Jour w0 w9 wr (fun k => Z k ∨ k = g) j a J (stH M2 (8 * q) (head5 t1 T) m)) (fun i _ => 5 - (intOf i).toNat)
      case atStart => exact ⟨0, by omega, rfl, HJ9.out⟩
      case round =>
        obtain ⟨m, hm, rfl, hj⟩ := hrel
        obtain ⟨d0, d1, d2, d3, d4, d5, dz⟩ := hj.cells
        have HJA := Lib.hid hj
        have hzg := hj.zblock g (.inr rfl)
        clear hj
        by_cases hlt : m < 5
        · have q5 : decide ((m : Int) < 5) = true := by simp; omega
          have hxc : wr.cell? ⟨g, m, .none⟩ = some (.int .u64 (((head5 t1 T).getD m 0 : Nat) : Int)) := (World.cell?_of_block hzg).trans (HGC.out m hlt)
          obtain ⟨x, hx⟩ : ∃ x, (head5 t1 T).getD m 0 = x := ⟨_, rfl⟩
          rw [hx] at hxc
          have hnx : stH M2 (8 * q) (head5 t1 T) (m + 1) = (stH M2 (8 * q) (head5 t1 T) m).store ((8 * q + m : Nat) : Int) (x : Int) := by rw [← hx]; rfl
          have HNX := Lib.hid hnx
          have hw1 : IntKind.i64.wrap ((B : Int) + (m : Int)) = (B : Int) + (m : Int) := by rw [IntKind.wrap_i64]; omega
          have hcast : (B : Int) + (m : Int) = ((8 * q + m : Nat) : Int) := by have := HBQ.out; omega
          have HCAST := Lib.hid hcast
          clear hx hnx hzg hcast d3 d4 d5 dz
          go_wp2_with fail
          go_region_held3 (fun w' => w'.cell? ⟨j, 0, none⟩ = some (.pointer (some ⟨a, 0, none⟩)) ∧ w'.cell? ⟨j, 1, none⟩ = some (.int .i64 (J.start : Nat)) ∧ w'.cell? ⟨j, 2, none⟩ = some (.int .i64 (J.words : Nat)))
            (first
              | go_keep
              | (refine ⟨?_, ?_, ?_⟩ <;> go_keep)
              | exact ⟨hjb.cells.1, hjb.cells.2.1, hjb.cells.2.2.1⟩)
            (first
              | (go_at_call 63; refine (base_any wr.drew j J.start J.words k d1 d2 (by omega) hst hk1).mono ?_; rw [HBV.out]; rintro e1 w1 ⟨rfl, n1, rfl⟩)
              | (go_at_call 17; rw [HCAST.out]; refine (store_j (HJA.out.drewN (1 + n1)) _ _ _ (HOK2.out m) (by omega)).mono ?_; rintro e4 w4 ⟨rfl, hjb⟩))
          have HJB : Hid (Jour w0 w9 w4 (fun k => Z k ∨ k = g) j a J (stH M2 (8 * q) (head5 t1 T) (m + 1))) := Lib.hid (by rw [HNX.out]; exact hjb)
          clear hjb hw1 hxc
          go_wp2_with fail
          exact ⟨⟨m + 1, by omega, by go_num, HJB.out⟩, by simp [intOf]; omega⟩
        · obtain rfl : m = 5 := by omega
          have hx : (B : Int) = ((8 * q : Nat) : Int) := by have := HBQ.out; omega
          have HX2 := Lib.hid hx
          clear hlt hzg hx d0 d3 d4 d5 dz
          go_wp2_with fail
          refine (base_any wr j J.start J.words k d1 d2 (by omega) hst hk1).mono ?_
          rw [HBV.out]
          rintro e1 w1 ⟨rfl, n1, rfl⟩
          go_wp2_with fail
          refine (jflush_any w0 w9 (wr.drewN n1) _ j a J _ q 8 (K + n + (n + 7) / 8 + 1 + 5) _ HX2.out (HJA.out.drewN n1) (HOK2.out 5) (by omega) (by omega) (by omega)).mono ?_
          rintro ea wa ⟨rfl, hja⟩
          have hjz := hja.shrink HJ9z.out (fun k hk => .inl hk)
          obtain ⟨_, _, _, c3, c4, c5, hfz⟩ := hjz.cells
          have z3 := hfz 3
          have z4 := hfz 4
          have z5 := hfz 5
          have h1 := hjz.setJ (J' := { J with area := k }) 3 (.int .i64 (k : Nat)) rfl
          have h2 := h1.setJ (J' := { J with area := k, turn := t1 }) 4 (.int .u64 (t1 : Nat)) rfl
          have h3 := h2.setJ (J' := { J with area := k, turn := t1, text := s }) 5 (.string s) rfl
          have HF3 := Lib.hid h3
          clear hja hjz hfz h1 h2 h3
          go_wp2_with fail
          go_end0
          refine ⟨rfl, ?_⟩
          rw [HFIN.out, HM2.out]
          have hJ : J.put s = { J with area := k, turn := t1, text := s } := by
            unfold JD.put
            rw [HHK.out, ← HT1.out]
            rfl
          rw [hJ]
          exact HF3.out
end Go.Proofs.Ytbflennacniacaa
