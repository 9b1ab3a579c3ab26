/- The walk of the law PathDepths. -/
import Derived.Test.YtihkjpfibogpdabAwake11
import Derived.Test.YtihkjpfibogpdabPlainPath3
namespace Go.Proofs.Ytihkjpfibogpdab
open Go.RowKit
set_option linter.unusedVariables false
theorem nib_may : ∀ q, q ≤ 15 → mayL [UInt8.ofNat (97 + q)] = true := by
  intro q hq
  have : ∀ q, q < 16 → mayL [UInt8.ofNat (97 + q)] = true := by decide +kernel
  exact this q (by omega)
theorem joinL_snoc (ts : List (List UInt8)) (t : List UInt8) : joinL (ts ++ [t]) = joinL ts ++ 47 :: t := by simp [joinL]
theorem parse_trail (ts : List (List UInt8)) (hn : ts ≠ []) (h : ts.all mayL = true) (hl : (joinL ts).length < 64) : parseL (joinL ts ++ [47]) = ([], 1100) := by
  obtain ⟨t, us, rfl⟩ : ∃ t us, ts = t :: us := by
    cases ts with
    | nil => exact absurd rfl hn
    | cons t us => exact ⟨t, us, rfl⟩
  have key : ∀ (ts : List (List UInt8)) (out : List (List UInt8)), ts.all mayL = true → scanP ((joinL ts ++ [47]).drop 1 ++ [47]) [] out = ([], 1100) := by
    intro ts
    induction ts with
    | nil => intro out _; exact scanP_form _ _ _ (by decide)
    | cons t ts ih =>
      intro out h
      have h' : mayL t = true ∧ ts.all mayL = true := by simpa using h
      have e : (joinL (t :: ts) ++ [47]).drop 1 ++ [47] = t ++ 47 :: ((joinL ts ++ [47]).drop 1 ++ [47]) := by
        rw [joinL_cons]
        cases ts with
        | nil => simp [joinL_nil]
        | cons u us => rw [joinL_cons]; simp
      rw [e, scanP_skip t _ _ _ (mayL_no47 h'.1), List.nil_append, scanP_ok _ _ _ (mayL_check h'.1), ih _ h'.2]
  unfold parseL
  rw [if_neg (by simp; omega), if_neg (by rw [joinL_cons]; simp), if_neg (by rw [joinL_cons]; simp), key _ _ h]
theorem parse_double (ts : List (List UInt8)) (hn : ts ≠ []) (hl : (joinL ts).length < 64) : parseL ([47] ++ joinL ts) = ([], 1100) := by
  obtain ⟨t, us, rfl⟩ : ∃ t us, ts = t :: us := by
    cases ts with
    | nil => exact absurd rfl hn
    | cons t us => exact ⟨t, us, rfl⟩
  unfold parseL
  rw [if_neg (by simp; omega), if_neg (by simp), if_neg (by rw [joinL_cons]; simp)]
  rw [joinL_cons]
  exact scanP_form _ _ _ (by decide)
set_option maxRecDepth 100000 in
set_option maxHeartbeats 4000000 in
theorem pathDepths_walk (m : Int) (hm : (Lit.int .i64 m).wf = true) (c : Int) (hc : (Lit.int .i64 c).wf = true) (w : World) :
    Calls Try.prog 10 #[.int .i64 m, .int .i64 c] w fun e w' => e = .returned (.bool true) ∧ Below w.heap.size w w' := by
  obtain ⟨k, hk, hkm⟩ := Cv.and_i64 m 7 (by omega)
  rw [show ((7 : Nat) : Int) = 7 from rfl] at hkm
  go_enter Try.func10, Try.ntmps10
  go_wp2_with fail
  refine (awake11 _).mono ?_
  rintro e w1 ⟨rfl, hb1⟩
  go_wp2_with fail
  go_loopw [6, 7] (fun s i wr => ∃ (n : Nat) (ts : List (List UInt8)), n ≤ k ∧ i = .int .i64 n ∧ ts.length = n ∧ ts.all mayL = true ∧ (joinL ts).length = 2 * n ∧ s = .string ⟨(joinL ts).toArray⟩ ∧ Below w1.heap.size w1 wr) (fun _ i _ => k - (intOf i).toNat)
  case atStart => exact ⟨0, [], by omega, rfl, rfl, rfl, rfl, rfl, Below.refl _ _⟩
  case round =>
    obtain ⟨n, ts, hn, rfl, hlen, hall, hjl, rfl, hbel⟩ := hrel
    have Hlen := Lib.hid hlen
    have Hall := Lib.hid hall
    have Hbel := Lib.hid hbel
    clear hlen hall hbel
    obtain ⟨u, hu⟩ : ∃ u, joinL ts = u := ⟨_, rfl⟩
    rw [hu] at hjl
    rw [hu]
    have hul : u.length ≤ 16 := by omega
    have Hu := Lib.hid hu
    have Hjl := Lib.hid hjl
    clear hu hjl
    by_cases hlt : n < k
    · obtain ⟨q, hq, hqe⟩ := Cv.and_i64 (wrap64 (c + (n : Int))) 15 (by omega)
      rw [show ((15 : Nat) : Int) = 15 from rfl] at hqe
      have hbm := nib_may q hq
      have hbq : (97 : Int) + (q : Int) = ((UInt8.ofNat (97 + q)).toNat : Int) := by rw [UInt8.toNat_ofNat']; omega
      generalize UInt8.ofNat (97 + q) = b at hbm hbq
      have hcv := fun (W : World) (g n : Nat) => Cv.conv_one W g n b
      have Hbm := Lib.hid hbm
      clear hbm
      go_wp2_with fail
      go_roundw
      case rel => exact ⟨n + 1, ts ++ [[b]], by omega, by go_num, by simp [Hlen.out], by rw [List.all_append, Hall.out]; simp [Hbm.out], by rw [joinL_snoc, Hu.out]; simp; have := Hjl.out; omega,
        by rw [joinL_snoc, Hu.out, show u ++ 47 :: [b] = (u ++ [47]) ++ [b] from by simp, ← mk_append, ← mk_append], Hbel.out.alloc Hbel.out.size _⟩
      case measure => simp [intOf]; omega
    · obtain rfl : n = k := by omega
      clear hlt
      by_cases h0 : n = 0
      · subst h0
        have hu0 : u = [] := List.eq_nil_of_length_eq_zero (by have := Hjl.out; omega)
        subst hu0
        go_wp2_with fail
        refine (parse_lit _ [] 0 (by decide +kernel) (by decide +kernel) _).mono ?_
        rintro e w2 ⟨A2, c2, rfl, _, _, _, _, hb2⟩
        go_wp2_with fail
        refine (parse_lit _ [] 1100 (by decide +kernel) (by decide +kernel) _).mono ?_
        rintro e w3 ⟨A3, c3, rfl, _, _, _, _, hb3⟩
        go_wp2_with fail
        refine (parse_lit _ [] 1100 (by decide +kernel) (by decide +kernel) _).mono ?_
        rintro e w4 ⟨A4, c4, rfl, _, _, _, _, hb4⟩
        go_wp2_with (go_at_call 17; refine (numv_any _ _).mono ?_; rintro e w' ⟨rfl, rfl⟩)
        go_ret
        exact ⟨rfl, Cv.next hb1 (Cv.next (Cv.next (Cv.next Hbel.out hb2) hb3) hb4)⟩
      · have hne : ts ≠ [] := by rintro rfl; have := Hlen.out; simp at this; omega
        have hp := parse_join ts hne Hall.out (by rw [Hu.out]; have := Hjl.out; omega)
        rw [Hu.out, Hlen.out] at hp
        have hps : parseL (u ++ [47]) = ([], 1100) := by rw [← Hu.out]; exact parse_trail ts hne Hall.out (by rw [Hu.out]; have := Hjl.out; omega)
        have hpd : parseL ([47] ++ u) = ([], 1100) := by rw [← Hu.out]; exact parse_double ts hne (by rw [Hu.out]; have := Hjl.out; omega)
        have hpos : 0 < n := by omega
        have q0 : ((n : Int) == 0) = false := by rw [beq_eq_false_iff_ne]; omega
        have Hp := Lib.hid hp
        have Hps := Lib.hid hps
        have Hpd := Lib.hid hpd
        clear hp hps hpd hne
        by_cases h4 : 4 < n
        · have q4 : decide ((n : Int) ≤ 4) = false := by simp; omega
          go_wp2_with fail
          refine (parse_lit _ [] 1102 (by rw [mk_size]; omega) (by rw [if_pos h4] at Hp; exact Hp.out) _).mono ?_
          rintro e w2 ⟨A2, c2, rfl, _, _, _, _, hb2⟩
          go_wp2_with fail
          refine (parse_lit _ [] 1100 (by simp [ByteArray.size_append, ByteArray.size] <;> omega) (by simpa using Hps.out) _).mono ?_
          rintro e w3 ⟨A3, c3, rfl, _, _, _, _, hb3⟩
          go_wp2_with fail
          refine (parse_lit _ [] 1100 (by simp [ByteArray.size_append, ByteArray.size] <;> omega) (by simpa using Hpd.out) _).mono ?_
          rintro e w4 ⟨A4, c4, rfl, _, _, _, _, hb4⟩
          go_wp2_with (go_at_call 17; refine (numv_any _ _).mono ?_; rintro e w' ⟨rfl, rfl⟩)
          go_ret
          exact ⟨rfl, Cv.next hb1 (Cv.next (Cv.next (Cv.next Hbel.out hb2) hb3) hb4)⟩
        · have q4 : decide ((n : Int) ≤ 4) = true := by simp; omega
          go_wp2_with fail
          refine (parse_lit _ ts 0 (by rw [mk_size]; omega) (by rw [if_neg h4] at Hp; exact Hp.out) _).mono ?_
          rintro e w2 ⟨A2, c2, rfl, _, _, _, _, hb2⟩
          rw [Hlen.out]
          go_wp2_with fail
          refine (parse_lit _ [] 1100 (by simp [ByteArray.size_append, ByteArray.size] <;> omega) (by simpa using Hps.out) _).mono ?_
          rintro e w3 ⟨A3, c3, rfl, _, _, _, _, hb3⟩
          go_wp2_with fail
          refine (parse_lit _ [] 1100 (by simp [ByteArray.size_append, ByteArray.size] <;> omega) (by simpa using Hpd.out) _).mono ?_
          rintro e w4 ⟨A4, c4, rfl, _, _, _, _, hb4⟩
          go_wp2_with (go_at_call 17; refine (numv_any _ _).mono ?_; rintro e w' ⟨rfl, rfl⟩)
          go_ret
          exact ⟨rfl, Cv.next hb1 (Cv.next (Cv.next (Cv.next Hbel.out hb2) hb3) hb4)⟩
end Go.Proofs.Ytihkjpfibogpdab
