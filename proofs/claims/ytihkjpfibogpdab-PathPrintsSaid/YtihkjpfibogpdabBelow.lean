/- path.Below and the reference's, each by its contract. -/
import Derived.Test.YtihkjpfibogpdabTexts
namespace Go.Proofs.Ytihkjpfibogpdab
open Go.RowKit
set_option linter.unusedVariables false
theorem names_cap {B : Nat} {w' : World} {v : Value} {out : List (List UInt8)} (h : Names B w' v out) : ∃ A c, v = .slice A out.length c ∧ out.length ≤ c := by
  rcases h.2 with ⟨rfl, hx⟩ | ⟨g, cap, cur, rfl, _, _, hc, _⟩
  · have : out = [] := by simpa using hx
    subst this
    exact ⟨_, _, rfl, Nat.le_refl _⟩
  · exact ⟨_, _, rfl, hc⟩
/-- Does a path lead through another one? -/
def belowL (a b : List UInt8) : Bool := (parseL a).2 == 0 && (parseL b).2 == 0 && decide ((parseL a).1.length < (parseL b).1.length) && (parseL a).1 == (parseL b).1.take (parseL a).1.length
theorem scanP_len : ∀ (r cur : List UInt8) (out : List (List UInt8)), (scanP r cur out).1.length ≤ 4
  | [], _, out => by unfold scanP; split <;> simp <;> omega
  | b :: r, cur, out => by
    unfold scanP
    split
    · split
      · exact scanP_len r _ _
      · split <;> simp
    · exact scanP_len r _ _
theorem scanP_err : ∀ (r cur : List UInt8) (out : List (List UInt8)), (scanP r cur out).2 ≤ 1102
  | [], _, out => by unfold scanP; split <;> simp
  | b :: r, cur, out => by
    unfold scanP
    split
    · split
      · exact scanP_err r _ _
      · split <;> simp
    · exact scanP_err r _ _
theorem parseL_err (l : List UInt8) : (parseL l).2 ≤ 1102 := by
  unfold parseL
  split
  · simp
  · split
    · simp
    · split
      · simp
      · exact scanP_err _ _ _
theorem parseL_len (l : List UInt8) : (parseL l).1.length ≤ 4 := by
  unfold parseL
  split
  · simp
  · split
    · simp
    · split
      · simp
      · exact scanP_len _ _ _
set_option maxHeartbeats 1000000 in
theorem below_any (a b : ByteArray) (w : World) (ha : a.size ≤ 140737488355328) (hb : b.size ≤ 140737488355328) :
    Calls Try.prog 26 #[.string a, .string b] w fun e w' => e = .returned (.bool (belowL a.data.toList b.data.toList)) ∧ Below w.heap.size w w' := by
  obtain ⟨R, hR⟩ : ∃ R, belowL a.data.toList b.data.toList = R := ⟨_, rfl⟩
  rw [hR]
  unfold belowL at hR
  have l1 := parseL_len a.data.toList
  have l2 := parseL_len b.data.toList
  have HR := Lib.hid hR
  clear hR
  go_enter Try.func26, Try.ntmps26
  go_wp2_with fail
  refine (parse_any a _ ha).mono ?_
  rintro e w1 ⟨v, x, n, rfl, hp1, hx, _, hb1⟩
  go_wp2_with fail
  refine (parse_any b _ hb).mono ?_
  rintro e w2 ⟨u, y, m, rfl, hp2, hy, _, hb2⟩
  obtain ⟨A, c, rfl, hc⟩ := names_cap hx
  obtain ⟨B, d, rfl, hd⟩ := names_cap hy
  have tx := (Texts.of_names hx).below hb2
  have ty := Texts.of_names hy
  have hbb := Cv.next hb1 hb2
  have hr := HR.out
  rw [hp1, hp2] at hr
  rw [hp1] at l1
  rw [hp2] at l2
  simp only at hr l1 l2
  have HX := Lib.hid tx
  have HY := Lib.hid ty
  have HBB := Lib.hid hbb
  have Hr := Lib.hid hr
  clear hp1 hp2 hx hy hb1 hb2 tx ty hbb hr HR
  by_cases e0 : n = 0
  · subst e0
    by_cases f0 : m = 0
    · subst f0
      by_cases hlt : x.length < y.length
      · go_wp2_with fail
        refine (equal_any A B x.length x.length c d x (y.take x.length) _ HX.out (HY.out.take (by omega)) (by omega) (by omega)).mono ?_
        rintro e w3 ⟨rfl, hb3⟩
        go_wp2_with fail
        go_ret
        refine ⟨Cv.ret_bool ?_, Cv.next HBB.out hb3⟩
        rw [← Hr.out]
        simp [hlt]
      · go_wp2_with fail
        go_ret
        refine ⟨Cv.ret_bool ?_, HBB.out⟩
        rw [← Hr.out]
        simp [hlt]
    · have q0 : ((m : Int) == 0) = false := by rw [beq_eq_false_iff_ne]; omega
      go_wp2_with fail
      go_ret
      refine ⟨Cv.ret_bool ?_, HBB.out⟩
      rw [← Hr.out]
      simp [f0]
  · have q0 : ((n : Int) == 0) = false := by rw [beq_eq_false_iff_ne]; omega
    go_wp2_with fail
    go_ret
    refine ⟨Cv.ret_bool ?_, HBB.out⟩
    rw [← Hr.out]
    simp [e0]
set_option maxHeartbeats 1000000 in
theorem refbelow_any (a b : ByteArray) (w : World) (ha : a.size ≤ 140737488355328) (hb : b.size ≤ 140737488355328) :
    Calls Try.prog 27 #[.string a, .string b] w fun e w' => e = .returned (.bool (belowL a.data.toList b.data.toList)) ∧ Below w.heap.size w w' := by
  obtain ⟨R, hR⟩ : ∃ R, belowL a.data.toList b.data.toList = R := ⟨_, rfl⟩
  rw [hR]
  unfold belowL at hR
  have l1 := parseL_len a.data.toList
  have l2 := parseL_len b.data.toList
  have HR := Lib.hid hR
  clear hR
  go_enter Try.func27, Try.ntmps27
  go_wp2_with fail
  refine (refparse_any a _ ha).mono ?_
  rintro e w1 ⟨v, x, n, rfl, hp1, hx, _, hb1⟩
  go_wp2_with fail
  refine (refparse_any b _ hb).mono ?_
  rintro e w2 ⟨u, y, m, rfl, hp2, hy, _, hb2⟩
  obtain ⟨A, c, rfl, hc⟩ := names_cap hx
  obtain ⟨B, d, rfl, hd⟩ := names_cap hy
  have tx := (Texts.of_names hx).below hb2
  have ty := Texts.of_names hy
  have hbb := Cv.next hb1 hb2
  have hr := HR.out
  rw [hp1, hp2] at hr
  rw [hp1] at l1
  rw [hp2] at l2
  simp only at hr l1 l2
  have HX := Lib.hid tx
  have HY := Lib.hid ty
  have HBB := Lib.hid hbb
  have Hr := Lib.hid hr
  clear hp1 hp2 hx hy hb1 hb2 tx ty hbb hr HR
  by_cases e0 : n = 0
  · subst e0
    by_cases f0 : m = 0
    · subst f0
      by_cases hlt : x.length < y.length
      · go_wp2_with fail
        go_loopw [9] (fun i wr => ∃ (k q : Nat), k ≤ x.length ∧ i = .int .i64 k ∧ wr = w2.drewN q ∧ x.take k = y.take k) (fun i _ => x.length - (intOf i).toNat)
        case atStart => exact ⟨0, 0, by omega, rfl, rfl, rfl⟩
        case round =>
          obtain ⟨k, q, hk, rfl, rfl, htk⟩ := hrel
          have Htk := Lib.hid htk
          clear htk
          by_cases hlk : k < x.length
          · obtain ⟨g1, o1, rfl, hg1, hc1⟩ := HX.out.2 (by omega)
            obtain ⟨g2, o2, rfl, hg2, hc2⟩ := HY.out.2 (by omega)
            have c1 := hc1 k hlk
            have c2 := hc2 k (by omega)
            obtain ⟨s, ea⟩ : ∃ a, x.getD k [] = a := ⟨_, rfl⟩
            obtain ⟨t, eb⟩ : ∃ b, y.getD k [] = b := ⟨_, rfl⟩
            rw [ea] at c1
            rw [eb] at c2
            unfold strV at c1 c2
            have hkn : (k : Int) < (x.length : Int) := by omega
            have hkm : (k : Int) < (y.length : Int) := by omega
            have hk0 : (0 : Int) ≤ (k : Int) := by omega
            have Ea := Lib.hid ea
            have Eb := Lib.hid eb
            clear hc1 hc2 ea eb
            by_cases hab : s = t
            · subst hab
              go_wp2_with fail
              go_quiet (fail)
              go_wp2_with fail
              go_roundw
              case rel => exact ⟨k + 1, _, by omega, by go_num, rfl, take_next hlk (by omega) Htk.out (by rw [Ea.out, Eb.out])⟩
              case measure => simp [intOf]; omega
            · have qab : (s == t) = false := by rw [beq_eq_false_iff_ne]; exact hab
              go_wp2_with fail
              go_quiet (fail)
              go_wp2_with fail
              go_ret
              refine ⟨Cv.ret_bool ?_, Cv.drewN_below (Cv.drewN_below HBB.out _) _⟩
              rw [← Hr.out]
              have hx : ¬ x = y.take x.length := by
                intro e
                apply hab
                rw [← Ea.out, ← Eb.out, e]
                simp [List.getD_eq_getElem?_getD, List.getElem?_take, hlk]
              simp [hx]
          · obtain rfl : k = x.length := by omega
            go_wp2_with fail
            go_ret
            refine ⟨Cv.ret_bool ?_, Cv.drewN_below HBB.out _⟩
            rw [← Hr.out]
            have hx : x = y.take x.length := by rw [← Htk.out, List.take_length]
            simp [hlt]
            exact hx
      · go_wp2_with fail
        go_ret
        refine ⟨Cv.ret_bool ?_, HBB.out⟩
        rw [← Hr.out]
        simp [hlt]
    · have q0 : ((m : Int) != 0) = true := by rw [bne_iff_ne]; omega
      go_wp2_with fail
      go_ret
      refine ⟨Cv.ret_bool ?_, HBB.out⟩
      rw [← Hr.out]
      simp [f0]
  · have q0 : ((n : Int) != 0) = true := by rw [bne_iff_ne]; omega
    go_wp2_with fail
    go_ret
    refine ⟨Cv.ret_bool ?_, HBB.out⟩
    rw [← Hr.out]
    simp [e0]
end Go.Proofs.Ytihkjpfibogpdab
