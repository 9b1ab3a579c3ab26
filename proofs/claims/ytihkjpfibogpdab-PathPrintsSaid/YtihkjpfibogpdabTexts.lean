/- Lists of texts that are read: SameTexts, slices.Equal, each by its contract. -/
import Derived.Test.YtihkjpfibogpdabParseAny
import Derived.Deep.QuietTactic
import Derived.BigQuiet
namespace Go.Proofs.Ytihkjpfibogpdab
open Go.RowKit
set_option linter.unusedVariables false
/-- A slice (its address, its length) that reads as a list of texts. -/
def Texts (w : World) (A : Option Addr) (n : Nat) (ts : List (List UInt8)) : Prop :=
  ts.length = n ∧ (0 < n → ∃ g off, A = some ⟨g, off, none⟩ ∧ g < w.heap.size ∧ ∀ j, j < n → w.cell? ⟨g, off + j, none⟩ = some (strV (ts.getD j [])))
theorem Texts.below {w w' : World} {A : Option Addr} {n : Nat} {ts : List (List UInt8)} (h : Texts w A n ts) (hb : Below w.heap.size w w') : Texts w' A n ts :=
  ⟨h.1, fun hn => by
    obtain ⟨g, off, hA, hg, hc⟩ := h.2 hn
    exact ⟨g, off, hA, Nat.lt_of_lt_of_le hg hb.size, fun j hj => (hb.cell (p := ⟨g, off + j, none⟩) hg).trans (hc j hj)⟩⟩
theorem Texts.drewN {w : World} {A : Option Addr} {n : Nat} {ts : List (List UInt8)} (h : Texts w A n ts) (q : Nat) : Texts (w.drewN q) A n ts := h
theorem Texts.take {w : World} {A : Option Addr} {n : Nat} {ts : List (List UInt8)} (h : Texts w A n ts) {m : Nat} (hm : m ≤ n) : Texts w A m (ts.take m) :=
  ⟨by rw [List.length_take, h.1]; omega, fun hn => by
    obtain ⟨g, off, hA, hg, hc⟩ := h.2 (by omega)
    refine ⟨g, off, hA, hg, fun j hj => ?_⟩
    rw [hc j (by omega)]
    simp [List.getD_eq_getElem?_getD, List.getElem?_take, hj]⟩
theorem Texts.of_names {B : Nat} {w : World} {A : Option Addr} {c : Nat} {out : List (List UInt8)} (h : Names B w (.slice A out.length c) out) : Texts w A out.length out := by
  refine ⟨rfl, fun hn => ?_⟩
  rcases h.2 with ⟨hv, h0⟩ | ⟨g, cap, cur, hv, hg, hh, hnc, hcm, hcs, htk⟩
  · omega
  · have hA : A = some ⟨g, 0, none⟩ := by injection hv
    subst hA
    have hlt : g < w.heap.size := by
      rcases Nat.lt_or_ge g w.heap.size with h | h
      · exact h
      · rw [Array.getElem?_eq_none h] at hh; cases hh
    refine ⟨g, 0, rfl, hlt, fun j hj => ?_⟩
    rw [cell_of_row w g (0 + j) cur 9 (0, 0) hh]
    have hj2 : cur.toList[j]? = (out.map strV)[j]? := by
      rw [← htk, List.getElem?_take, if_pos (by omega)]
    rw [Nat.zero_add, ← Array.getElem?_toList, hj2]
    simp [hj]
theorem beq_texts (ts us : List (List UInt8)) : (ts == us) = decide (ts = us) := by
  rw [Bool.eq_iff_iff]; simp
theorem texts_ext {ts us : List (List UInt8)} {n : Nat} (h1 : ts.length = n) (h2 : us.length = n) (h : ts.take n = us.take n) : ts = us := by
  rw [List.take_of_length_le (by omega), List.take_of_length_le (by omega)] at h; exact h
theorem take_next {ts us : List (List UInt8)} {k : Nat} (h1 : k < ts.length) (h2 : k < us.length) (h : ts.take k = us.take k) (e : ts.getD k [] = us.getD k []) : ts.take (k + 1) = us.take (k + 1) := by
  rw [List.take_succ_eq_append_getElem h1, List.take_succ_eq_append_getElem h2, h]
  have e1 : ts.getD k [] = ts[k] := by simp [h1]
  have e2 : us.getD k [] = us[k] := by simp [h2]
  rw [e1, e2] at e
  rw [e]
set_option maxHeartbeats 1000000 in
theorem same_any (A B : Option Addr) (n m c d : Nat) (ts us : List (List UInt8)) (w : World) (ha : Texts w A n ts) (hb : Texts w B m us) (hn : n ≤ 9223372036854775806) (hm : m ≤ 9223372036854775806) :
    Calls Try.prog 20 #[.slice A n c, .slice B m d] w fun e w' => e = .returned (.bool (ts == us)) ∧ Below w.heap.size w w' := by
  obtain ⟨R, hR⟩ : ∃ R, (ts == us) = R := ⟨_, rfl⟩
  rw [hR]
  rw [beq_texts] at hR
  have HR := Lib.hid hR
  have HA := Lib.hid ha
  have HB := Lib.hid hb
  clear hR ha hb
  by_cases hnm : n = m
  · subst hnm
    go_enter Try.func20, Try.ntmps20
    go_wp2_with fail
    go_loopw [5] (fun i wr => ∃ (k q : Nat), k ≤ n ∧ i = .int .i64 k ∧ wr = w.drewN q ∧ ts.take k = us.take k) (fun i _ => n - (intOf i).toNat)
    case atStart => exact ⟨0, 0, by omega, rfl, rfl, rfl⟩
    case round =>
      obtain ⟨k, q, hk, rfl, rfl, htk⟩ := hrel
      have Htk := Lib.hid htk
      clear htk
      by_cases hlt : k < n
      · obtain ⟨g1, o1, rfl, hg1, hc1⟩ := HA.out.2 (by omega)
        obtain ⟨g2, o2, rfl, hg2, hc2⟩ := HB.out.2 (by omega)
        have c1 := hc1 k hlt
        have c2 := hc2 k hlt
        obtain ⟨a, ea⟩ : ∃ a, ts.getD k [] = a := ⟨_, rfl⟩
        obtain ⟨b, eb⟩ : ∃ b, us.getD k [] = b := ⟨_, rfl⟩
        rw [ea] at c1
        rw [eb] at c2
        unfold strV at c1 c2
        have hkn : (k : Int) < (n : Int) := by omega
        have hk0 : (0 : Int) ≤ (k : Int) := by omega
        have Ea := Lib.hid ea
        have Eb := Lib.hid eb
        clear hc1 hc2 ea eb
        by_cases hab : a = b
        · subst hab
          go_wp2_with fail
          go_quiet (fail)
          go_wp2_with fail
          go_roundw
          case rel => exact ⟨k + 1, _, by omega, by go_num, rfl, take_next (by have := HA.out.1; omega) (by have := HB.out.1; omega) Htk.out (by rw [Ea.out, Eb.out])⟩
          case measure => simp [intOf]; omega
        · have qab : (a == b) = false := by rw [beq_eq_false_iff_ne]; exact hab
          go_wp2_with fail
          go_quiet (fail)
          go_wp2_with fail
          go_ret
          refine ⟨Cv.ret_bool ?_, Cv.drewN_below (Cv.drewN_below (Below.refl _ _) _) _⟩
          rw [← HR.out]
          symm
          rw [decide_eq_false_iff_not]
          intro e
          subst e
          exact hab (by rw [← Ea.out, ← Eb.out])
      · obtain rfl : k = n := by omega
        go_wp2_with fail
        go_ret
        refine ⟨Cv.ret_bool ?_, Cv.drewN_below (Below.refl _ _) _⟩
        rw [← HR.out]
        symm
        rw [decide_eq_true_iff]
        exact texts_ext HA.out.1 HB.out.1 Htk.out
  · have hne : ts ≠ us := by
      intro e
      have h1 := HA.out.1
      have h2 := HB.out.1
      rw [e] at h1
      omega
    have Hne := Lib.hid hne
    have q1 : ((n : Int) != (m : Int)) = true := by rw [bne_iff_ne]; omega
    clear hne hnm
    go_enter Try.func20, Try.ntmps20
    go_wp2_with fail
    go_ret
    refine ⟨Cv.ret_bool ?_, Below.refl _ _⟩
    rw [← HR.out]
    symm
    rw [decide_eq_false_iff_not]
    exact Hne.out
set_option maxHeartbeats 1000000 in
theorem equal_any (A B : Option Addr) (n m c d : Nat) (ts us : List (List UInt8)) (w : World) (ha : Texts w A n ts) (hb : Texts w B m us) (hn : n ≤ 9223372036854775806) (hm : m ≤ 9223372036854775806) :
    Calls Try.prog 34 #[.slice A n c, .slice B m d] w fun e w' => e = .returned (.bool (ts == us)) ∧ Below w.heap.size w w' := by
  obtain ⟨R, hR⟩ : ∃ R, (ts == us) = R := ⟨_, rfl⟩
  rw [hR]
  rw [beq_texts] at hR
  have HR := Lib.hid hR
  have HA := Lib.hid ha
  have HB := Lib.hid hb
  clear hR ha hb
  by_cases hnm : n = m
  · subst hnm
    go_enter Try.func34, Try.ntmps34
    go_wp2_with fail
    go_loopw [5, 13] (fun _ i wr => ∃ (k q : Nat), k ≤ n ∧ i = .int .i64 k ∧ wr = w.drewN q ∧ ts.take k = us.take k) (fun _ i _ => n - (intOf i).toNat)
    case atStart => exact ⟨0, 0, by omega, rfl, rfl, rfl⟩
    case round =>
      obtain ⟨k, q, hk, rfl, rfl, htk⟩ := hrel
      have Htk := Lib.hid htk
      clear htk
      by_cases hlt : k < n
      · obtain ⟨g1, o1, rfl, hg1, hc1⟩ := HA.out.2 (by omega)
        obtain ⟨g2, o2, rfl, hg2, hc2⟩ := HB.out.2 (by omega)
        have c1 := hc1 k hlt
        have c2 := hc2 k hlt
        obtain ⟨a, ea⟩ : ∃ a, ts.getD k [] = a := ⟨_, rfl⟩
        obtain ⟨b, eb⟩ : ∃ b, us.getD k [] = b := ⟨_, rfl⟩
        rw [ea] at c1
        rw [eb] at c2
        unfold strV at c1 c2
        have hkn : (k : Int) < (n : Int) := by omega
        have hk0 : (0 : Int) ≤ (k : Int) := by omega
        have Ea := Lib.hid ea
        have Eb := Lib.hid eb
        clear hc1 hc2 ea eb
        by_cases hab : a = b
        · subst hab
          go_wp2_with fail
          go_quiet (fail)
          go_wp2_with fail
          go_roundw
          case rel => exact ⟨k + 1, _, by omega, by go_num, rfl, take_next (by have := HA.out.1; omega) (by have := HB.out.1; omega) Htk.out (by rw [Ea.out, Eb.out])⟩
          case measure => simp [intOf]; omega
        · have qab : (a == b) = false := by rw [beq_eq_false_iff_ne]; exact hab
          go_wp2_with fail
          go_quiet (fail)
          go_wp2_with fail
          go_ret
          refine ⟨Cv.ret_bool ?_, Cv.drewN_below (Cv.drewN_below (Below.refl _ _) _) _⟩
          rw [← HR.out]
          symm
          rw [decide_eq_false_iff_not]
          intro e
          subst e
          exact hab (by rw [← Ea.out, ← Eb.out])
      · obtain rfl : k = n := by omega
        go_wp2_with fail
        go_ret
        refine ⟨Cv.ret_bool ?_, Cv.drewN_below (Below.refl _ _) _⟩
        rw [← HR.out]
        symm
        rw [decide_eq_true_iff]
        exact texts_ext HA.out.1 HB.out.1 Htk.out
  · have hne : ts ≠ us := by
      intro e
      have h1 := HA.out.1
      have h2 := HB.out.1
      rw [e] at h1
      omega
    have Hne := Lib.hid hne
    have q1 : ((n : Int) != (m : Int)) = true := by rw [bne_iff_ne]; omega
    clear hne hnm
    go_enter Try.func34, Try.ntmps34
    go_wp2_with fail
    go_ret
    refine ⟨Cv.ret_bool ?_, Below.refl _ _⟩
    rw [← HR.out]
    symm
    rw [decide_eq_false_iff_not]
    exact Hne.out
end Go.Proofs.Ytihkjpfibogpdab
