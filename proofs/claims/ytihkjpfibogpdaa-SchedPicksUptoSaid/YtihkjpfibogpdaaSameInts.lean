/- concourse/concourselaw0.SameInts, by its contract. -/
import Derived.Test.YtihkjpfibogpdaaPick
import Derived.Deep.QuietTactic
import Derived.BigQuiet
namespace Go.Proofs.Ytihkjpfibogpdaa
open Go.RowKit
set_option linter.unusedVariables false
theorem ints_ext {ts us : List Int} {n : Nat} (h1 : ts.length = n) (h2 : us.length = n) (h : ts.take n = us.take n) : ts = us := by
  rw [List.take_of_length_le (by omega), List.take_of_length_le (by omega)] at h; exact h
theorem ints_next {ts us : List Int} {k : Nat} (h1 : k < ts.length) (h2 : k < us.length) (h : ts.take k = us.take k) (e : ts[k] = us[k]) : ts.take (k + 1) = us.take (k + 1) := by
  rw [List.take_succ_eq_append_getElem h1, List.take_succ_eq_append_getElem h2, h, e]
theorem ints_at {w : World} {A : Option Addr} {n : Nat} {ts : List Int} (h : Reads w A n (ts.map (Value.int .i64))) (k : Nat) (hk : k < n) : ∃ (g off : Nat) (hl : k < ts.length), A = some ⟨g, off, .none⟩ ∧ g < w.heap.size ∧ w.cell? ⟨g, off + k, .none⟩ = some ((Value.int .i64) ts[k]) := by
  obtain ⟨g, off, h1, h2, h3⟩ := h.2 (by omega)
  have hl : k < ts.length := by have := h.1; simp at this; omega
  refine ⟨g, off, hl, h1, h2, (h3 k hk).trans ?_⟩
  rw [List.getElem?_map, List.getElem?_eq_getElem hl]
  rfl
set_option maxHeartbeats 1000000 in
theorem sameints_any (A B : Option Addr) (n m c d : Nat) (ts us : List Int) (w : World) (ha : Reads w A n (ts.map (Value.int .i64))) (hb : Reads w B m (us.map (Value.int .i64))) (hn : n ≤ 9223372036854775806) (hm : m ≤ 9223372036854775806) :
    Calls Try.prog 44 #[.slice A n c, .slice B m d] w fun e w' => e = .returned (.bool (decide (ts = us))) ∧ Below w.heap.size w w' := by
  obtain ⟨R, hR⟩ : ∃ R, decide (ts = us) = R := ⟨_, rfl⟩
  rw [hR]
  have hl1 : ts.length = n := by have := ha.1; simpa using this
  have hl2 : us.length = m := by have := hb.1; simpa using this
  have HR := Lib.hid hR
  have HA := Lib.hid ha
  have HB := Lib.hid hb
  have HL1 := Lib.hid hl1
  have HL2 := Lib.hid hl2
  clear hR ha hb hl1 hl2
  by_cases hnm : n = m
  · subst hnm
    go_enter Try.func44, Try.ntmps44
    go_wp2_with fail
    go_loopw [5] (fun i wr => ∃ (k q : Nat), k ≤ n ∧ i = .int .i64 k ∧ wr = w.drewN q ∧ ts.take k = us.take k) (fun i _ => n - (intOf i).toNat)
    case atStart => exact ⟨0, 0, by omega, rfl, rfl, rfl⟩
    case round =>
      obtain ⟨k, q, hk, rfl, rfl, htk⟩ := hrel
      have Htk := Lib.hid htk
      clear htk
      by_cases hlt : k < n
      · obtain ⟨g1, o1, hl1, rfl, hg1, c1⟩ := ints_at HA.out k hlt
        obtain ⟨g2, o2, hl2, rfl, hg2, c2⟩ := ints_at HB.out k hlt
        obtain ⟨a, ea⟩ : ∃ a, ts[k] = a := ⟨_, rfl⟩
        obtain ⟨b, eb⟩ : ∃ b, us[k] = b := ⟨_, rfl⟩
        rw [ea] at c1
        rw [eb] at c2
        have hkn : (k : Int) < (n : Int) := by omega
        have hk0 : (0 : Int) ≤ (k : Int) := by omega
        have Ea := Lib.hid ea
        have Eb := Lib.hid eb
        clear ea eb
        by_cases hab : a = b
        · subst hab
          go_wp2_with fail
          go_quiet (fail)
          go_wp2_with fail
          go_roundw
          case rel => exact ⟨k + 1, _, by omega, by go_num, rfl, ints_next hl1 hl2 Htk.out (by rw [Ea.out, Eb.out])⟩
          case measure => simp [intOf]; omega
        · have qab : (a == b) = false := by rw [beq_eq_false_iff_ne]; exact hab
          have qab2 : (a != b) = true := by rw [bne_iff_ne]; exact hab
          go_wp2_with fail
          go_quiet (fail)
          go_wp2_with fail
          go_ret
          refine ⟨Cv.ret_bool ?_, Cv.drewN_below (Cv.drewN_below (Below.refl _ _) _) _⟩
          rw [← HR.out]
          symm
          rw [decide_eq_false_iff_not]
          intro e
          subst e
          exact hab (by rw [← Ea.out, ← Eb.out])
      · obtain rfl : k = n := by omega
        go_wp2_with fail
        go_ret
        refine ⟨Cv.ret_bool ?_, Cv.drewN_below (Below.refl _ _) _⟩
        rw [← HR.out]
        symm
        rw [decide_eq_true_iff]
        exact ints_ext HL1.out HL2.out Htk.out
  · have hne : ts ≠ us := by
      intro e
      have h1 := HL1.out
      have h2 := HL2.out
      rw [e] at h1
      omega
    have Hne := Lib.hid hne
    have q1 : ((n : Int) != (m : Int)) = true := by rw [bne_iff_ne]; omega
    clear hne hnm
    go_enter Try.func44, Try.ntmps44
    go_wp2_with fail
    go_ret
    refine ⟨Cv.ret_bool ?_, Below.refl _ _⟩
    rw [← HR.out]
    symm
    rw [decide_eq_false_iff_not]
    exact Hne.out
end Go.Proofs.Ytihkjpfibogpdaa
