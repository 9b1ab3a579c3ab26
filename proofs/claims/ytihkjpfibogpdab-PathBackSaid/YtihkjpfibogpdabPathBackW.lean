/- The walk of the law PathBack. -/
import Derived.Test.YtihkjpfibogpdabPathBelowsW
import Derived.Test.YtihkjpfibogpdabOpenTexts
namespace Go.Proofs.Ytihkjpfibogpdab
open Go.RowKit
set_option linter.unusedVariables false
set_option maxRecDepth 100000 in
set_option maxHeartbeats 4000000 in
theorem pathBack_walk0 (w : World) (A : Option Addr) (n c : Nat) (ts : List (List UInt8)) (ht : Texts w A n ts) (hl : ∀ t ∈ ts, t.length ≤ maxLen) (hn : n * 16 ≤ 140737488351232) (hc : A = none → c = 0) (s : ByteArray) (hs : s.size ≤ 140737488351232) :
    Calls Try.prog 9 #[.slice A n c, .string s] w fun e w' => e = .returned (.bool true) ∧ Below w.heap.size w w' := by
  have hs1 : s.size ≤ 140737488355328 := by omega
  obtain ⟨t, r, hr⟩ : ∃ p q, printL ts = (p, q) := ⟨_, _, rfl⟩
  obtain ⟨x, m, hp⟩ : ∃ p q, parseL s.data.toList = (p, q) := ⟨_, _, rfl⟩
  have lm := parseL_err s.data.toList
  have lx := parseL_len s.data.toList
  rw [hp] at lm lx
  simp only at lm lx
  have lr := printL_err ts
  rw [hr] at lr
  simp only at lr
  have htl := printL_len hr
  have hxl : ∀ t ∈ x, t.length ≤ maxLen := by
    intro t ht
    unfold maxLen
    have := names_small hp t ht
    omega
  have hse : (ByteArray.mk s.data.toList.toArray) = s := by cases s; simp
  have HT := Lib.hid ht
  have HL := Lib.hid hl
  have HR := Lib.hid hr
  have HP := Lib.hid hp
  have HX := Lib.hid hxl
  have HS := Lib.hid hse
  clear ht hl hr hp hxl hse
  go_enter Try.func9, Try.ntmps9
  go_wp2_with fail
  refine (awake11 _).mono ?_
  rintro e w1 ⟨rfl, hb1⟩
  have ht1 := HT.out.below hb1
  have HT1 := Lib.hid ht1
  clear ht1
  go_wp2_with fail
  refine (print_lit A n c ts t r _ HR.out HT1.out (by omega) HL.out).mono ?_
  rintro e w2 ⟨rfl, hb2⟩
  have ht2 := HT1.out.below hb2
  have HT2 := Lib.hid ht2
  have hb12 := Cv.next hb1 hb2
  have B2 := Lib.hid hb12
  clear ht2 hb12 hb1 hb2
  by_cases r0 : r = 0
  · subst r0
    obtain ⟨hps, ht64, hts4⟩ := print_parse ts t HR.out
    have HPS := Lib.hid hps
    have hlen : ts.length = n := HT.out.1
    have hn4 : n ≤ 4 := by omega
    have Hlen := Lib.hid hlen
    clear hps hlen
    go_wp2_with (go_at_call 17; refine (numv_any _ _).mono ?_; rintro e w' ⟨rfl, rfl⟩)
    refine (parse_lit _ ts 0 (by rw [mk_size]; omega) HPS.out _).mono ?_
    rintro e w3 ⟨A3, c3, rfl, _, ht3, _, _, hb3⟩
    have HT3 := Lib.hid ht3
    clear ht3
    rw [Hlen.out] at HT3
    rw [Hlen.out]
    go_wp2_with (go_at_call 17; refine (numv_any _ _).mono ?_; rintro e w' ⟨rfl, rfl⟩)
    refine (same_lit A3 A n n c3 c ts ts true _ (by simp) HT3.out (HT2.out.below hb3) (by omega) (by omega)).mono ?_
    rintro e w4 ⟨rfl, hb4⟩
    have hb24 := Cv.next (Cv.next B2.out hb3) hb4
    have B4 := Lib.hid hb24
    clear hb24 hb3 hb4
    go_wp2_with fail
    refine (parse_lit s x m hs1 HP.out _).mono ?_
    rintro e w5 ⟨A5, c5, rfl, _, ht5, _, _, hb5⟩
    have HT5 := Lib.hid ht5
    clear ht5
    by_cases m0 : m = 0
    · subst m0
      have hpp := parse_print _ _ HP.out
      have HPP := Lib.hid hpp
      clear hpp
      go_wp2_with (go_at_call 17; refine (numv_any _ _).mono ?_; rintro e w' ⟨rfl, rfl⟩)
      refine (print_lit A5 _ c5 x s.data.toList 0 _ HPP.out HT5.out (by omega) HX.out).mono ?_
      rintro e w6 ⟨rfl, hb6⟩
      go_wp2_with (go_at_call 17; refine (numv_any _ _).mono ?_; rintro e w' ⟨rfl, rfl⟩)
      go_ret
      exact ⟨rfl, Cv.next (Cv.next B4.out hb5) hb6⟩
    · have q5 : ((m : Int) != 0) = true := by rw [bne_iff_ne]; omega
      have hx0 := parse_names HP.out m0
      subst hx0
      go_wp2_with (go_at_call 17; refine (numv_any _ _).mono ?_; rintro e w' ⟨rfl, rfl⟩)
      go_ret
      exact ⟨rfl, Cv.next B4.out hb5⟩
  · have q0 : ((r : Int) == 0) = false := by rw [beq_eq_false_iff_ne]; omega
    go_wp2_with (go_at_call 17; refine (numv_any _ _).mono ?_; rintro e w' ⟨rfl, rfl⟩)
    refine (parse_lit s x m hs1 HP.out _).mono ?_
    rintro e w5 ⟨A5, c5, rfl, _, ht5, _, _, hb5⟩
    have HT5 := Lib.hid ht5
    clear ht5
    by_cases m0 : m = 0
    · subst m0
      have hpp := parse_print _ _ HP.out
      have HPP := Lib.hid hpp
      clear hpp
      go_wp2_with (go_at_call 17; refine (numv_any _ _).mono ?_; rintro e w' ⟨rfl, rfl⟩)
      refine (print_lit A5 _ c5 x s.data.toList 0 _ HPP.out HT5.out (by omega) HX.out).mono ?_
      rintro e w6 ⟨rfl, hb6⟩
      go_wp2_with (go_at_call 17; refine (numv_any _ _).mono ?_; rintro e w' ⟨rfl, rfl⟩)
      go_ret
      exact ⟨rfl, Cv.next (Cv.next B2.out hb5) hb6⟩
    · have q5 : ((m : Int) != 0) = true := by rw [bne_iff_ne]; omega
      have hx0 := parse_names HP.out m0
      subst hx0
      go_wp2_with (go_at_call 17; refine (numv_any _ _).mono ?_; rintro e w' ⟨rfl, rfl⟩)
      go_ret
      exact ⟨rfl, Cv.next B2.out hb5⟩
end Go.Proofs.Ytihkjpfibogpdab
