/- The walk of the law PathBelows. -/
import Derived.Test.YtihkjpfibogpdabAwake11
import Derived.Test.YtihkjpfibogpdabAppendTexts
import Derived.Test.YtihkjpfibogpdabPlainPath3
namespace Go.Proofs.Ytihkjpfibogpdab
open Go.RowKit
set_option linter.unusedVariables false
theorem names_small {ts : List (List UInt8)} {l : List UInt8} {n : Nat} (h : parseL l = (ts, n)) : ∀ t ∈ ts, t.length ≤ 12 := by
  by_cases hn : n = 0
  · subst hn
    have hp := parse_print l ts h
    unfold printL at hp
    split at hp
    · cases hp
    · rename_i ha
      intro t ht
      have ha' : ts.all mayL = true := by simpa using ha
      exact mayL_len (List.all_eq_true.1 ha' t ht)
  · have := parse_names h hn
    subst this
    intro t ht
    cases ht
theorem printL_len {ts : List (List UInt8)} {s : List UInt8} {n : Nat} (h : printL ts = (s, n)) : s.length ≤ 64 := by
  unfold printL at h
  split at h
  · injection h with h1 _; subst h1; simp
  · split at h
    · injection h with h1 _; subst h1; simp
    · split at h
      · injection h with h1 _; subst h1; simp
      · split at h
        · injection h with h1 _; subst h1; simp
        · injection h with h1 _; subst h1; omega
theorem printL_err (ts : List (List UInt8)) : (printL ts).2 ≤ 1102 := by
  unfold printL
  split
  · simp
  · split
    · simp
    · split
      · simp
      · split <;> simp
set_option maxRecDepth 100000 in
set_option maxHeartbeats 4000000 in
theorem pathBelows_walk (a : ByteArray) (ha : a.size ≤ 140737488351232) (b : ByteArray) (hb : b.size ≤ 140737488351232) (w : World) :
    Calls Try.prog 12 #[.string a, .string b] w fun e w' => e = .returned (.bool true) ∧ Below w.heap.size w w' := by
  have ha1 : a.size ≤ 140737488355328 := by omega
  have hb1 : b.size ≤ 140737488355328 := by omega
  obtain ⟨x, n, hp⟩ : ∃ x n, parseL a.data.toList = (x, n) := ⟨_, _, rfl⟩
  obtain ⟨y, m, hq⟩ : ∃ x n, parseL b.data.toList = (x, n) := ⟨_, _, rfl⟩
  obtain ⟨s, r, hr⟩ : ∃ p q, printL (x ++ y) = (p, q) := ⟨_, _, rfl⟩
  have ln := parseL_err a.data.toList
  have lm := parseL_err b.data.toList
  have lx := parseL_len a.data.toList
  have ly := parseL_len b.data.toList
  rw [hp] at ln lx
  rw [hq] at lm ly
  simp only at ln lm lx ly
  have hsl := printL_len hr
  have hsm : ∀ t ∈ x ++ y, t.length ≤ maxLen := by
    intro t ht
    unfold maxLen
    rcases List.mem_append.1 ht with h | h
    · have := names_small hp t h; omega
    · have := names_small hq t h; omega
  have HP := Lib.hid hp
  have HQ := Lib.hid hq
  have HR := Lib.hid hr
  have HS := Lib.hid hsm
  clear hp hq hr hsm
  go_enter Try.func12, Try.ntmps12
  go_wp2_with fail
  refine (awake11 _).mono ?_
  rintro e w1 ⟨rfl, hb1'⟩
  go_wp2_with fail
  refine (parse_lit a x n ha1 HP.out _).mono ?_
  rintro e w2 ⟨A, c, rfl, hc, htx, hnx, _, hb2⟩
  go_wp2_with fail
  refine (parse_lit b y m hb1 HQ.out _).mono ?_
  rintro e w3 ⟨B, d, rfl, hd, hty, hny, _, hb3⟩
  have hcA : A = none → c = 0 := fun e => by
    rcases hnx.2 with ⟨hv, _⟩ | ⟨g, cap, cur, hv, _⟩
    · injection hv with _ _ h3
    · rw [e] at hv; cases hv
  have hcB : B = none → d = 0 := fun e => by
    rcases hny.2 with ⟨hv, _⟩ | ⟨g, cap, cur, hv, _⟩
    · injection hv with _ _ h3
    · rw [e] at hv; cases hv
  have htx' := htx.below hb3
  have TX := Lib.hid htx'
  have TY := Lib.hid hty
  have CA := Lib.hid hcA
  have CB := Lib.hid hcB
  have hbb := Cv.next (Cv.next hb1' hb2) hb3
  have BB := Lib.hid hbb
  clear htx htx' hty hnx hny hcA hcB hb1' hb2 hb3 hbb
  have hmade := names_made w3
  have hal : Below w3.heap.size w3 (w3.alloc (.cells #[] 9)) := (Below.refl _ _).alloc (Nat.le_refl _) _
  go_wp2_with (first
    | (at_builtin; refine wpList_append_texts rfl (.tmp 24) (.tmp 25) rfl w3.heap.size _ [] rfl hmade A x.length c x rfl (TX.out.below hal) CA.out (by simp; omega) hal.size ?_; intro v1 W1 hn1 hg1 hs1)
    | (at_builtin; refine wpList_append_texts rfl (.tmp 26) (.tmp 27) rfl w3.heap.size v1 ([] ++ x) rfl hn1 B y.length d y rfl (TY.out.below (hal.trans hg1)) CB.out (by simp; omega) (Nat.le_trans hal.size hg1.size) ?_; intro v2 W2 hn2 hg2 hs2))
  obtain ⟨A2, c2, rfl⟩ := names_shape hn2
  have htt := Texts.of_names hn2
  have hlen : ([] ++ x ++ y).length = (x ++ y).length := by simp
  rw [hlen]
  simp only [List.nil_append] at htt
  have hb4 : Below w3.heap.size w3 W2 := (hal.trans hg1).trans hg2
  have TT := Lib.hid htt
  have B4 := Lib.hid hb4
  have hl8 : (x ++ y).length ≤ 8 := by simp; omega
  clear htt hb4 hn1 hn2 hg1 hg2 hs1 hs2 hmade hal hlen
  refine (print_lit A2 _ c2 (x ++ y) s r _ HR.out TT.out (by omega) HS.out).mono ?_
  rintro e w5 ⟨rfl, hb5⟩
  have hbb := Cv.next BB.out (Cv.next B4.out hb5)
  have B5 := Lib.hid hbb
  clear hbb hb5
  by_cases e0 : n = 0
  · by_cases f0 : m = 0
    · by_cases g0 : r = 0
      · subst e0 f0 g0
        have hps := (print_parse _ _ HR.out).1
        have b1 : belowL a.data.toList s = decide (0 < y.length) := by
          unfold belowL
          rw [HP.out, hps]
          by_cases hy : 0 < y.length
          · simp [hy]
          · have : y = [] := List.eq_nil_of_length_eq_zero (by omega)
            subst this
            simp
        have b2 : belowL a.data.toList a.data.toList = false := by
          unfold belowL
          simp
        have b3 : belowL [47] a.data.toList = decide (0 < x.length) := by
          unfold belowL
          rw [HP.out, show parseL [47] = ([], 0) from by decide +kernel]
          by_cases hx : 0 < x.length <;> simp [hx]
        have b4 : (belowL a.data.toList b.data.toList && belowL b.data.toList a.data.toList) = false := by
          unfold belowL
          rw [HP.out, HQ.out]
          rcases Nat.lt_or_ge x.length y.length with h | h
          · simp [show ¬ y.length < x.length by omega]
          · simp [show ¬ x.length < y.length by omega]
        obtain ⟨r5, h5⟩ : ∃ v, belowL a.data.toList b.data.toList = v := ⟨_, rfl⟩
        obtain ⟨r6, h6⟩ : ∃ v, belowL b.data.toList a.data.toList = v := ⟨_, rfl⟩
        rw [h5, h6] at b4
        have P1 := Lib.hid b1
        have P2 := Lib.hid b2
        have P3 := Lib.hid b3
        have P4 := Lib.hid b4
        have P5 := Lib.hid h5
        have P6 := Lib.hid h6
        clear b1 b2 b3 b4 h5 h6 hps
        go_wp2_with (go_at_call 17; refine (numv_any _ _).mono ?_; rintro e w' ⟨rfl, rfl⟩)
        refine (below_lit a _ _ _ ha1 (by rw [mk_size]; omega) P1.out).mono ?_
        rintro e w6 ⟨rfl, hb6⟩
        have q1 : (decide (0 < y.length) == decide ((0 : Int) < (y.length : Int))) = true := by simp
        go_wp2_with fail
        refine (below_lit a a _ _ ha1 ha1 P2.out).mono ?_
        rintro e w7 ⟨rfl, hb7⟩
        go_wp2_with fail
        refine (below_lit _ a _ _ (by decide +kernel) ha1 P3.out).mono ?_
        rintro e w8 ⟨rfl, hb8⟩
        go_wp2_with fail
        refine (below_lit a b _ _ ha1 hb1 P5.out).mono ?_
        rintro e w9 ⟨rfl, hb9⟩
        cases r5 with
        | false =>
          go_wp2_with fail
          go_ret
          exact ⟨rfl, Cv.next (Cv.next (Cv.next (Cv.next B5.out hb6) hb7) hb8) hb9⟩
        | true =>
          have h6 : r6 = false := by simpa using P4.out
          subst h6
          go_wp2_with fail
          refine (below_lit b a _ _ hb1 ha1 P6.out).mono ?_
          rintro e w10 ⟨rfl, hb10⟩
          go_wp2_with fail
          go_ret
          exact ⟨rfl, Cv.next (Cv.next (Cv.next (Cv.next (Cv.next B5.out hb6) hb7) hb8) hb9) hb10⟩
      · have q0 : ((r : Int) != 0) = true := by rw [bne_iff_ne]; omega
        subst e0 f0
        go_wp2_with (go_at_call 17; refine (numv_any _ _).mono ?_; rintro e w' ⟨rfl, rfl⟩)
        go_ret
        exact ⟨rfl, B5.out⟩
    · have q0 : ((m : Int) != 0) = true := by rw [bne_iff_ne]; omega
      subst e0
      go_wp2_with (go_at_call 17; refine (numv_any _ _).mono ?_; rintro e w' ⟨rfl, rfl⟩)
      go_ret
      exact ⟨rfl, B5.out⟩
  · have q0 : ((n : Int) != 0) = true := by rw [bne_iff_ne]; omega
    go_wp2_with (go_at_call 17; refine (numv_any _ _).mono ?_; rintro e w' ⟨rfl, rfl⟩)
    go_ret
    exact ⟨rfl, B5.out⟩
end Go.Proofs.Ytihkjpfibogpdab
