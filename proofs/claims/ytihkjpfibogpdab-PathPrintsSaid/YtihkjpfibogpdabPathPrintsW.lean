/- The walk of the law PathPrints. -/
import Derived.Test.YtihkjpfibogpdabPathBelowsW
import Derived.Test.YtihkjpfibogpdabOpenTexts
import Derived.Test.YtihkjpfibogpdabRefPrint
namespace Go.Proofs.Ytihkjpfibogpdab
open Go.RowKit
set_option linter.unusedVariables false
theorem refprint_lit (A : Option Addr) (n c : Nat) (ts : List (List UInt8)) (s : List UInt8) (m : Nat) (w : World) (h : printL ts = (s, m)) (ht : Texts w A n ts) (hn : n ≤ 9223372036854775806) (hl : ∀ t ∈ ts, t.length ≤ maxLen) :
    Calls Try.prog 25 #[.slice A n c] w fun e w' => e = .returned (.tuple #[.string ⟨s.toArray⟩, .int .i64 (m : Int)]) ∧ Below w.heap.size w w' :=
  (refprint_any A n c ts w ht hn hl).mono fun e w' ⟨s', m', he, hp, hb⟩ => by
    rw [h] at hp
    injection hp with h1 h2
    subst h1 h2
    exact ⟨he, hb⟩
theorem refbelow_lit (a b : ByteArray) (r : Bool) (w : World) (ha : a.size ≤ 140737488355328) (hb : b.size ≤ 140737488355328) (h : belowL a.data.toList b.data.toList = r) :
    Calls Try.prog 27 #[.string a, .string b] w fun e w' => e = .returned (.bool r) ∧ Below w.heap.size w w' :=
  (refbelow_any a b w ha hb).mono fun e w' ⟨he, hb⟩ => ⟨by rw [he, h], hb⟩
set_option maxRecDepth 100000 in
set_option maxHeartbeats 4000000 in
theorem pathPrints_walk0 (w : World) (A : Option Addr) (n c : Nat) (ts : List (List UInt8)) (ht : Texts w A n ts) (hl : ∀ t ∈ ts, t.length ≤ maxLen) (hn : n * 16 ≤ 140737488351232) (hc : A = none → c = 0) (a : ByteArray) (ha : a.size ≤ 140737488351232) (b : ByteArray) (hb : b.size ≤ 140737488351232) :
    Calls Try.prog 8 #[.slice A n c, .string a, .string b] w fun e w' => e = .returned (.bool true) ∧ Below w.heap.size w w' := by
  have ha1 : a.size ≤ 140737488355328 := by omega
  have hb1 : b.size ≤ 140737488355328 := by omega
  obtain ⟨t, r, hr⟩ : ∃ p q, printL ts = (p, q) := ⟨_, _, rfl⟩
  have htl := printL_len hr
  obtain ⟨r5, h5⟩ : ∃ v, belowL a.data.toList b.data.toList = v := ⟨_, rfl⟩
  have h6 : belowL t t = false := by unfold belowL; simp
  have HT := Lib.hid ht
  have HL := Lib.hid hl
  have HR := Lib.hid hr
  have HC := Lib.hid hc
  have H5 := Lib.hid h5
  have H6 := Lib.hid h6
  clear ht hl hr hc h5 h6
  have hmade := names_made w
  have hal : Below w.heap.size w (w.alloc (.cells #[] 9)) := (Below.refl _ _).alloc (Nat.le_refl _) _
  have hlen : ts.length = n := HT.out.1
  have Hlen := Lib.hid hlen
  clear hlen
  go_enter Try.func8, Try.ntmps8
  go_wp2_with (at_builtin; refine wpList_append_texts rfl (.tmp 12) (.tmp 13) rfl w.heap.size _ [] rfl hmade A n c ts rfl (HT.out.below hal) HC.out (by simp; omega) hal.size ?_; intro v1 W1 hn1 hg1 hs1)
  obtain ⟨A2, c2, rfl⟩ := names_shape hn1
  have htt := Texts.of_names hn1
  have hl2 : ([] ++ ts).length = n := by simp [Hlen.out]
  rw [hl2] at htt
  rw [hl2]
  simp only [List.nil_append] at htt
  have hb2 : Below w.heap.size w W1 := hal.trans hg1
  have TT := Lib.hid htt
  have B2 := Lib.hid hb2
  clear htt hb2 hn1 hg1 hs1 hmade hal hl2
  go_wp2_with fail
  refine (print_lit A2 n c2 ts t r _ HR.out TT.out (by omega) HL.out).mono ?_
  rintro e w3 ⟨rfl, hb3⟩
  have hb23 := Cv.next B2.out hb3
  have B3 := Lib.hid hb23
  have htt3 := TT.out.below hb3
  have TT3 := Lib.hid htt3
  clear hb23 hb3 htt3
  go_wp2_with fail
  refine (refprint_lit A n c ts t r _ HR.out (HT.out.below B3.out) (by omega) HL.out).mono ?_
  rintro e w4 ⟨rfl, hb4⟩
  have hb34 := Cv.next B3.out hb4
  have B4 := Lib.hid hb34
  have htt4 := TT3.out.below hb4
  have TT4 := Lib.hid htt4
  clear hb34 hb4 htt4
  go_wp2_with (go_at_call 17; refine (numv_any _ _).mono ?_; rintro e w' ⟨rfl, rfl⟩)
  refine (same_lit A2 A n n c2 c ts ts true _ (by simp) TT4.out (HT.out.below B4.out) (by omega) (by omega)).mono ?_
  rintro e w5 ⟨rfl, hb5⟩
  go_wp2_with fail
  refine (below_lit a b r5 _ ha1 hb1 H5.out).mono ?_
  rintro e w6 ⟨rfl, hb6⟩
  go_wp2_with fail
  refine (refbelow_lit a b r5 _ ha1 hb1 H5.out).mono ?_
  rintro e w7 ⟨rfl, hb7⟩
  go_wp2_with fail
  refine (below_lit _ _ false _ (by rw [mk_size]; omega) (by rw [mk_size]; omega) H6.out).mono ?_
  rintro e w8 ⟨rfl, hb8⟩
  go_wp2_with fail
  refine (awake11 _).mono ?_
  rintro e w9 ⟨rfl, hb9⟩
  go_wp2_with fail
  go_ret
  exact ⟨rfl, Cv.next (Cv.next (Cv.next (Cv.next (Cv.next B4.out hb5) hb6) hb7) hb8) hb9⟩
end Go.Proofs.Ytihkjpfibogpdab
