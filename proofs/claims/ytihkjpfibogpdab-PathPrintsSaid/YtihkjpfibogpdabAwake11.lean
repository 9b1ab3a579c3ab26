/- What the laws of chapter 11 ask of every program: awake. -/
import Derived.Test.YtihkjpfibogpdabBelow
import Derived.Test.YtihkjpfibogpdabPrint
namespace Go.Proofs.Ytihkjpfibogpdab
open Go.RowKit
set_option linter.unusedVariables false
theorem parse_lit (s : ByteArray) (out : List (List UInt8)) (n : Nat) (hs : s.size ≤ 140737488355328) (h : parseL s.data.toList = (out, n)) (w : World) :
    Calls Try.prog 18 #[.string s] w fun e w' => ∃ (A : Option Addr) (c : Nat), e = .returned (.tuple #[.slice A out.length c, .int .i64 (n : Int)]) ∧ out.length ≤ c ∧ Texts w' A out.length out ∧ Names w.heap.size w' (.slice A out.length c) out ∧ (n ≠ 0 → A = none) ∧ Below w.heap.size w w' :=
  (parse_any s w hs).mono fun e w' ⟨v, x, m, he, hp, hx, hv, hb⟩ => by
    obtain ⟨A, c, rfl, hc⟩ := names_cap hx
    rw [h] at hp
    injection hp with h1 h2
    subst h1 h2
    exact ⟨A, c, he, hc, Texts.of_names hx, hx, fun hn => by have := hv hn; injection this, hb⟩
theorem below_lit (a b : ByteArray) (r : Bool) (w : World) (ha : a.size ≤ 140737488355328) (hb : b.size ≤ 140737488355328) (h : belowL a.data.toList b.data.toList = r) :
    Calls Try.prog 26 #[.string a, .string b] w fun e w' => e = .returned (.bool r) ∧ Below w.heap.size w w' :=
  (below_any a b w ha hb).mono fun e w' ⟨he, hb⟩ => ⟨by rw [he, h], hb⟩
theorem same_lit (A B : Option Addr) (n m c d : Nat) (ts us : List (List UInt8)) (r : Bool) (w : World) (h : (ts == us) = r) (ha : Texts w A n ts) (hb : Texts w B m us) (hn : n ≤ 9223372036854775806) (hm : m ≤ 9223372036854775806) :
    Calls Try.prog 20 #[.slice A n c, .slice B m d] w fun e w' => e = .returned (.bool r) ∧ Below w.heap.size w w' :=
  (same_any A B n m c d ts us w ha hb hn hm).mono fun e w' ⟨he, hb⟩ => ⟨by rw [he, h], hb⟩
theorem print_lit (A : Option Addr) (n c : Nat) (ts : List (List UInt8)) (s : List UInt8) (m : Nat) (w : World) (h : printL ts = (s, m)) (ht : Texts w A n ts) (hn : n ≤ 9223372036854775806) (hl : ∀ t ∈ ts, t.length ≤ maxLen) :
    Calls Try.prog 24 #[.slice A n c] w fun e w' => e = .returned (.tuple #[.string ⟨s.toArray⟩, .int .i64 (m : Int)]) ∧ Below w.heap.size w w' :=
  (print_any A n c ts w ht hn hl).mono fun e w' ⟨s', m', he, hp, hb⟩ => by
    rw [h] at hp
    injection hp with h1 h2
    subst h1 h2
    exact ⟨he, hb⟩
/-- Two texts in a new block. -/
theorem texts_two (w : World) (a b : List UInt8) : Texts (w.alloc (.cells #[strV a, strV b] 9)) (some ⟨w.heap.size, 0, none⟩) 2 [a, b] := by
  refine ⟨rfl, fun _ => ⟨w.heap.size, 0, rfl, by simp, fun j hj => ?_⟩⟩
  refine (World.cell?_alloc_mark w _ _ (0, 0) _).trans ?_
  match j, hj with
  | 0, _ => rfl
  | 1, _ => rfl
set_option maxRecDepth 100000 in
set_option maxHeartbeats 2000000 in
theorem awake11 (w : World) : Calls Try.prog 23 #[] w fun e w' => e = .returned (.bool true) ∧ Below w.heap.size w w' := by
  go_enter Try.func23, Try.ntmps23
  go_wp2_with fail
  refine (parse_lit _ [[97], [98, 99]] 0 (by decide +kernel) (by decide +kernel) _).mono ?_
  rintro e w1 ⟨A1, c1, rfl, _, ht1, _, _, hb1⟩
  have T1 := Lib.hid ht1
  clear ht1
  go_wp2_with fail
  refine (parse_lit _ [] 0 (by decide +kernel) (by decide +kernel) _).mono ?_
  rintro e w2 ⟨A2, c2, rfl, _, _, _, _, hb2⟩
  go_wp2_with fail
  refine (parse_lit _ [] 1100 (by decide +kernel) (by decide +kernel) _).mono ?_
  rintro e w3 ⟨A3, c3, rfl, _, _, _, _, hb3⟩
  go_wp2_with fail
  refine (print_lit _ 2 2 [[120], [121]] [47, 120, 47, 121] 0 _ (by decide +kernel) (texts_two _ _ _) (by omega) (by intro t ht; simp at ht; rcases ht with rfl | rfl <;> simp [maxLen])).mono ?_
  rintro e w4 ⟨rfl, hb4⟩
  go_wp2_with fail
  refine (parse_lit _ [] 1100 (by decide +kernel) (by decide +kernel) _).mono ?_
  rintro e w5 ⟨A5, c5, rfl, _, _, _, _, hb5⟩
  have hb45 : Below w3.heap.size w3 w5 := Cv.next (Cv.next ((Below.refl _ _).alloc (Nat.le_refl _) _) hb4) hb5
  have ht5 := (((T1.out.below hb2).below hb3).below hb45)
  have T5 := Lib.hid ht5
  clear ht5
  go_wp2_with (go_at_call 17; refine (numv_any _ _).mono ?_; rintro e w' ⟨rfl, rfl⟩)
  refine (same_lit A1 _ 2 2 _ _ [[97], [98, 99]] [[97], [98, 99]] true _ (by decide +kernel) (T5.out.below ((Below.refl _ _).alloc (Nat.le_refl _) _)) (texts_two _ _ _) (by omega) (by omega)).mono ?_
  rintro e w6 ⟨rfl, hb6⟩
  go_wp2_with (first | (go_at_call 17; refine (numv_any _ _).mono ?_; rintro e w' ⟨rfl, rfl⟩) | (go_at_call 21; refine (code_any 1100 (by omega) _).mono ?_; rintro e w' ⟨rfl, rfl⟩))
  refine (below_lit _ _ true _ (by decide +kernel) (by decide +kernel) (by decide +kernel)).mono ?_
  rintro e w7 ⟨rfl, hb7⟩
  go_wp2_with fail
  go_ret
  exact ⟨rfl, Cv.next (Cv.next (Cv.next (Cv.next (Cv.next hb1 hb2) hb3) hb45) (Cv.next ((Below.refl _ _).alloc (Nat.le_refl _) _) hb6)) hb7⟩
end Go.Proofs.Ytihkjpfibogpdab
