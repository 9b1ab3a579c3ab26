/- The walk of the law PathParses. -/
import Derived.Test.YtihkjpfibogpdabAwake11
namespace Go.Proofs.Ytihkjpfibogpdab
open Go.RowKit
set_option linter.unusedVariables false
theorem refparse_lit (s : ByteArray) (out : List (List UInt8)) (n : Nat) (hs : s.size ≤ 140737488355328) (h : parseL s.data.toList = (out, n)) (w : World) :
    Calls Try.prog 19 #[.string s] w fun e w' => ∃ (A : Option Addr) (c : Nat), e = .returned (.tuple #[.slice A out.length c, .int .i64 (n : Int)]) ∧ out.length ≤ c ∧ Texts w' A out.length out ∧ Names w.heap.size w' (.slice A out.length c) out ∧ Below w.heap.size w w' :=
  (refparse_any s w hs).mono fun e w' ⟨v, x, m, he, hp, hx, hv, hb⟩ => by
    obtain ⟨A, c, rfl, hc⟩ := names_cap hx
    rw [h] at hp
    injection hp with h1 h2
    subst h1 h2
    exact ⟨A, c, he, hc, Texts.of_names hx, hx, hb⟩
/-- A row of the call's own that may be written: block g, from base up to top. -/
def Mine (w : World) (base top : Nat) (A : Option Addr) (n : Nat) : Prop := 0 < n → ∃ g, A = some ⟨g, 0, none⟩ ∧ base ≤ g ∧ g < top ∧ ∀ j, j < n → (∃ u, w.cell? ⟨g, j, none⟩ = some u) ∧ w.frozen? ⟨g, j, none⟩ = false
theorem mine_of {base : Nat} {w : World} {A : Option Addr} {c : Nat} {out : List (List UInt8)} (h : Names base w (.slice A out.length c) out) : Mine w base w.heap.size A out.length := by
  intro hn
  obtain ⟨g, off, hA, hg, hc⟩ := (Texts.of_names h).2 hn
  rcases h.2 with ⟨hv, h0⟩ | ⟨g', cap, cur, hv, hb, hh, _⟩
  · omega
  · have e : A = some ⟨g', 0, none⟩ := by injection hv
    rw [hA] at e
    injection e with e
    injection e with e1 e2
    subst e1 e2
    refine ⟨g, hA, hb, hg, fun j hj => ⟨⟨_, by have := hc j hj; rwa [Nat.zero_add] at this⟩, ?_⟩⟩
    unfold World.frozen?
    rw [hh]
    simp
theorem Mine.below {w w' : World} {base top : Nat} {A : Option Addr} {n : Nat} (h : Mine w base top A n) (hb : Below top w w') : Mine w' base top A n := by
  intro hn
  obtain ⟨g, hA, h1, h2, hc⟩ := h hn
  exact ⟨g, hA, h1, h2, fun j hj => ⟨by obtain ⟨u, hu⟩ := (hc j hj).1; exact ⟨u, (hb.cell (p := ⟨g, j, none⟩) h2).trans hu⟩, (hb.frozen (p := ⟨g, j, none⟩) h2).trans (hc j hj).2⟩⟩
/-- A list of texts that lies from a block on. -/
def Far (w : World) (base : Nat) (A : Option Addr) (n : Nat) (ts : List (List UInt8)) : Prop := Texts w A n ts ∧ ∀ g o, A = some ⟨g, o, none⟩ → 0 < n → base ≤ g
theorem far_of {base base' : Nat} {w : World} {A : Option Addr} {c : Nat} {out : List (List UInt8)} (h : Names base w (.slice A out.length c) out) (hb : base' ≤ base) : Far w base' A out.length out := by
  refine ⟨Texts.of_names h, fun g o hA hn => ?_⟩
  rcases h.2 with ⟨hv, h0⟩ | ⟨g', cap, cur, hv, hb', hh, _⟩
  · omega
  · have e : A = some ⟨g', 0, none⟩ := by injection hv
    rw [hA] at e
    injection e with e
    injection e with e1 e2
    omega
theorem Far.below {w w' : World} {base : Nat} {A : Option Addr} {n : Nat} {ts : List (List UInt8)} (h : Far w base A n ts) (hb : Below w.heap.size w w') : Far w' base A n ts := ⟨h.1.below hb, h.2⟩
theorem Far.setCell {w : World} {base : Nat} {A : Option Addr} {n : Nat} {ts : List (List UInt8)} (h : Far w base A n ts) {p : Addr} (hp : p.block < base) (u : Value) : Far (w.setCell p u) base A n ts := by
  refine ⟨⟨h.1.1, fun hn => ?_⟩, h.2⟩
  obtain ⟨g, off, hA, hg, hc⟩ := h.1.2 hn
  refine ⟨g, off, hA, by simpa [World.setCell] using hg, fun j hj => ?_⟩
  have := h.2 g off hA hn
  rw [World.cell?_setCell_other w p ⟨g, off + j, none⟩ u (fun e => by rw [e] at hp; simp at hp; omega)]
  exact hc j hj
theorem Mine.setCell {w : World} {base top : Nat} {A : Option Addr} {n : Nat} (h : Mine w base top A n) (p : Addr) (u : Value) : Mine (w.setCell p u) base top A n := by
  intro hn
  obtain ⟨g, hA, h1, h2, hc⟩ := h hn
  refine ⟨g, hA, h1, h2, fun j hj => ⟨?_, by rw [World.frozen?_setCell]; exact (hc j hj).2⟩⟩
  obtain ⟨v, hv⟩ := (hc j hj).1
  by_cases e : p = ⟨g, j, none⟩
  · subst e
    exact ⟨u, World.cell?_setCell_same' _ _ _ (by rw [hv]; rfl)⟩
  · exact ⟨v, by rw [World.cell?_setCell_other w p ⟨g, j, none⟩ u e]; exact hv⟩
set_option maxRecDepth 100000 in
set_option maxHeartbeats 2000000 in
theorem pathParses_walk (s : ByteArray) (hs : s.size ≤ 140737488351232) (w : World) :
    Calls Try.prog 7 #[.string s] w fun e w' => e = .returned (.bool true) ∧ Below w.heap.size w w' := by
  have h1 : s.size ≤ 140737488355328 := by omega
  obtain ⟨out, n, hp⟩ : ∃ out n, parseL s.data.toList = (out, n) := ⟨_, _, rfl⟩
  have hn := parseL_err s.data.toList
  have hl := parseL_len s.data.toList
  rw [hp] at hn hl
  simp only at hn hl
  have HP := Lib.hid hp
  clear hp
  go_enter Try.func7, Try.ntmps7
  go_wp2_with fail
  refine (parse_lit s out n h1 HP.out _).mono ?_
  rintro e w1 ⟨A, c1, rfl, hc1, ht1, hx1, _, hb1⟩
  have hm1 := mine_of hx1
  have T1 := Lib.hid ht1
  have M1 := Lib.hid hm1
  clear ht1 hx1 hm1
  go_wp2_with fail
  refine (parse_lit s out n h1 HP.out _).mono ?_
  rintro e w2 ⟨B, c2, rfl, hc2, ht2, hx2, _, hb2⟩
  have T2 := Lib.hid ht2
  have X2 := Lib.hid hx2
  clear ht2 hx2
  go_wp2_with fail
  refine (refparse_lit s out n h1 HP.out _).mono ?_
  rintro e w3 ⟨C, c3, rfl, hc3, ht3, hx3, hb3⟩
  have ta := (T1.out.below hb2).below hb3
  have tb := T2.out.below hb3
  have TA := Lib.hid ta
  have TB := Lib.hid tb
  have TC := Lib.hid ht3
  have XC := Lib.hid hx3
  have hb13 := Cv.next hb2 hb3
  clear ta tb ht3 hx3
  go_wp2_with fail
  refine (same_lit A C _ _ _ _ out out true _ (by simp) TA.out TC.out (by omega) (by omega)).mono ?_
  rintro e w4 ⟨rfl, hb4⟩
  have q0 : ((n : Int) != (n : Int)) = false := by simp
  go_wp2_with (first | (go_at_call 17; refine (numv_any _ _).mono ?_; rintro e w' ⟨rfl, rfl⟩) | (go_at_call 21; refine (code_any n (by omega) _).mono ?_; rintro e w' ⟨rfl, rfl⟩) | (go_at_call 22; refine (refcode_any n (by omega) _).mono ?_; rintro e w' ⟨rfl, rfl⟩))
  have hf2 := (far_of X2.out (Nat.le_refl _)).below hb3 |>.below hb4
  have hf3 := (far_of XC.out hb2.size).below hb4
  have hm4 := M1.out.below (hb13.trans (hb4.mono hb13.size))
  have hbw : Below w.heap.size w w4 := Cv.next (Cv.next hb1 hb13) hb4
  have F2 := Lib.hid hf2
  have F3 := Lib.hid hf3
  have M4 := Lib.hid hm4
  have BW := Lib.hid hbw
  clear hf2 hf3 hm4 hbw
  go_loopw [9] (fun i wr => ∃ k : Nat, k ≤ out.length ∧ i = .int .i64 k ∧ Mine wr w.heap.size w1.heap.size A out.length ∧ Far wr w1.heap.size B out.length out ∧ Far wr w1.heap.size C out.length out ∧ Below w.heap.size w wr) (fun i _ => out.length - (intOf i).toNat)
  case atStart => exact ⟨0, by omega, rfl, M4.out, F2.out, F3.out, BW.out⟩
  case round =>
    obtain ⟨k, hk, rfl, hm, hfb, hfc, hbw⟩ := hrel
    have HM := Lib.hid hm
    have HB := Lib.hid hfb
    have HC := Lib.hid hfc
    have HW := Lib.hid hbw
    clear hm hfb hfc hbw
    by_cases hlt : k < out.length
    · obtain ⟨g, hA, hg1, hg2, hc⟩ := HM.out (by omega)
      obtain ⟨⟨u, hu⟩, hfz⟩ := hc k hlt
      clear hc
      subst hA
      go_wp2_with fail
      go_roundw
      case rel => exact ⟨k + 1, by omega, by go_num, HM.out.setCell _ _, HB.out.setCell hg2 _, HC.out.setCell hg2 _, HW.out.setCell hg1 _⟩
      case measure => simp [intOf]; omega
    · obtain rfl : k = out.length := by omega
      go_wp2_with fail
      refine (same_lit B C _ _ _ _ out out true _ (by simp) HB.out.1 HC.out.1 (by omega) (by omega)).mono ?_
      rintro e w5 ⟨rfl, hb5⟩
      go_wp2_with fail
      refine (awake11 _).mono ?_
      rintro e w6 ⟨rfl, hb6⟩
      go_wp2_with fail
      go_ret
      exact ⟨rfl, Cv.next (Cv.next HW.out hb5) hb6⟩
end Go.Proofs.Ytihkjpfibogpdab
