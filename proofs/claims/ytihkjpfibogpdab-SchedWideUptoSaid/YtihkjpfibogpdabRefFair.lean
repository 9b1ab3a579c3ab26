/- concourseref1.Fair, by its contract. -/
import Derived.Test.YtihkjpfibogpdabFair
namespace Go.Proofs.Ytihkjpfibogpdab
open Go.RowKit
set_option linter.unusedVariables false
theorem Rows.get {w : World} {A : Option Addr} {n : Nat} {rows : List (List Bool)} (h : Rows w A n rows) (k : Nat) (hk : k < n) :
    ∃ g off B m c, A = some ⟨g, off, .none⟩ ∧ w.cell? ⟨g, off + k, .none⟩ = some (.slice B m c) ∧ Reads w B m ((rows.getD k []).map Value.bool) ∧ m ≤ 17592186043904 ∧ (rows.getD k []).length = m := by
  obtain ⟨g, off, h1, _, h3⟩ := h.2.2 (by omega)
  obtain ⟨B, m, c, h4, h5⟩ := h3 k hk
  have hl : (rows.getD k []).length = m := by simpa using h5.1
  refine ⟨g, off, B, m, c, h1, h4, h5, ?_, hl⟩
  have hkl : k < rows.length := by rw [h.1]; exact hk
  have e : rows.getD k [] = rows[k] := by simp [hkl]
  rw [← hl, e]
  exact h.2.1 _ (List.getElem_mem hkl)
set_option maxHeartbeats 1000000 in
theorem is_any (A : Option Addr) (n c : Nat) (rows : List (List Bool)) (i q : Nat) (w : World) (hr : Rows w A n rows) (hi : i < n) :
    Calls Try.prog 28 #[.slice A n c, .int .i64 i, .int .i64 q] w fun e w' => e = .returned (.bool (rdy rows i q)) ∧ w = w' := by
  obtain ⟨R, hR⟩ : ∃ R, rdy rows i q = R := ⟨_, rfl⟩
  rw [hR]
  obtain ⟨g, off, B, m, cc, rfl, hcell, hread, hm, hl⟩ := hr.get i hi
  unfold rdy at hR
  by_cases hq : q < m
  · obtain ⟨g2, off2, rfl, hg2, hc2⟩ := hread.2 (by omega)
    have cq := hc2 q hq
    have hql : q < (rows.getD i []).length := by omega
    rw [List.getElem?_map, List.getElem?_eq_getElem hql] at cq
    have e : (rows.getD i []).getD q false = (rows.getD i [])[q] := by
      rw [List.getD_eq_getElem?_getD, List.getElem?_eq_getElem hql]
      rfl
    rw [e] at hR
    rw [hR] at cq
    simp only [Option.map_some] at cq
    clear hR hr hread hc2 hl e hql
    go_enter Try.func28, Try.ntmps28
    go_wp2_with fail
    go_ret
    exact ⟨rfl, rfl⟩
  · have hR0 : R = false := by
      rw [← hR]
      exact getD_out _ _ (by omega)
    subst hR0
    have q1 : decide ((q : Int) < (m : Int)) = false := by rw [decide_eq_false_iff_not]; omega
    clear hR hr hread hl
    go_enter Try.func28, Try.ntmps28
    go_wp2_with fail
    go_ret
    exact ⟨rfl, rfl⟩
set_option maxRecDepth 100000 in
set_option maxHeartbeats 4000000 in
theorem reffair_any (A B : Option Addr) (n m c d : Nat) (rows : List (List Bool)) (ps : List Int) (win : Int) (w : World) (hr : Rows w A n rows) (hp : Reads w B m (ps.map (Value.int .i64)))
    (hn : n ≤ 140737488355328) (hm : m ≤ 140737488355328) :
    Calls Try.prog 14 #[.slice A n c, .slice B m d, .int .i64 win] w fun e w' => e = .returned (.bool (fairV rows ps win)) ∧ w = w' := by
  have hiff := fairV_iff rows ps win
  obtain ⟨R, hR⟩ : ∃ R, fairV rows ps win = R := ⟨_, rfl⟩
  rw [hR] at hiff ⊢
  have hln : rows.length = n := hr.1
  have hlm : ps.length = m := by simpa using hp.1
  obtain ⟨S, hS⟩ : ∃ S, min n m = S := ⟨_, rfl⟩
  have hSn : S ≤ n := by omega
  have hSm : S ≤ m := by omega
  have hmin : (if m < n then (m : Int) else (n : Int)) = (S : Int) := by split <;> omega
  have hmin2 : (if (m : Int) < (n : Int) then (m : Int) else (n : Int)) = (S : Int) := by split <;> omega
  have hfa := fairly_iff rows ps win
  rw [hln, hlm, hS] at hfa
  have hun : (win < 1 ∨ (S : Int) < win) → R = true := fun h => hiff.2 fun h1 h2 => by rw [hln, hlm, hS] at h2; omega
  clear hS
  have HR := Lib.hid hr
  have HP := Lib.hid hp
  have HI : Hid (1 ≤ win → win ≤ (S : Int) → (R = true ↔ ∀ i, i + win.toNat ≤ S → ∀ c, c < (rows.getD i []).length → ¬ window rows ps win.toNat i c)) := Lib.hid fun h1 h2 => hiff.trans (hfa h1 h2)
  clear hiff hR hr hp hfa
  go_enter Try.func14, Try.ntmps14
  by_cases hw1 : win < 1
  · have hR0 := hun (.inl hw1)
    subst hR0
    have q1 : decide ((1 : Int) ≤ win) = false := by rw [decide_eq_false_iff_not]; omega
    clear hun HI
    go_wp2_with fail
    refine wp_loop_rounds 1 ?_
    rw [rounds_succ]
    go_wp2_with fail
    go_ret
    exact ⟨rfl, rfl⟩
  by_cases hw2 : (S : Int) < win
  · have hR0 := hun (.inr hw2)
    subst hR0
    have q1 : decide ((1 : Int) ≤ win) = true := by rw [decide_eq_true_eq]; omega
    have q2 : decide (win ≤ (S : Int)) = false := by rw [decide_eq_false_iff_not]; omega
    clear hun HI
    go_wp2_with fail
    refine wp_loop_rounds 1 ?_
    rw [rounds_succ]
    go_wp2_with fail
    go_ret
    exact ⟨rfl, rfl⟩
  obtain ⟨W, rfl⟩ : ∃ W : Nat, win = (W : Int) := ⟨win.toNat, by omega⟩
  have hW1 : 1 ≤ W := by omega
  have hWS : W ≤ S := by omega
  have HI2 : Hid (R = true ↔ ∀ i, i + W ≤ S → ∀ c, c < (rows.getD i []).length → ¬ window rows ps W i c) := Lib.hid (HI.out (by omega) (by omega))
  have q1 : decide ((1 : Int) ≤ (W : Int)) = true := by rw [decide_eq_true_eq]; omega
  have q2 : decide ((W : Int) ≤ (S : Int)) = true := by rw [decide_eq_true_eq]; omega
  have q3 : (S : Int) - (W : Int) = ((S - W : Nat) : Int) := by omega
  clear HI hun hmin2
  go_wp2_with fail
  go_loopw [8, 9, 10, 11, 12] (fun i _ _ _ _ wr => wr = w ∧ ∃ k : Nat, k ≤ S - W + 1 ∧ i = .int .i64 k ∧ (∀ i, i < k → ∀ c, c < (rows.getD i []).length → ¬ window rows ps W i c))
    (fun i _ _ _ _ _ => S - W + 1 - (intOf i).toNat)
  case atStart => exact ⟨rfl, 0, by omega, rfl, fun i h => absurd h (by omega)⟩
  case round =>
    obtain ⟨rfl, k, hk, rfl, hok⟩ := hrel
    have HOK := Lib.hid hok
    clear hok
    by_cases hkl : k ≤ S - W
    · obtain ⟨g, off, rB, rl, rc, rfl, hcell, hread, hrl, hlen⟩ := HR.out.get k (by omega)
      have HRD := Lib.hid hread
      have HLN := Lib.hid hlen
      clear hread hlen
      go_wp2_with fail
      go_loopw [9, 10, 11, 12] (fun i _ _ _ wr2 => wr2 = wr ∧ ∃ q : Nat, q ≤ rl ∧ i = .int .i64 q ∧ (∀ c, c < q → ¬ window rows ps W k c)) (fun i _ _ _ _ => rl - (intOf i).toNat)
      case atStart => exact ⟨rfl, 0, by omega, rfl, fun i h => absurd h (by omega)⟩
      case round =>
        obtain ⟨rfl, q, hq, rfl, hno⟩ := hrel
        have HNO := Lib.hid hno
        clear hno
        by_cases hql : q < rl
        · go_wp2_with fail
          go_loopw [10, 11, 12] (fun a s i wr3 => wr3 = wr ∧ ∃ (t : Nat) (x y : Bool), k ≤ t ∧ t ≤ k + W ∧ i = .int .i64 t ∧ a = .bool x ∧ s = .bool y ∧ (x = true ↔ ∀ j, k ≤ j → j < t → rdy rows j q = true) ∧ (y = true ↔ ∃ j, k ≤ j ∧ j < t ∧ ps.getD j 0 = (q : Int)))
            (fun _ _ i _ => k + W - (intOf i).toNat)
          case atStart =>
            exact ⟨rfl, k, true, false, by omega, by omega, rfl, rfl, rfl, ⟨fun _ j h1 h2 => absurd h2 (by omega), fun _ => rfl⟩, ⟨fun h => (by cases h), fun ⟨j, h1, h2, _⟩ => absurd h2 (by omega)⟩⟩
          case round =>
            obtain ⟨rfl, t, x, y, hkt, htw, rfl, rfl, rfl, hx, hy⟩ := hrel
            have HX := Lib.hid hx
            have HY := Lib.hid hy
            clear hx hy
            by_cases htl : t < k + W
            · have htp : t < ps.length := by omega
              obtain ⟨p, hpt⟩ : ∃ p, ps[t] = p := ⟨_, rfl⟩
              have hpv : (ps.map (Value.int .i64))[t]? = some (.int .i64 p) := by rw [List.getElem?_map, List.getElem?_eq_getElem htp, hpt]; rfl
              have hpd : ps.getD t 0 = p := by rw [List.getD_eq_getElem?_getD, List.getElem?_eq_getElem htp, hpt]; rfl
              obtain ⟨g2, off2, rfl, hg2, cp⟩ := HP.out.get t (by omega) hpv
              obtain ⟨z, hz⟩ : ∃ z, rdy rows t q = z := ⟨_, rfl⟩
              obtain ⟨e, he⟩ : ∃ e, decide (p = (q : Int)) = e := ⟨_, rfl⟩
              have he2 : (p == (q : Int)) = e := by rw [← he, Bool.eq_iff_iff, beq_iff_eq, decide_eq_true_eq]
              have hx2 : (x && z) = true ↔ ∀ j, k ≤ j → j < t + 1 → rdy rows j q = true := by
                rw [Bool.and_eq_true, HX.out, ← hz]
                constructor
                · rintro ⟨h1, h2⟩ j h3 h4
                  by_cases e : j = t
                  · rw [e]; exact h2
                  · exact h1 j h3 (by omega)
                · intro h
                  exact ⟨fun j h3 h4 => h j h3 (by omega), h t hkt (by omega)⟩
              have hy2 : (y || e) = true ↔ ∃ j, k ≤ j ∧ j < t + 1 ∧ ps.getD j 0 = (q : Int) := by
                rw [Bool.or_eq_true, HY.out, ← he, decide_eq_true_eq, ← hpd]
                constructor
                · rintro (⟨j, h1, h2, h3⟩ | h)
                  · exact ⟨j, h1, by omega, h3⟩
                  · exact ⟨t, hkt, by omega, h⟩
                · rintro ⟨j, h1, h2, h3⟩
                  by_cases e : j = t
                  · subst e; exact .inr h3
                  · exact .inl ⟨j, h1, by omega, h3⟩
              have HX2 := Lib.hid hx2
              have HY2 := Lib.hid hy2
              have HZ := Lib.hid hz
              clear hpt hpv hpd hz he hx2 hy2
              cases x with
              | true =>
                go_wp2_with fail
                refine (is_any _ n c rows t q _ HR.out (by omega)).mono ?_
                rintro ee w5 ⟨rfl, rfl⟩
                rw [HZ.out]
                cases y with
                | true =>
                  go_wp2_with fail
                  go_roundw
                  case rel => exact ⟨by trivial, t + 1, z, true, by omega, by omega, by go_num, rfl, rfl, HX2.out, HY2.out⟩
                  case measure => simp [intOf]; omega
                | false =>
                  go_wp2_with fail
                  go_roundw
                  case rel => exact ⟨by trivial, t + 1, z, e, by omega, by omega, by go_num, rfl, rfl, HX2.out, HY2.out⟩
                  case measure => simp [intOf]; omega
              | false =>
                cases y with
                | true =>
                  go_wp2_with fail
                  go_roundw
                  case rel => exact ⟨by trivial, t + 1, false, true, by omega, by omega, by go_num, rfl, rfl, HX2.out, HY2.out⟩
                  case measure => simp [intOf]; omega
                | false =>
                  go_wp2_with fail
                  go_roundw
                  case rel => exact ⟨by trivial, t + 1, false, e, by omega, by omega, by go_num, rfl, rfl, HX2.out, HY2.out⟩
                  case measure => simp [intOf]; omega
            · obtain rfl : t = k + W := by omega
              have hmis : (x = true ∧ y = false) ↔ window rows ps W k q := by
                rw [HX.out, ← Bool.not_eq_true, HY.out]
                unfold window
                constructor
                · rintro ⟨h1, h2⟩ j h3 h4
                  exact ⟨h1 j h3 h4, fun h => h2 ⟨j, h3, h4, h⟩⟩
                · intro h
                  exact ⟨fun j h3 h4 => (h j h3 h4).1, fun ⟨j, h3, h4, h5⟩ => (h j h3 h4).2 h5⟩
              have HM := Lib.hid hmis
              clear hmis
              have hnext : ¬ window rows ps W k q → ∀ c, c < q + 1 → ¬ window rows ps W k c := by
                intro h c hc
                by_cases e : c = q
                · rw [e]; exact h
                · exact HNO.out c (by omega)
              have HN := Lib.hid hnext
              clear hnext
              cases x with
              | true =>
                cases y with
                | true =>
                  go_wp2_with fail
                  go_roundw
                  case rel => exact ⟨by trivial, q + 1, by omega, by go_num, HN.out fun h => by have := HM.out.2 h; simp at this⟩
                  case measure => simp [intOf]; omega
                | false =>
                  have hR0 : R = false := by
                    rw [Bool.eq_false_iff]
                    intro hR
                    exact HI2.out.1 hR k (by omega) q (by rw [HLN.out]; exact hql) (HM.out.1 ⟨rfl, rfl⟩)
                  subst hR0
                  go_wp2_with fail
                  go_ret
                  exact ⟨rfl, rfl⟩
              | false =>
                go_wp2_with fail
                go_roundw
                case rel => exact ⟨by trivial, q + 1, by omega, by go_num, HN.out fun h => by have := HM.out.2 h; simp at this⟩
                case measure => simp [intOf]; omega
        · obtain rfl : q = rl := by omega
          go_wp2_with fail
          go_roundw
          case rel =>
            refine ⟨by trivial, k + 1, by omega, by go_num, fun i hi c hc => ?_⟩
            by_cases e : i = k
            · subst e
              exact HNO.out c (by rw [← HLN.out]; exact hc)
            · exact HOK.out i (by omega) c hc
          case measure => simp [intOf]; omega
    · obtain rfl : k = S - W + 1 := by omega
      have hR0 : R = true := HI2.out.2 fun i hi => HOK.out i (by omega)
      subst hR0
      go_wp2_with fail
      go_ret
      exact ⟨rfl, rfl⟩
end Go.Proofs.Ytihkjpfibogpdab
