/- KeptInts, the document's Pick and Turns, each by its contract. -/
import Derived.Test.YtihkjpfibogpdaaAppendVals
import Derived.Test.YtihkjpfibogpdaaSameInts
namespace Go.Proofs.Ytihkjpfibogpdaa
open Go.RowKit
set_option linter.unusedVariables false
set_option maxHeartbeats 1000000 in
theorem keptints_any (A : Option Addr) (n c g cap : Nat) (xs : List Int) (w : World) (hx : Reads w A n (xs.map (Value.int .i64))) (hl : Reads w (some ⟨g, 0, .none⟩) (n + 2) ((xs ++ [-7777, -8888]).map (Value.int .i64))) (hn : n ≤ 1048576) (hcap : n + 2 ≤ cap) (hcm : cap ≤ maxLen) :
    Calls Try.prog 47 #[.slice (some ⟨g, 0, .none⟩) n cap, .slice A n c] w fun e w' => e = .returned (.bool true) ∧ Below w.heap.size w w' := by
  have hlen : xs.length = n := by simpa using hx.1
  have hfront : Reads w (some ⟨g, 0, .none⟩) n (xs.map (Value.int .i64)) := by
    rw [List.map_append] at hl
    exact hl.front (by simpa using hlen)
  have HX := Lib.hid hx
  have HL := Lib.hid hl
  have HF := Lib.hid hfront
  have HN := Lib.hid hlen
  clear hx hl hfront hlen
  go_enter Try.func47, Try.ntmps47
  go_wp2_with fail
  refine (sameints_any (some ⟨g, 0, .none⟩) A n n cap c xs xs w HF.out HX.out (by omega) (by omega)).mono ?_
  rintro e w1 ⟨rfl, hb1⟩
  rw [decide_eq_true rfl]
  have hr := HL.out.below hb1
  obtain ⟨g', off, hA, hg, hc⟩ := hr.2 (by omega)
  injection hA with hA
  injection hA with h1 h2 _
  subst h1 h2
  have c1 := hc n (by omega)
  have c2 := hc (n + 1) (by omega)
  have e1 : ((xs ++ [-7777, -8888]).map (Value.int .i64))[n]? = some (.int .i64 (-7777)) := by
    rw [List.map_append, List.getElem?_append_right (by simp [HN.out])]
    simp [HN.out]
  have e2 : ((xs ++ [-7777, -8888]).map (Value.int .i64))[n + 1]? = some (.int .i64 (-8888)) := by
    rw [List.map_append, List.getElem?_append_right (by simp [HN.out])]
    simp [HN.out]
  rw [e1, Nat.zero_add] at c1
  rw [e2, Nat.zero_add] at c2
  clear hr hc e1 e2
  go_wp2_with fail
  go_ret
  exact ⟨rfl, hb1⟩
set_option maxHeartbeats 1000000 in
theorem refpick_any (A : Option Addr) (n c : Nat) (bs : List Bool) (p : Int) (w : World) (h : Reads w A n (bs.map Value.bool)) (hn : n ≤ 1048576) :
    Calls Try.prog 42 #[.slice A n c, .int .i64 p] w fun e w' => e = .returned (.tuple #[.int .i64 (pickV bs p), .bool (picks bs)]) ∧ Below w.heap.size w w' := by
  obtain ⟨R, hR⟩ : ∃ R, pickV bs p = R := ⟨_, rfl⟩
  obtain ⟨S, hS⟩ : ∃ S, picks bs = S := ⟨_, rfl⟩
  rw [hR, hS]
  have hlen : bs.length = n := by simpa using h.1
  have HR := Lib.hid hR
  have HS := Lib.hid hS
  have HH := Lib.hid h
  have HL := Lib.hid hlen
  clear hR hS h hlen
  obtain ⟨i0, hi, hz0, hz1, hz2⟩ := info_parts infoInt
  go_enter Try.func42, Try.ntmps42
  go_wp2_with fail
  go_loopw [6, 7] (fun v i wr => ∃ (k m : Nat), k ≤ n ∧ i = .int .i64 k ∧ m ≤ k ∧ (trues (bs.take k)).length = m ∧ wr.ownsRow w.heap.size 3 1 v m ((trues (bs.take k)).map fun (x : Nat) => Value.int .i64 (x : Int)) ∧ Below w.heap.size w wr) (fun _ i _ => n - (intOf i).toNat)
  case atStart => exact ⟨0, 0, by omega, rfl, by omega, rfl, World.ownsRow_nil _ _ _ _, Below.refl _ _⟩
  case round =>
    obtain ⟨k, m, hk, rfl, hmk, hm, hown, hbel⟩ := hrel
    have HM := Lib.hid hm
    have HO := Lib.hid hown
    have HB := Lib.hid hbel
    by_cases hlt : k < n
    · obtain ⟨g, off, rfl, hg, hc⟩ := HH.out.2 (by omega)
      have hkb : k < bs.length := by rw [HL.out]; exact hlt
      have ck := hc k hlt
      rw [List.getElem?_map, List.getElem?_eq_getElem hkb] at ck
      obtain ⟨b, hb⟩ : ∃ b, bs[k] = b := ⟨_, rfl⟩
      rw [hb] at ck
      simp only [Option.map_some] at ck
      have ck1 := (hbel.cell (p := ⟨g, off + k, .none⟩) hg).trans ck
      have hnx := trues_next bs k hkb
      have hgd : bs.getD k false = b := by simp [hkb, hb]
      rw [hgd] at hnx
      have HN := Lib.hid hnx
      clear hc hb hnx hgd hm hown hbel ck
      cases b with
      | true =>
        go_wp2_with (at_builtin; refine wpList_append_own _ rfl _ _ 39 rfl w.heap.size 3 i0 (.int .i64 0) 1 8 Try.underlying39 hi hz0 hz1 hz2 rfl (by decide) _ m _ rfl (HO.out.alloc _) ⟨wr.heap.size, 0, .none⟩ 1 1 [.int .i64 k] rfl rfl ?ca1 ?ca2 ?ca3 ?ca4 ?ca5 ?_)
        case ca2 => rfl
        case ca3 => unfold maxLen; omega
        case ca4 => omega
        case ca5 => have := HB.out.size; simp; omega
        intro v' w2 hown' hgrow _
        have hb2 : Below w.heap.size w w2 := (HB.out.alloc HB.out.size _).grown hgrow (by have := HB.out.size; simp; omega) (fun x hx => (HO.out.lt x hx).1)
        have HO2 := Lib.hid hown'
        have HB2 := Lib.hid hb2
        clear hown' hgrow hb2
        go_wp2_with fail
        go_roundw
        case rel => exact ⟨k + 1, m + 1, by omega, by go_num, by omega, by rw [HN.out]; simp [HM.out], by rw [HN.out]; simpa using HO2.out, HB2.out⟩
        case measure => simp [intOf]; omega
      | false =>
        go_wp2_with fail
        go_roundw
        case rel => exact ⟨k + 1, m, by omega, by go_num, by omega, by rw [HN.out]; simp [HM.out], by rw [HN.out]; simpa using HO.out, HB.out⟩
        case measure => simp [intOf]; omega
    · obtain rfl : k = n := by omega
      have hfull : bs.take k = bs := List.take_of_length_le (by rw [HL.out]; exact Nat.le_refl _)
      rw [hfull] at HM HO
      clear hfull hm hown hbel
      by_cases h0 : m = 0
      · subst h0
        have hS0 : S = false := by
          rw [← HS.out]
          unfold picks
          rw [List.eq_nil_of_length_eq_zero HM.out]
          rfl
        have hR0 : R = 0 := by
          rw [← HR.out]
          unfold pickV
          rw [HS.out, hS0]
          rfl
        subst hS0 hR0
        have hvf := HO.out
        obtain ⟨A', c', rfl, _⟩ : ∃ A' c', u6 = Value.slice A' 0 c' ∧ True := by
          rcases hvf.2 with ⟨hv, _⟩ | ⟨g, cap, cur, hv, _⟩
          · exact ⟨_, _, hv, trivial⟩
          · exact ⟨_, _, hv, trivial⟩
        clear hvf
        go_wp2_with fail
        go_ret2
        exact ⟨rfl, HB.out⟩
      · have hS0 : S = true := by
          rw [← HS.out]
          unfold picks
          cases e : trues bs with
          | nil => rw [e] at HM; exact absurd HM.out (fun h => h0 (by simpa using h.symm))
          | cons a l => rfl
        subst hS0
        obtain ⟨q, hq⟩ : ∃ q : Nat, (IntKind.u64.wrap p).toNat % m = q := ⟨_, rfl⟩
        have hqm : q < m := by rw [← hq]; exact Nat.mod_lt _ (by omega)
        have hRq : R = (((trues bs).getD q 0 : Nat) : Int) := by
          rw [← HR.out]
          unfold pickV pickAt
          rw [HS.out, HM.out, hq]
          rfl
        have hpq : (IntKind.u64.wrap p).tmod (m : Int) = (q : Int) := by
          obtain ⟨y, _, hy⟩ := Cv.wrap_u64_any p
          rw [hy] at hq ⊢
          rw [← hq]
          simp only [Int.toNat_natCast]
          rfl
        have q0 : ((m : Int) == 0) = false := by rw [beq_eq_false_iff_ne]; omega
        have hm0 : 0 < m := by omega
        have HRq := Lib.hid hRq
        have hnv : u6 ≠ Value.slice .none 0 0 := fun e => by
          rcases HO.out.2 with ⟨_, h⟩ | ⟨g, cap, cur, hv, _⟩
          · exact h0 h
          · rw [e] at hv; injection hv with h _ _; cases h
        obtain ⟨g, cap, rfl, _, _, _, _, hcell⟩ := row_shape HO.out hnv
        have cq := hcell q hqm
        have hql : q < (trues bs).length := by rw [HM.out]; exact hqm
        have hgq : (trues bs).getD q 0 = (trues bs)[q] := by simp [hql]
        rw [List.getElem?_map, List.getElem?_eq_getElem hql, ← hgq, Option.map_some, ← hRq] at cq
        clear hq hRq h0 hnv hcell hql hgq
        go_wp2_with fail
        go_ret2
        exact ⟨rfl, HB.out⟩
end Go.Proofs.Ytihkjpfibogpdaa
