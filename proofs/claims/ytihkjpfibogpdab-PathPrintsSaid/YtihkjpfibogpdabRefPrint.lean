/- The reference's Print, by its contract. -/
import Derived.Test.YtihkjpfibogpdabPrint
namespace Go.Proofs.Ytihkjpfibogpdab
open Go.RowKit
set_option linter.unusedVariables false
theorem refcheck_maxlit (s : ByteArray) (n : Nat) (w : World) (hs : s.size ≤ maxLen) (h : checkL s.data.toList = n) :
    Calls Try.prog 32 #[.string s] w fun e w' => e = .returned (.int .i64 (n : Int)) ∧ w = w' :=
  (refcheck_max s w hs).mono fun e w' ⟨he, hb⟩ => ⟨by rw [he, h], hb⟩
set_option maxRecDepth 100000 in
set_option maxHeartbeats 2000000 in
theorem refprint_any (A : Option Addr) (n c : Nat) (ts : List (List UInt8)) (w : World) (ht : Texts w A n ts) (hn : n ≤ 9223372036854775806) (hl : ∀ t ∈ ts, t.length ≤ maxLen) :
    Calls Try.prog 25 #[.slice A n c] w fun e w' => ∃ (s : List UInt8) (m : Nat), e = .returned (.tuple #[.string ⟨s.toArray⟩, .int .i64 (m : Int)]) ∧ printL ts = (s, m) ∧ Below w.heap.size w w' := by
  obtain ⟨R, hR⟩ : ∃ R, printL ts = R := ⟨_, rfl⟩
  rw [hR]
  unfold printL at hR
  have HR := Lib.hid hR
  have HT := Lib.hid ht
  have HL := Lib.hid hl
  clear hR ht hl
  go_enter Try.func25, Try.ntmps25
  go_wp2_with fail
  go_loopw [5] (fun i wr => ∃ k : Nat, k ≤ n ∧ i = .int .i64 k ∧ Below w.heap.size w wr ∧ (ts.take k).all mayL = true) (fun i _ => n - (intOf i).toNat)
  case atStart => exact ⟨0, by omega, rfl, Below.refl _ _, rfl⟩
  case round =>
    obtain ⟨k, hk, rfl, hbel, hall⟩ := hrel
    have Hbel := Lib.hid hbel
    have Hall := Lib.hid hall
    have htr := HT.out.below hbel
    have HTR := Lib.hid htr
    clear hbel hall htr
    by_cases hlt : k < n
    · obtain ⟨g, off, rfl, hg, hc⟩ := HTR.out.2 (by omega)
      have ck := hc k hlt
      obtain ⟨t, et⟩ : ∃ t, ts.getD k [] = t := ⟨_, rfl⟩
      rw [et] at ck
      unfold strV at ck
      have hkl : k < ts.length := by have := HT.out.1; omega
      have htl : t.length ≤ maxLen := by
        rw [← et]
        have e : ts.getD k [] = ts[k] := by simp [hkl]
        rw [e]
        exact HL.out _ (List.getElem_mem hkl)
      have Et := Lib.hid et
      have Htl := Lib.hid htl
      clear hc et htl
      by_cases hm : mayL t = true
      · have Hm := Lib.hid hm
        clear hm
        go_wp2_with fail
        refine (refcheck_maxlit _ 0 _ (by rw [mk_size]; exact Htl.out) (by have := Hm.out; unfold mayL at this; simpa using this)).mono ?_
        rintro e w1 ⟨rfl, rfl⟩
        go_wp2_with fail
        go_roundw
        case rel => exact ⟨k + 1, by omega, by go_num, Hbel.out, all_next hkl Hall.out (by rw [Et.out]; exact Hm.out)⟩
        case measure => simp [intOf]; omega
      · have hm' : mayL t = false := by simpa using hm
        have Hm := Lib.hid hm'
        clear hm hm'
        go_wp2_with fail
        obtain ⟨x, hx⟩ : ∃ x, checkL t = x := ⟨_, rfl⟩
        have hx0 : ¬ x = 0 := by
          intro e
          have := Hm.out
          unfold mayL at this
          rw [hx, e] at this
          simp at this
        have q0 : ((x : Int) != 0) = true := by rw [bne_iff_ne]; omega
        have Hx := Lib.hid hx
        clear hx
        refine (refcheck_maxlit _ x _ (by rw [mk_size]; exact Htl.out) Hx.out).mono ?_
        rintro e w1 ⟨rfl, rfl⟩
        go_wp2_with fail
        go_ret2
        refine ⟨[], 1100, rfl, ?_, Hbel.out⟩
        rw [← HR.out, if_pos (all_not hkl (by rw [Et.out]; exact Hm.out))]
    · obtain rfl : k = n := by omega
      have hal : ts.all mayL = true := by
        have := Hall.out
        rwa [List.take_of_length_le (by have := HT.out.1; omega)] at this
      have Hal := Lib.hid hal
      clear hal
      by_cases hdeep : 4 < k
      · go_wp2_with fail
        go_ret2
        refine ⟨[], 1102, rfl, ?_, Hbel.out⟩
        rw [← HR.out, if_neg (by rw [Hal.out]; simp), if_pos (by have := HT.out.1; omega)]
      · go_wp2_with fail
        go_loop [4, 6] (fun s i => ∃ j : Nat, j ≤ k ∧ i = .int .i64 j ∧ s = .string ⟨(joinL (ts.take j)).toArray⟩) (fun _ i => k - (intOf i).toNat)
        case atStart => exact ⟨0, by omega, rfl, rfl⟩
        case round =>
          obtain ⟨j, hj, rfl, rfl⟩ := hrel
          by_cases hjk : j < k
          · obtain ⟨g, off, rfl, hg, hc⟩ := HTR.out.2 (by omega)
            have ck := hc j hjk
            have hkl : j < ts.length := by have := HT.out.1; omega
            have hnx := joinL_next ts j hkl
            have h12 := all_len hkl Hal.out
            have h13 := joinL_len (ts.take j) (take_all Hal.out)
            rw [List.length_take] at h13
            obtain ⟨t, et⟩ : ∃ t, ts.getD j [] = t := ⟨_, rfl⟩
            obtain ⟨u, eu⟩ : ∃ u, joinL (ts.take j) = u := ⟨_, rfl⟩
            rw [et] at ck hnx h12
            rw [eu] at hnx h13
            rw [eu]
            unfold strV at ck
            have s1 : t.length ≤ 12 := h12
            have s2 : u.length ≤ 52 := by omega
            have Hnx := Lib.hid hnx
            clear hc et eu hnx h12 h13
            go_wp2_with fail
            go_round
            case rel => exact ⟨j + 1, by omega, by go_num, by rw [Hnx.out, show u ++ (47 :: t) = (u ++ [47]) ++ t from by simp, ← mk_append, ← mk_append]⟩
            case measure => simp [intOf]; omega
          · obtain rfl : j = k := by omega
            have hfull : ts.take j = ts := List.take_of_length_le (by have := HT.out.1; omega)
            have h13 := joinL_len ts Hal.out
            have hlen := HT.out.1
            rw [hfull]
            obtain ⟨u, eu⟩ : ∃ u, joinL ts = u := ⟨_, rfl⟩
            rw [eu] at h13
            rw [eu]
            have s2 : u.length ≤ 52 := by omega
            have Eu := Lib.hid eu
            have Hlen := Lib.hid hlen
            clear hfull h13 eu hlen
            by_cases hu : u = []
            · subst hu
              go_wp2_with fail
              go_ret2
              refine ⟨[47], 0, rfl, ?_, Hbel.out⟩
              rw [← HR.out, if_neg (by rw [Hal.out]; simp), if_neg (by rw [Hlen.out]; omega), if_neg (by rw [Eu.out]; simp), if_pos Eu.out]
            · have q0 : u.isEmpty = false := by cases u with | nil => exact absurd rfl hu | cons a l => rfl
              go_wp2_with fail
              go_ret2
              refine ⟨u, 0, rfl, ?_, Hbel.out⟩
              rw [← HR.out, if_neg (by rw [Hal.out]; simp), if_neg (by rw [Hlen.out]; omega), if_neg (by rw [Eu.out]; omega), if_neg (by rw [Eu.out]; exact hu), Eu.out]
end Go.Proofs.Ytihkjpfibogpdab
