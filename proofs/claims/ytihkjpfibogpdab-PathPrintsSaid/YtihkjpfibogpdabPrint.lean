/- path.Print and the reference's, each by its contract. -/
import Derived.Test.YtihkjpfibogpdabTexts
namespace Go.Proofs.Ytihkjpfibogpdab
open Go.RowKit
set_option linter.unusedVariables false
set_option maxHeartbeats 400000 in
theorem check_max (s : ByteArray) (w : World) (hs : s.size ≤ maxLen) :
    Calls Try.prog 31 #[.string s] w fun e w' => e = .returned (.int .i64 ((checkL s.data.toList : Nat) : Int)) ∧ Below w.heap.size w w' := by
  by_cases hlong : 12 < s.size
  · have hsz : s.data.toList.length = s.size := rfl
    rw [checkL_long (by omega)]
    clear hsz
    unfold maxLen at hs
    go_enter Try.func31, Try.ntmps31
    go_wp2_with fail
    go_ret
    exact ⟨rfl, Below.refl _ _⟩
  · exact check_any s w (by omega)
set_option maxHeartbeats 400000 in
theorem refcheck_max (s : ByteArray) (w : World) (hs : s.size ≤ maxLen) :
    Calls Try.prog 32 #[.string s] w fun e w' => e = .returned (.int .i64 ((checkL s.data.toList : Nat) : Int)) ∧ w = w' := by
  by_cases hlong : 12 < s.size
  · have hsz : s.data.toList.length = s.size := rfl
    rw [checkL_long (by omega)]
    clear hsz
    unfold maxLen at hs
    go_enter Try.func32, Try.ntmps32
    go_wp2_with fail
    go_ret
    exact ⟨rfl, rfl⟩
  · exact refcheck_any s w (by omega)
set_option maxHeartbeats 400000 in
theorem may_max (s : ByteArray) (b : Bool) (w : World) (hs : s.size ≤ maxLen) (h : mayL s.data.toList = b) :
    Calls Try.prog 33 #[.string s] w fun e w' => e = .returned (.bool b) ∧ Below w.heap.size w w' := by
  subst h
  go_enter Try.func33, Try.ntmps33
  go_wp2_with fail
  refine (check_max s _ hs).mono ?_
  rintro e w1 ⟨rfl, hb⟩
  go_wp2
  go_ret
  refine ⟨Cv.ret_bool ?_, hb⟩
  unfold mayL
  rw [Bool.eq_iff_iff, beq_iff_eq, beq_iff_eq]
  omega
/-- Names put behind strokes. -/
def joinL (ts : List (List UInt8)) : List UInt8 := (ts.map fun t => 47 :: t).flatten
def printL (ts : List (List UInt8)) : List UInt8 × Nat :=
  if ts.all mayL = false then ([], 1100) else if 4 < ts.length then ([], 1102) else if 64 < (joinL ts).length then ([], 1101) else if joinL ts = [] then ([47], 0) else (joinL ts, 0)
theorem joinL_next (ts : List (List UInt8)) (k : Nat) (h : k < ts.length) : joinL (ts.take (k + 1)) = joinL (ts.take k) ++ 47 :: ts.getD k [] := by
  have e : ts.getD k [] = ts[k] := by simp [h]
  unfold joinL
  rw [e, List.take_succ_eq_append_getElem h, List.map_append, List.flatten_append]
  simp
theorem mayL_len {t : List UInt8} (h : mayL t = true) : t.length ≤ 12 := by
  unfold mayL checkL at h
  rw [beq_iff_eq] at h
  split at h
  · omega
  · omega
theorem all_next {ts : List (List UInt8)} {k : Nat} (h : k < ts.length) (ha : (ts.take k).all mayL = true) (hb : mayL (ts.getD k []) = true) : (ts.take (k + 1)).all mayL = true := by
  have e : ts.getD k [] = ts[k] := by simp [h]
  rw [e] at hb
  rw [List.take_succ_eq_append_getElem h]
  rw [List.all_append, ha]
  simp [hb]
theorem all_not {ts : List (List UInt8)} {k : Nat} (h : k < ts.length) (hb : mayL (ts.getD k []) = false) : ts.all mayL = false := by
  have e : ts.getD k [] = ts[k] := by simp [h]
  rw [e] at hb
  rw [List.all_eq_false]
  exact ⟨ts[k], List.getElem_mem h, by rw [hb]; simp⟩
theorem all_len {ts : List (List UInt8)} {k : Nat} (h : k < ts.length) (ha : ts.all mayL = true) : (ts.getD k []).length ≤ 12 := by
  have e : ts.getD k [] = ts[k] := by simp [h]
  rw [e]
  exact mayL_len (List.all_eq_true.1 ha _ (List.getElem_mem h))
theorem joinL_len : ∀ ts : List (List UInt8), ts.all mayL = true → (joinL ts).length ≤ 13 * ts.length
  | [], _ => by simp [joinL]
  | t :: ts, h => by
    have h' : mayL t = true ∧ ts.all mayL = true := by simpa using h
    have := joinL_len ts h'.2
    have := mayL_len h'.1
    have e : joinL (t :: ts) = (47 :: t) ++ joinL ts := by simp [joinL]
    rw [e]
    simp
    omega
theorem take_all {ts : List (List UInt8)} {k : Nat} (h : ts.all mayL = true) : (ts.take k).all mayL = true := by
  rw [List.all_eq_true] at *
  exact fun x hx => h x (List.mem_of_mem_take hx)
theorem mk_append (a b : List UInt8) : (⟨a.toArray⟩ : ByteArray) ++ ⟨b.toArray⟩ = ⟨(a ++ b).toArray⟩ := by
  apply ByteArray.ext
  apply Array.ext'
  simp
theorem mk_size (a : List UInt8) : (ByteArray.mk a.toArray).size = a.length := List.size_toArray
set_option maxRecDepth 100000 in
set_option maxHeartbeats 2000000 in
theorem print_any (A : Option Addr) (n c : Nat) (ts : List (List UInt8)) (w : World) (ht : Texts w A n ts) (hn : n ≤ 9223372036854775806) (hl : ∀ t ∈ ts, t.length ≤ maxLen) :
    Calls Try.prog 24 #[.slice A n c] w fun e w' => ∃ (s : List UInt8) (m : Nat), e = .returned (.tuple #[.string ⟨s.toArray⟩, .int .i64 (m : Int)]) ∧ printL ts = (s, m) ∧ Below w.heap.size w w' := by
  obtain ⟨R, hR⟩ : ∃ R, printL ts = R := ⟨_, rfl⟩
  rw [hR]
  unfold printL at hR
  have HR := Lib.hid hR
  have HT := Lib.hid ht
  have HL := Lib.hid hl
  clear hR ht hl
  go_enter Try.func24, Try.ntmps24
  go_wp2_with fail
  go_loopw [6, 11] (fun _ i wr => ∃ k : Nat, k ≤ n ∧ i = .int .i64 k ∧ Below w.heap.size w wr ∧ (ts.take k).all mayL = true) (fun _ i _ => n - (intOf i).toNat)
  case atStart => exact ⟨0, by omega, rfl, Below.refl _ _, rfl⟩
  case round =>
    obtain ⟨k, hk, rfl, hbel, hall⟩ := hrel
    have Hbel := Lib.hid hbel
    have Hall := Lib.hid hall
    have htr := HT.out.below hbel
    have HTR := Lib.hid htr
    clear hbel hall htr
    by_cases hlt : k < n
    · obtain ⟨g, off, rfl, hg, hc⟩ := HTR.out.2 (by omega)
      have ck := hc k hlt
      obtain ⟨t, et⟩ : ∃ t, ts.getD k [] = t := ⟨_, rfl⟩
      rw [et] at ck
      unfold strV at ck
      have hkl : k < ts.length := by have := HT.out.1; omega
      have htl : t.length ≤ maxLen := by
        rw [← et]
        have e : ts.getD k [] = ts[k] := by simp [hkl]
        rw [e]
        exact HL.out _ (List.getElem_mem hkl)
      have Et := Lib.hid et
      have Htl := Lib.hid htl
      clear hc et htl
      by_cases hm : mayL t = true
      · have Hm := Lib.hid hm
        clear hm
        go_wp2_with fail
        refine (may_max _ true _ (by rw [mk_size]; exact Htl.out) Hm.out).mono ?_
        rintro e w1 ⟨rfl, hb1⟩
        go_wp2_with fail
        go_roundw
        case rel => exact ⟨k + 1, by omega, by go_num, Hbel.out.trans (hb1.mono Hbel.out.size), all_next hkl Hall.out (by rw [Et.out]; exact Hm.out)⟩
        case measure => simp [intOf]; omega
      · have hm' : mayL t = false := by simpa using hm
        have Hm := Lib.hid hm'
        clear hm hm'
        go_wp2_with fail
        refine (may_max _ false _ (by rw [mk_size]; exact Htl.out) Hm.out).mono ?_
        rintro e w1 ⟨rfl, hb1⟩
        go_wp2_with fail
        go_ret2
        refine ⟨[], 1100, rfl, ?_, Hbel.out.trans (hb1.mono Hbel.out.size)⟩
        rw [← HR.out, if_pos (all_not hkl (by rw [Et.out]; exact Hm.out))]
    · obtain rfl : k = n := by omega
      have hal : ts.all mayL = true := by
        have := Hall.out
        rwa [List.take_of_length_le (by have := HT.out.1; omega)] at this
      have Hal := Lib.hid hal
      clear hal
      by_cases hdeep : 4 < k
      · go_wp2_with fail
        go_ret2
        refine ⟨[], 1102, rfl, ?_, Hbel.out⟩
        rw [← HR.out, if_neg (by rw [Hal.out]; simp), if_pos (by have := HT.out.1; omega)]
      · go_wp2_with fail
        go_loop [4, 8, 24] (fun s _ i => ∃ j : Nat, j ≤ k ∧ i = .int .i64 j ∧ s = .string ⟨(joinL (ts.take j)).toArray⟩) (fun _ _ i => k - (intOf i).toNat)
        case atStart => exact ⟨0, by omega, rfl, rfl⟩
        case round =>
          obtain ⟨j, hj, rfl, rfl⟩ := hrel
          by_cases hjk : j < k
          · obtain ⟨g, off, rfl, hg, hc⟩ := HTR.out.2 (by omega)
            have ck := hc j hjk
            have hkl : j < ts.length := by have := HT.out.1; omega
            have hnx := joinL_next ts j hkl
            have h12 := all_len hkl Hal.out
            have h13 := joinL_len (ts.take j) (take_all Hal.out)
            rw [List.length_take] at h13
            obtain ⟨t, et⟩ : ∃ t, ts.getD j [] = t := ⟨_, rfl⟩
            obtain ⟨u, eu⟩ : ∃ u, joinL (ts.take j) = u := ⟨_, rfl⟩
            rw [et] at ck hnx h12
            rw [eu] at hnx h13
            rw [eu]
            unfold strV at ck
            have s1 : t.length ≤ 12 := h12
            have s2 : u.length ≤ 52 := by omega
            have Hnx := Lib.hid hnx
            clear hc et eu hnx h12 h13
            go_wp2_with fail
            go_round
            case rel => exact ⟨j + 1, by omega, by go_num, by rw [Hnx.out, show (47 :: t) = [47] ++ t from rfl, ← mk_append, ← mk_append]⟩
            case measure => simp [intOf]; omega
          · obtain rfl : j = k := by omega
            have hfull : ts.take j = ts := List.take_of_length_le (by have := HT.out.1; omega)
            have h13 := joinL_len ts Hal.out
            have hlen := HT.out.1
            rw [hfull]
            obtain ⟨u, eu⟩ : ∃ u, joinL ts = u := ⟨_, rfl⟩
            rw [eu] at h13
            rw [eu]
            have s2 : u.length ≤ 52 := by omega
            have Eu := Lib.hid eu
            have Hlen := Lib.hid hlen
            clear hfull h13 eu hlen
            by_cases hu : u = []
            · subst hu
              go_wp2_with fail
              go_ret2
              refine ⟨[47], 0, rfl, ?_, Hbel.out⟩
              rw [← HR.out, if_neg (by rw [Hal.out]; simp), if_neg (by rw [Hlen.out]; omega), if_neg (by rw [Eu.out]; simp), if_pos Eu.out]
            · have q0 : u.isEmpty = false := by cases u with | nil => exact absurd rfl hu | cons a l => rfl
              go_wp2_with fail
              go_ret2
              refine ⟨u, 0, rfl, ?_, Hbel.out⟩
              rw [← HR.out, if_neg (by rw [Hal.out]; simp), if_neg (by rw [Hlen.out]; omega), if_neg (by rw [Eu.out]; omega), if_neg (by rw [Eu.out]; exact hu), Eu.out]
end Go.Proofs.Ytihkjpfibogpdab
