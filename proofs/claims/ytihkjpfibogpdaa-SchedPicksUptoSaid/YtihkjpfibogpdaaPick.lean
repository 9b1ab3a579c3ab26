/- sched.Pick, by its contract. -/
import Derived.Test.YtihkjpfibogpdaaConv
namespace Go.Proofs.Ytihkjpfibogpdaa
open Go.RowKit
set_option linter.unusedVariables false
/-- A slice (its address, its length) that reads as a list of values. -/
def Reads (w : World) (A : Option Addr) (n : Nat) (vs : List Value) : Prop :=
  vs.length = n ∧ (0 < n → ∃ g off, A = some ⟨g, off, none⟩ ∧ g < w.heap.size ∧ ∀ j, j < n → w.cell? ⟨g, off + j, none⟩ = vs[j]?)
theorem Reads.below {w w' : World} {A : Option Addr} {n : Nat} {vs : List Value} (h : Reads w A n vs) (hb : Below w.heap.size w w') : Reads w' A n vs :=
  ⟨h.1, fun hn => by
    obtain ⟨g, off, hA, hg, hc⟩ := h.2 hn
    exact ⟨g, off, hA, Nat.lt_of_lt_of_le hg hb.size, fun j hj => (hb.cell (p := ⟨g, off + j, none⟩) hg).trans (hc j hj)⟩⟩
theorem Reads.drewN {w : World} {A : Option Addr} {n : Nat} {vs : List Value} (h : Reads w A n vs) (q : Nat) : Reads (w.drewN q) A n vs := h
/-- The places that are ready, rising. -/
def truesFrom : Nat → List Bool → List Nat
  | _, [] => []
  | k, b :: bs => if b then k :: truesFrom (k + 1) bs else truesFrom (k + 1) bs
def trues (bs : List Bool) : List Nat := truesFrom 0 bs
theorem truesFrom_append : ∀ (bs cs : List Bool) (k : Nat), truesFrom k (bs ++ cs) = truesFrom k bs ++ truesFrom (k + bs.length) cs
  | [], cs, k => by simp [truesFrom]
  | b :: bs, cs, k => by
    have := truesFrom_append bs cs (k + 1)
    have e : k + 1 + bs.length = k + (bs.length + 1) := by omega
    cases b <;> simp [truesFrom, this, e]
theorem trues_next (bs : List Bool) (k : Nat) (h : k < bs.length) : trues (bs.take (k + 1)) = trues (bs.take k) ++ (if bs.getD k false then [k] else []) := by
  have e : bs.getD k false = bs[k] := by simp [h]
  rw [List.take_succ_eq_append_getElem h]
  unfold trues
  rw [truesFrom_append, e, List.length_take, Nat.min_eq_left (by omega)]
  cases bs[k] <;> simp [truesFrom]
theorem truesFrom_len : ∀ (bs : List Bool) (k : Nat), (truesFrom k bs).length ≤ bs.length
  | [], k => by simp [truesFrom]
  | b :: bs, k => by
    have := truesFrom_len bs (k + 1)
    cases b <;> simp [truesFrom] <;> omega
theorem trues_len (bs : List Bool) : (trues bs).length ≤ bs.length := truesFrom_len bs 0
theorem trues_split (bs : List Bool) (k : Nat) : trues bs = trues (bs.take k) ++ truesFrom (bs.take k).length (bs.drop k) := by
  unfold trues
  conv => lhs; rw [← List.take_append_drop k bs]
  rw [truesFrom_append]
  simp
theorem trues_at (bs : List Bool) (k : Nat) (h : k < bs.length) (hb : bs.getD k false = true) : (trues bs).getD (trues (bs.take k)).length 0 = k := by
  have e : bs.getD k false = bs[k] := by simp [h]
  rw [e] at hb
  rw [trues_split bs k, List.drop_eq_getElem_cons h, hb]
  simp [truesFrom, List.getD_eq_getElem?_getD]
  omega
/-- Whose step it is. -/
def pickAt (bs : List Bool) (p : Int) : Int := ((trues bs).getD ((IntKind.u64.wrap p).toNat % (trues bs).length) 0 : Nat)
def picks (bs : List Bool) : Bool := !(trues bs).isEmpty
def pickV (bs : List Bool) (p : Int) : Int := if picks bs then pickAt bs p else 0
theorem retp {x y : Int} {b c : Bool} (h : x = y) (k : b = c) : Ending.returned (.tuple #[.int .i64 x, .bool b]) = .returned (.tuple #[.int .i64 y, .bool c]) := by rw [h, k]
set_option maxHeartbeats 1000000 in
theorem pick_any (A : Option Addr) (n c : Nat) (bs : List Bool) (p : Int) (w : World) (h : Reads w A n (bs.map Value.bool)) (hn : n ≤ 9223372036854775806) :
    Calls Try.prog 41 #[.slice A n c, .int .i64 p] w fun e w' => e = .returned (.tuple #[.int .i64 (pickV bs p), .bool (picks bs)]) ∧ w = w' := by
  obtain ⟨R, hR⟩ : ∃ R, pickV bs p = R := ⟨_, rfl⟩
  obtain ⟨S, hS⟩ : ∃ S, picks bs = S := ⟨_, rfl⟩
  rw [hR, hS]
  have hlen : bs.length = n := by simpa using h.1
  have HR := Lib.hid hR
  have HS := Lib.hid hS
  have HH := Lib.hid h
  have HL := Lib.hid hlen
  clear hR hS h hlen
  go_enter Try.func41, Try.ntmps41
  go_wp2_with fail
  go_loop [6, 8, 14] (fun m _ i => ∃ k : Nat, k ≤ n ∧ i = .int .i64 k ∧ m = .int .i64 ((trues (bs.take k)).length : Nat)) (fun _ _ i => n - (intOf i).toNat)
  case atStart => exact ⟨0, by omega, rfl, rfl⟩
  case round =>
    obtain ⟨k, hk, rfl, rfl⟩ := hrel
    have hml := trues_len (bs.take k)
    rw [List.length_take] at hml
    obtain ⟨m, hm⟩ : ∃ m, (trues (bs.take k)).length = m := ⟨_, rfl⟩
    rw [hm] at hml
    rw [hm]
    have hmn : m ≤ k := by omega
    have HM := Lib.hid hm
    clear hm hml
    by_cases hlt : k < n
    · obtain ⟨g, off, rfl, hg, hc⟩ := HH.out.2 (by omega)
      have hkb : k < bs.length := by rw [HL.out]; exact hlt
      have ck := hc k hlt
      rw [List.getElem?_map, List.getElem?_eq_getElem hkb] at ck
      obtain ⟨b, hb⟩ : ∃ b, bs[k] = b := ⟨_, rfl⟩
      rw [hb] at ck
      simp only [Option.map_some] at ck
      have hnx := trues_next bs k hkb
      have hgd : bs.getD k false = b := by simp [hkb, hb]
      rw [hgd] at hnx
      have HN := Lib.hid hnx
      clear hc hb hnx hgd
      cases b with
      | true =>
        go_wp2_with fail
        go_round
        case rel => exact ⟨k + 1, by omega, by go_num, by rw [HN.out]; simp; have := HM.out; omega⟩
        case measure => simp [intOf]; omega
      | false =>
        go_wp2_with fail
        go_round
        case rel => exact ⟨k + 1, by omega, by go_num, by rw [HN.out]; simp; have := HM.out; omega⟩
        case measure => simp [intOf]; omega
    · obtain rfl : k = n := by omega
      have hfull : bs.take k = bs := List.take_of_length_le (by rw [HL.out]; exact Nat.le_refl _)
      rw [hfull] at HM
      clear hfull
      by_cases h0 : m = 0
      · subst h0
        have hS0 : S = false := by
          rw [← HS.out]
          unfold picks
          rw [List.eq_nil_of_length_eq_zero HM.out]
          rfl
        have hR0 : R = 0 := by
          rw [← HR.out]
          unfold pickV
          rw [HS.out, hS0]
          rfl
        subst hS0 hR0
        go_wp2_with fail
        go_ret2
        exact ⟨rfl, rfl⟩
      · have hS0 : S = true := by
          rw [← HS.out]
          unfold picks
          cases e : trues bs with
          | nil => rw [e] at HM; exact absurd HM.out (fun h => h0 (by simpa using h.symm))
          | cons a l => rfl
        subst hS0
        obtain ⟨q, hq⟩ : ∃ q : Nat, (IntKind.u64.wrap p).toNat % m = q := ⟨_, rfl⟩
        have hqm : q < m := by rw [← hq]; exact Nat.mod_lt _ (by omega)
        have hRq : R = (((trues bs).getD q 0 : Nat) : Int) := by
          rw [← HR.out]
          unfold pickV pickAt
          rw [HS.out, HM.out, hq]
          rfl
        have hpq : (IntKind.u64.wrap p).tmod (m : Int) = (q : Int) := by
          obtain ⟨y, _, hy⟩ := Cv.wrap_u64_any p
          rw [hy] at hq ⊢
          rw [← hq]
          simp only [Int.toNat_natCast]
          rfl
        have q0 : ((m : Int) == 0) = false := by rw [beq_eq_false_iff_ne]; omega
        have hm0 : 0 < m := by omega
        have HRq := Lib.hid hRq
        clear hq hRq h0
        go_wp2_with fail
        go_loop [9, 10, 11, 32] (fun x _ _ i => ∃ (j r : Nat), j ≤ k ∧ i = .int .i64 j ∧ x = .int .i64 r ∧ r + (trues (bs.take j)).length = q) (fun _ _ _ i => k - (intOf i).toNat)
        case atStart => exact ⟨0, q, by omega, rfl, rfl, rfl⟩
        case round =>
          obtain ⟨j, r, hj, rfl, rfl, hrq⟩ := hrel
          have hrle : r ≤ q := by omega
          have HRQ := Lib.hid hrq
          clear hrq
          by_cases hjk : j < k
          · obtain ⟨g, off, rfl, hg, hc⟩ := HH.out.2 (by omega)
            have hkb : j < bs.length := by rw [HL.out]; exact hjk
            have ck := hc j hjk
            rw [List.getElem?_map, List.getElem?_eq_getElem hkb] at ck
            obtain ⟨b, hb⟩ : ∃ b, bs[j] = b := ⟨_, rfl⟩
            rw [hb] at ck
            simp only [Option.map_some] at ck
            have hnx := trues_next bs j hkb
            have hat := trues_at bs j hkb
            have hgd : bs.getD j false = b := by simp [hkb, hb]
            rw [hgd] at hnx hat
            have HN := Lib.hid hnx
            have HAT := Lib.hid hat
            clear hc hb hnx hgd hat
            cases b with
            | true =>
              by_cases r0 : r = 0
              · subst r0
                go_wp2_with fail
                go_ret2
                refine ⟨retp ?_ rfl, rfl⟩
                have h1 := HAT.out (by trivial)
                have h2 := HRQ.out
                rw [Nat.zero_add] at h2
                rw [h2] at h1
                rw [HRq.out, h1]
              · have qr : ((r : Int) == 0) = false := by rw [beq_eq_false_iff_ne]; omega
                go_wp2_with fail
                go_round
                case rel => exact ⟨j + 1, r - 1, by omega, by go_num, Cv.val_int (by omega), by rw [HN.out]; simp; have := HRQ.out; omega⟩
                case measure => simp [intOf]; omega
            | false =>
              go_wp2_with fail
              go_round
              case rel => exact ⟨j + 1, r, by omega, by go_num, rfl, by rw [HN.out]; simp; have := HRQ.out; omega⟩
              case measure => simp [intOf]; omega
          · exfalso
            have h1 := HRQ.out
            have h2 : bs.take j = bs := List.take_of_length_le (by rw [HL.out]; omega)
            rw [h2, HM.out] at h1
            omega
end Go.Proofs.Ytihkjpfibogpdaa
