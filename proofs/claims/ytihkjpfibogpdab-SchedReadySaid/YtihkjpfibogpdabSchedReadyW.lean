/- The walk of the law SchedReady. -/
import Derived.Test.YtihkjpfibogpdabAwake3
import Derived.Test.YtihkjpfibogpdabOpenVals
namespace Go.Proofs.Ytihkjpfibogpdab.Ready
open Go.RowKit
set_option linter.unusedVariables false
theorem truesFrom_mem : ∀ (bs : List Bool) (k : Nat) (x : Nat), x ∈ truesFrom k bs → k ≤ x ∧ x < k + bs.length ∧ bs.getD (x - k) false = true
  | [], k, x, h => by cases h
  | b :: bs, k, x, h => by
    have ih := truesFrom_mem bs (k + 1) x
    have step : x ∈ truesFrom (k + 1) bs → k ≤ x ∧ x < k + (b :: bs).length ∧ (b :: bs).getD (x - k) false = true := fun hx => by
      obtain ⟨h1, h2, h3⟩ := ih hx
      refine ⟨by omega, by simp; omega, ?_⟩
      have e : x - k = (x - (k + 1)) + 1 := by omega
      rw [e]
      exact h3
    cases b with
    | false => exact step (by simpa [truesFrom] using h)
    | true =>
      simp [truesFrom] at h
      rcases h with rfl | h
      · exact ⟨Nat.le_refl _, by simp, by simp⟩
      · exact step h
theorem truesFrom_sorted : ∀ (bs : List Bool) (k : Nat), (truesFrom k bs).Pairwise (· < ·)
  | [], k => List.Pairwise.nil
  | b :: bs, k => by
    have ih := truesFrom_sorted bs (k + 1)
    cases b with
    | false => exact ih
    | true =>
      refine List.Pairwise.cons ?_ ih
      intro x hx
      have := truesFrom_mem bs (k + 1) x hx
      omega
theorem trues_get (bs : List Bool) (q : Nat) (h : q < (trues bs).length) : (trues bs).getD q 0 < bs.length ∧ bs.getD ((trues bs).getD q 0) false = true := by
  have e : (trues bs).getD q 0 = (trues bs)[q] := by simp [h]
  have hm := truesFrom_mem bs 0 _ (List.getElem_mem h)
  rw [e]
  exact ⟨by have := hm.2.1; simpa using this, by have := hm.2.2; simpa using this⟩
theorem trues_rise (bs : List Bool) (q : Nat) (h : q + 1 < (trues bs).length) : (trues bs).getD q 0 < (trues bs).getD (q + 1) 0 := by
  have e1 : (trues bs).getD q 0 = (trues bs)[q] := by simp [show q < (trues bs).length by omega]
  have e2 : (trues bs).getD (q + 1) 0 = (trues bs)[q + 1] := by simp [h]
  rw [e1, e2]
  exact List.pairwise_iff_getElem.1 (truesFrom_sorted bs 0) q (q + 1) (by unfold trues at h; omega) h (by omega)
/-- What was picked last. -/
def lastT (bs : List Bool) : Nat → Int
  | 0 => -1
  | k + 1 => ((trues bs).getD k 0 : Nat)
theorem lastT_lt (bs : List Bool) (k : Nat) (h : k < (trues bs).length) : lastT bs k < ((trues bs).getD k 0 : Nat) := by
  cases k with
  | zero => simp only [lastT]; omega
  | succ q => simp only [lastT]; have := trues_rise bs q h; omega
theorem picks_eq (bs : List Bool) (m : Nat) (h : (trues bs).length = m) : picks bs = decide (0 < m) := by
  unfold picks
  cases e : trues bs with
  | nil => rw [e] at h; subst h; rfl
  | cons a l => rw [e] at h; subst h; simp
theorem pick_nat (bs : List Bool) (k : Nat) (h : k < (trues bs).length) (hb : bs.length ≤ 9223372036854775806) : pickV bs k = ((trues bs).getD k 0 : Nat) := by
  have hl := trues_len bs
  have hp : picks bs = true := by rw [picks_eq bs _ rfl]; simp; omega
  have hw : IntKind.u64.wrap (k : Int) = (k : Int) := by rw [IntKind.wrap_u64]; omega
  unfold pickV pickAt
  rw [if_pos hp, hw, Int.toNat_natCast, Nat.mod_eq_of_lt h]
theorem pick_in (bs : List Bool) (p : Int) (h : picks bs = true) : ∃ x : Nat, pickV bs p = (x : Int) ∧ x < bs.length ∧ bs.getD x false = true := by
  have h0 : 0 < (trues bs).length := by
    rw [picks_eq bs _ rfl] at h
    simpa using h
  have := trues_get bs ((IntKind.u64.wrap p).toNat % (trues bs).length) (Nat.mod_lt _ h0)
  refine ⟨_, ?_, this.1, this.2⟩
  unfold pickV pickAt
  rw [if_pos h]
set_option maxRecDepth 100000 in
set_option maxHeartbeats 2000000 in
theorem walk (W : World) (A : Option Addr) (n c : Nat) (bs : List Bool) (h : Reads W A n (bs.map Value.bool)) (hn : n * 1 ≤ 140737488351232) (p : Int) (hp : (Lit.int .i64 p).wf = true) :
    Calls Try.prog 5 #[.slice A n c, .int .i64 p] W fun e w' => e = .returned (.bool true) ∧ Below W.heap.size W w' := by
  have hlen : bs.length = n := by simpa using h.1
  have HH := Lib.hid h
  have HL := Lib.hid hlen
  clear h hlen hp
  go_enter Try.func5, Try.ntmps5
  go_wp2_with fail
  refine (awake3 _).mono ?_
  rintro e w1 ⟨rfl, hb1⟩
  have h1 := HH.out.below hb1
  have H1 := Lib.hid h1
  clear h1
  go_wp2_with fail
  go_loop [5, 6] (fun m i => ∃ k : Nat, k ≤ n ∧ i = .int .i64 k ∧ m = .int .i64 ((trues (bs.take k)).length : Nat)) (fun _ i => n - (intOf i).toNat)
  case atStart => exact ⟨0, by omega, rfl, rfl⟩
  case round =>
    obtain ⟨k, hk, rfl, rfl⟩ := hrel
    have hml := trues_len (bs.take k)
    rw [List.length_take] at hml
    obtain ⟨m, hm⟩ : ∃ m, (trues (bs.take k)).length = m := ⟨_, rfl⟩
    rw [hm] at hml
    rw [hm]
    have hmn : m ≤ k := by omega
    have HM := Lib.hid hm
    clear hm hml
    by_cases hlt : k < n
    · obtain ⟨g, off, rfl, hg, hc⟩ := H1.out.2 (by omega)
      have hkb : k < bs.length := by rw [HL.out]; exact hlt
      have ck := hc k hlt
      rw [List.getElem?_map, List.getElem?_eq_getElem hkb] at ck
      obtain ⟨b, hb⟩ : ∃ b, bs[k] = b := ⟨_, rfl⟩
      rw [hb] at ck
      simp only [Option.map_some] at ck
      have hnx := trues_next bs k hkb
      have hgd : bs.getD k false = b := by simp [hkb, hb]
      rw [hgd] at hnx
      have HN := Lib.hid hnx
      clear hc hb hnx hgd
      cases b with
      | true =>
        go_wp2_with fail
        go_round
        case rel => exact ⟨k + 1, by omega, by go_num, by rw [HN.out]; simp; have := HM.out; omega⟩
        case measure => simp [intOf]; omega
      | false =>
        go_wp2_with fail
        go_round
        case rel => exact ⟨k + 1, by omega, by go_num, by rw [HN.out]; simp; have := HM.out; omega⟩
        case measure => simp [intOf]; omega
    · obtain rfl : k = n := by omega
      have hfull : bs.take k = bs := List.take_of_length_le (by rw [HL.out]; exact Nat.le_refl _)
      rw [hfull] at HM
      clear hfull
      go_wp2_with fail
      refine (pick_any A k c bs p w1 H1.out (by omega)).mono ?_
      rintro e w2 ⟨rfl, rfl⟩
      by_cases hm0 : m = 0
      · have hpf : picks bs = false := by rw [picks_eq bs m HM.out, hm0]; rfl
        rw [hpf]
        obtain ⟨x, hx⟩ : ∃ x, pickV bs p = x := ⟨_, rfl⟩
        rw [hx]
        have qm : decide ((0 : Int) < (m : Int)) = false := by simp [hm0]
        clear hpf hx
        go_wp2_with fail
        go_loopw [9, 10, 11, 12] (fun l i _ _ wr => wr = w1 ∧ ∃ q : Nat, q ≤ m ∧ i = .int .i64 q ∧ l = .int .i64 (lastT bs q)) (fun _ i _ _ _ => m - (intOf i).toNat)
        case atStart => exact ⟨rfl, 0, by omega, rfl, rfl⟩
        case round =>
          obtain ⟨rfl, q, hq, rfl, rfl⟩ := hrel
          obtain ⟨la, hla⟩ : ∃ la, lastT bs q = la := ⟨_, rfl⟩
          have HLA := Lib.hid hla
          rw [hla]
          clear hla
          by_cases hqm : q < m
          · exact absurd hqm (by omega)
          · go_wp2_with (go_at_call 17; refine (num3_any _ _).mono ?_; rintro e w' ⟨rfl, rfl⟩)
            go_ret
            exact ⟨rfl, hb1⟩
      · have hpt : picks bs = true := by rw [picks_eq bs m HM.out]; simp; omega
        obtain ⟨x, hx, hxn, hxt⟩ := pick_in bs p hpt
        rw [hpt, hx]
        have qm : decide ((0 : Int) < (m : Int)) = true := by rw [decide_eq_true_eq]; omega
        have hxk : x < k := by rw [← HL.out]; exact hxn
        obtain ⟨g, off, rfl, hg, hc⟩ := H1.out.2 (by omega)
        have ck := hc x hxk
        have hxv : (bs.map Value.bool)[x]? = some (.bool true) := by
          have e : bs.getD x false = bs[x] := by simp [hxn]
          rw [e] at hxt
          rw [List.getElem?_map, List.getElem?_eq_getElem hxn, hxt]
          rfl
        rw [hxv] at ck
        have q2 : decide ((x : Int) < 0) = false := by rw [decide_eq_false_iff_not]; omega
        have q3 : decide ((k : Int) ≤ (x : Int)) = false := by rw [decide_eq_false_iff_not]; omega
        have q4 : decide (k ≤ x) = false := by rw [decide_eq_false_iff_not]; omega
        clear hpt hx hxt hxn hc hxv
        go_wp2_with fail
        go_loopw [9, 10, 11, 12] (fun l i _ _ wr => wr = w1 ∧ ∃ q : Nat, q ≤ m ∧ i = .int .i64 q ∧ l = .int .i64 (lastT bs q)) (fun _ i _ _ _ => m - (intOf i).toNat)
        case atStart => exact ⟨rfl, 0, by omega, rfl, rfl⟩
        case round =>
          obtain ⟨rfl, q, hq, rfl, rfl⟩ := hrel
          obtain ⟨la, hla⟩ : ∃ la, lastT bs q = la := ⟨_, rfl⟩
          have HLA := Lib.hid hla
          rw [hla]
          clear hla
          by_cases hqm : q < m
          · go_wp2_with fail
            refine (pick_any _ k c bs (q : Int) _ H1.out (by omega)).mono ?_
            rintro e w3 ⟨rfl, rfl⟩
            have hpt : picks bs = true := by rw [picks_eq bs m HM.out]; simp; omega
            have hpv := pick_nat bs q (by rw [HM.out]; exact hqm) (by rw [HL.out]; omega)
            have hlt2 := lastT_lt bs q (by rw [HM.out]; exact hqm)
            rw [HLA.out] at hlt2
            obtain ⟨y, hy⟩ : ∃ y, (trues bs).getD q 0 = y := ⟨_, rfl⟩
            rw [hy] at hpv hlt2
            rw [hpt, hpv]
            have HY := Lib.hid hy
            clear hpt hpv hy
            go_wp2_with fail
            go_roundw
            case rel =>
              refine ⟨by trivial, q + 1, by omega, by go_num, ?_⟩
              show _ = Value.int .i64 ((((trues bs).getD q 0 : Nat)) : Int)
              rw [HY.out]
            case measure => simp [intOf]; omega
          · go_wp2_with (go_at_call 17; refine (num3_any _ _).mono ?_; rintro e w' ⟨rfl, rfl⟩)
            go_ret
            exact ⟨rfl, hb1⟩
end Go.Proofs.Ytihkjpfibogpdab.Ready
