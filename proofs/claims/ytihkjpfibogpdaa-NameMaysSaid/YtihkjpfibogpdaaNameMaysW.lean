/- The walk of the law NameMays. -/
import Derived.Test.YtihkjpfibogpdaaAwake8
import Derived.Test.YtihkjpfibogpdaaPlainName2
import Derived.Test.YtihkjpfibogpdaaConv
import Derived.Laws.MakeOwn
namespace Go.Proofs.Ytihkjpfibogpdaa.Mays
open Go.RowKit
set_option linter.unusedVariables false
theorem and_i64 (x : Int) (m : Nat) (hm : m < 9223372036854775808) : ∃ k : Nat, k ≤ m ∧ bits .and .i64 x (m : Int) = (k : Int) := by
  have e : (BitVec.ofInt 64 (m : Int)).toNat = m := by rw [BitVec.ofInt_natCast, BitVec.toNat_ofNat]; exact Nat.mod_eq_of_lt (by omega)
  refine ⟨(BitVec.ofInt 64 x &&& BitVec.ofInt 64 (m : Int)).toNat, ?_, ?_⟩
  · rw [BitVec.toNat_and, e]; exact Nat.and_le_right
  · show IntKind.i64.wrap ((BitVec.ofInt 64 x &&& BitVec.ofInt 64 (m : Int)).toNat : Int) = _
    have h : (BitVec.ofInt 64 x &&& BitVec.ofInt 64 (m : Int)).toNat ≤ m := by rw [BitVec.toNat_and, e]; exact Nat.and_le_right
    rw [IntKind.wrap_i64]
    omega
def qs (i k : Nat) : List UInt8 := List.replicate i 113 ++ List.replicate (k - i) 0
theorem qs_len (i k : Nat) (h : i ≤ k) : (qs i k).length = k := by simp [qs]; omega
theorem qs_set (i k : Nat) (h : i < k) : (qs i k).set i 113 = qs (i + 1) k := by
  unfold qs
  rw [List.set_append_right _ _ (by simp)]
  have e : k - i = (k - (i + 1)) + 1 := by omega
  rw [e, List.replicate_succ, show i - (List.replicate i (113 : UInt8)).length = 0 by simp, List.set_cons_zero, List.replicate_succ']
  simp
theorem qs_end (k : Nat) : qs k k = List.replicate k 113 := by simp [qs]
abbrev badByte (b : Nat) : Prop := b < 32 ∨ b = 127 ∨ b = 47
theorem runeBad_ascii (b : Nat) (h : b < 128) : runeBad (b, 1) = true ↔ badByte b := by
  rw [runeBad_iff]; unfold badByte badRune; simp; omega
theorem anyBad_set (k j : Nat) (hj : j < k) (b : UInt8) (hb : b.toNat < 128) : anyBad ((List.replicate k 113).set j b) = true ↔ badByte b.toNat := by
  have hasc : ∀ c ∈ (List.replicate k (113 : UInt8)).set j b, c.toNat < 128 := by
    intro c hc
    rcases List.mem_or_eq_of_mem_set hc with h | h
    · rw [List.eq_of_mem_replicate h]; decide
    · rw [h]; exact hb
  unfold anyBad
  rw [runes_ascii _ hasc, List.any_map, List.any_eq_true]
  constructor
  · rintro ⟨c, hc, hbad⟩
    rcases List.mem_or_eq_of_mem_set hc with h | h
    · rw [List.eq_of_mem_replicate h] at hbad; exact absurd hbad (by decide)
    · rw [h] at hbad; exact (runeBad_ascii _ hb).1 hbad
  · intro h
    refine ⟨b, ?_, (runeBad_ascii _ hb).2 h⟩
    exact List.mem_set (by simpa using hj) _
theorem checkL_set (k j : Nat) (hj : j < k) (b : UInt8) (hb : b.toNat < 128) :
    checkL ((List.replicate k 113).set j b) = if 12 < k then 801 else if badByte b.toNat ∨ (k = 1 ∧ b.toNat = 46) then 800 else 0 := by
  have hl : ((List.replicate k (113 : UInt8)).set j b).length = k := by simp
  have hd : (((List.replicate k (113 : UInt8)).set j b) = [] ∨ ((List.replicate k (113 : UInt8)).set j b) = [46] ∨ ((List.replicate k (113 : UInt8)).set j b) = [46, 46]) ↔ (k = 1 ∧ b.toNat = 46) := by
    constructor
    · rintro (h | h | h)
      · have := congrArg List.length h; simp at this; omega
      · have h1 := congrArg List.length h
        simp at h1
        subst h1
        have h0 : j = 0 := by omega
        subst h0
        simp [List.replicate] at h
        exact ⟨rfl, by rw [h]; rfl⟩
      · have h1 := congrArg List.length h
        simp at h1
        subst h1
        simp [List.replicate] at h
        match j, hj with
        | 0, _ => simp at h
        | 1, _ => simp at h
    · rintro ⟨rfl, h⟩
      have h0 : j = 0 := by omega
      subst h0
      have : b = 46 := UInt8.toNat_inj.1 h
      subst this
      exact Or.inr (Or.inl rfl)
  have ha := anyBad_set k j hj b hb
  unfold checkL
  rw [hl]
  by_cases c : 12 < k
  · rw [if_pos c, if_pos c]
  rw [if_neg c, if_neg c]
  by_cases d : k = 1 ∧ b.toNat = 46
  · rw [if_pos (hd.2 d), if_pos (.inr d)]
  rw [if_neg (fun e => d (hd.1 e))]
  by_cases e : badByte b.toNat
  · rw [if_pos (ha.2 e), if_pos (.inl e)]
  · rw [if_neg (fun h => e (ha.1 h)), if_neg (fun h => h.elim e d)]
theorem info8 : (Try.prog.info? 5).map (fun i => (i.zero, i.size, i.bytes)) = some (some (.int .u8 0), 1, 1) := by kernel_rfl
theorem made_at (n j : Nat) (h : j < n) : (madeCells (Value.int .u8 0).cells n)[j]? = some (.int .u8 0) := by
  simp [madeCells, Value.cells, h, Nat.mod_one]
theorem make_row (n : Nat) (hn : n ≤ 65536) (w : World) :
    ∃ W2, (Instr.makeSlice 28 (.int .i64 (n : Int)) (.int .i64 (n : Int))).run Try.prog w = .ok (.slice (some ⟨w.heap.size, 0, none⟩) n n) W2 ∧ Cv.ByteRow W2 w.heap.size (List.replicate n 0) ∧ Below w.heap.size w W2 := by
  obtain ⟨i0, hi, hz0, hz1, hz2⟩ := info_parts info8
  have hr := run_make (P := Try.prog) w 28 5 i0 (.int .u8 0) Try.underlying28 hi hz0 .i64 .i64 (n : Int) (n : Int) (by omega) (Int.le_refl _) (by rw [hz2]; omega) (by omega)
  simp only [Int.toNat_natCast, hz1, Nat.mul_one] at hr
  refine ⟨_, hr, ⟨by simp, fun j hj => ?_⟩, (Below.refl _ _).alloc (Nat.le_refl _) _⟩
  have hj' : j < n := by simpa using hj
  refine ⟨?_, ?_⟩
  · refine (World.cell?_alloc_mark w _ _ _ _).trans ?_
    rw [made_at n j hj']
    simp [hj']
  · refine (World.frozen?_alloc_mark w _ _ _ _ _).trans ?_
    simp
set_option maxHeartbeats 1000000 in
theorem walk (c : Int) (hc : (Lit.int .i64 c).wf = true) (m : Int) (hm : (Lit.int .i64 m).wf = true) (a : Int) (ha : (Lit.int .i64 a).wf = true) (w : World) :
    Calls Try.prog 11 #[.int .i64 c, .int .i64 m, .int .i64 a] w fun e w' => e = .returned (.bool true) ∧ Below w.heap.size w w' := by
  obtain ⟨b0, hb0, hbc⟩ := and_i64 c 127 (by omega)
  rw [show ((127 : Nat) : Int) = 127 from rfl] at hbc
  obtain ⟨k0, hk0, hkm⟩ := and_i64 m 15 (by omega)
  rw [show ((15 : Nat) : Int) = 15 from rfl] at hkm
  obtain ⟨b, hb⟩ : ∃ b : UInt8, b.toNat = b0 := ⟨UInt8.ofNat b0, by rw [UInt8.toNat_ofNat']; omega⟩
  obtain ⟨k, hk⟩ : ∃ k : Nat, k = k0 + 1 := ⟨_, rfl⟩
  rw [← hb] at hbc hb0
  have hk1 : (1 : Int) + (k0 : Int) = (k : Int) := by omega
  have hkr : 1 ≤ k ∧ k ≤ 16 := by omega
  obtain ⟨j, hj, hja⟩ := Cv.tmod_u64 a k (by omega)
  clear hb hk hk0
  go_enter Try.func11, Try.ntmps11
  go_wp2_with fail
  refine (awake8 _).mono ?_
  rintro e w1 ⟨rfl, hb1⟩
  obtain ⟨W2, hmk, hrow, hb2⟩ := make_row k (by omega) w1
  have Hrow := Lib.hid hrow
  clear hrow
  go_wp2_with fail
  go_loopw [10] (fun i wr => ∃ n : Nat, n ≤ k ∧ i = .int .i64 n ∧ Cv.ByteRow wr w1.heap.size (qs n k) ∧ Below w1.heap.size w1 wr) (fun i _ => k - (intOf i).toNat)
  case atStart => exact ⟨0, by omega, rfl, by have := Hrow.out; simpa [qs] using this, hb2⟩
  case round =>
    obtain ⟨n, hn, rfl, hr, hbel⟩ := hrel
    by_cases hlt : n < k
    · have hcell := (hr.2 n (by rw [qs_len n k hn]; exact hlt)).1
      have hfroz := (hr.2 n (by rw [qs_len n k hn]; exact hlt)).2
      have hnext := hr.set (by rw [qs_len n k hn]; exact hlt) 113
      rw [qs_set n k hlt] at hnext
      have Hr := Lib.hid hr
      have Hn := Lib.hid hnext
      have Hb := Lib.hid hbel
      clear hr hnext hbel
      go_wp2
      go_roundw
      case rel => exact ⟨n + 1, by omega, by go_num, Hn.out, Hb.out.setCell (Nat.le_refl _) _⟩
      case measure => simp [intOf]; omega
    · obtain rfl : n = k := by omega
      rw [qs_end] at hr
      have hjl : j < (List.replicate n (113 : UInt8)).length := by simpa using hj
      have hcell := (hr.2 j hjl).1
      have hfroz := (hr.2 j hjl).2
      have hrow3 := hr.set hjl b
      have hb3 := hbel.setCell (p := ⟨w1.heap.size, j, none⟩) (Nat.le_refl _) (.int .u8 (b.toNat : Int))
      obtain ⟨W3, hW3⟩ : ∃ W3, wr.setCell ⟨w1.heap.size, j, none⟩ (.int .u8 (b.toNat : Int)) = W3 := ⟨_, rfl⟩
      rw [hW3] at hrow3 hb3
      have Hb3 := Lib.hid hb3
      have Hrow3 := Lib.hid hrow3
      have hset := checkL_set n j hj b (by omega)
      have hll : ((List.replicate n (113 : UInt8)).set j b).length = n := by simp
      have hbk := Cv.back_of hrow3 n n hll
      have hsl : (ByteArray.mk ((List.replicate n (113 : UInt8)).set j b).toArray).size ≤ 140737488355328 := by
        have : (ByteArray.mk ((List.replicate n (113 : UInt8)).set j b).toArray).size = n := List.size_toArray.trans hll
        omega
      have hyes : (12 < n ∨ badByte b.toNat ∨ (n = 1 ∧ b.toNat = 46)) → mayL ((List.replicate n (113 : UInt8)).set j b) = false := by
        intro h
        unfold mayL
        rw [hset, beq_eq_false_iff_ne]
        by_cases c : 12 < n
        · rw [if_pos c]; omega
        · rw [if_neg c, if_pos (h.resolve_left c)]; omega
      have hno : ¬ (12 < n ∨ badByte b.toNat ∨ (n = 1 ∧ b.toNat = 46)) → mayL ((List.replicate n (113 : UInt8)).set j b) = true := by
        intro h
        unfold mayL
        rw [hset, beq_iff_eq, if_neg (fun c => h (Or.inl c)), if_neg (fun c => h (Or.inr c))]
      obtain ⟨E, hE⟩ : ∃ E, checkL ((List.replicate n (113 : UInt8)).set j b) = E := ⟨_, rfl⟩
      have q801 : (((E : Int) == 801) == decide ((12 : Int) < (n : Int))) = true := by
        rw [← hE, hset, beq_iff_eq, Bool.eq_iff_iff, beq_iff_eq, decide_eq_true_eq]
        by_cases c : 12 < n
        · rw [if_pos c]; omega
        · rw [if_neg c]; split <;> omega
      have HE := Lib.hid hE
      have HY := Lib.hid hyes
      have HN := Lib.hid hno
      clear hset hyes hno hE
      clear hr hbel hb3 hrow3 Hrow
      by_cases c1 : b.toNat < 32
      · have q32 : decide ((32 : Int) ≤ (b.toNat : Int)) = false := by simp; omega
        have hv := HY.out (by unfold badByte; omega)
        have HV := Lib.hid hv
        clear hv c1
        go_wp2_with fail
        refine (check_lit _ E hsl HE.out _).mono ?_
        rintro e w4 ⟨rfl, hb4⟩
        have hbk4 := Cv.back_of (Hrow3.out.below hb4 Hrow3.out.1) n n hll
        go_wp2_with fail
        refine (may_lit _ false hsl HV.out _).mono ?_
        rintro e w5 ⟨rfl, hb5⟩
        go_wp2_with (go_at_call 29; refine (numv_any _ _).mono ?_; rintro e w' ⟨rfl, rfl⟩)
        go_ret
        exact ⟨rfl, Cv.next (Cv.next (Cv.next hb1 Hb3.out) hb4) hb5⟩
      by_cases c2 : b.toNat = 127
      · have q32 : decide ((32 : Int) ≤ (b.toNat : Int)) = true := by simp; omega
        have q127a : ((b.toNat : Int) != 127) = false := by simp; omega
        have q127b : ((b.toNat : Int) == 127) = true := by simp; omega
        have hv := HY.out (by unfold badByte; omega)
        have HV := Lib.hid hv
        clear hv c2
        go_wp2_with fail
        refine (check_lit _ E hsl HE.out _).mono ?_
        rintro e w4 ⟨rfl, hb4⟩
        have hbk4 := Cv.back_of (Hrow3.out.below hb4 Hrow3.out.1) n n hll
        go_wp2_with fail
        refine (may_lit _ false hsl HV.out _).mono ?_
        rintro e w5 ⟨rfl, hb5⟩
        go_wp2_with (go_at_call 29; refine (numv_any _ _).mono ?_; rintro e w' ⟨rfl, rfl⟩)
        go_ret
        exact ⟨rfl, Cv.next (Cv.next (Cv.next hb1 Hb3.out) hb4) hb5⟩
      by_cases c3 : b.toNat = 47
      · have q32 : decide ((32 : Int) ≤ (b.toNat : Int)) = true := by simp; omega
        have q127a : ((b.toNat : Int) != 127) = true := by simp; omega
        have q127b : ((b.toNat : Int) == 127) = false := by simp; omega
        have q47a : ((b.toNat : Int) != 47) = false := by simp; omega
        have q47b : ((b.toNat : Int) == 47) = true := by simp; omega
        have hv := HY.out (by unfold badByte; omega)
        have HV := Lib.hid hv
        clear hv c3
        go_wp2_with fail
        refine (check_lit _ E hsl HE.out _).mono ?_
        rintro e w4 ⟨rfl, hb4⟩
        have hbk4 := Cv.back_of (Hrow3.out.below hb4 Hrow3.out.1) n n hll
        go_wp2_with fail
        refine (may_lit _ false hsl HV.out _).mono ?_
        rintro e w5 ⟨rfl, hb5⟩
        go_wp2_with (go_at_call 29; refine (numv_any _ _).mono ?_; rintro e w' ⟨rfl, rfl⟩)
        go_ret
        exact ⟨rfl, Cv.next (Cv.next (Cv.next hb1 Hb3.out) hb4) hb5⟩
      by_cases c4 : 12 < n
      · have q32 : decide ((32 : Int) ≤ (b.toNat : Int)) = true := by simp; omega
        have q127a : ((b.toNat : Int) != 127) = true := by simp; omega
        have q127b : ((b.toNat : Int) == 127) = false := by simp; omega
        have q47a : ((b.toNat : Int) != 47) = true := by simp; omega
        have q47b : ((b.toNat : Int) == 47) = false := by simp; omega
        have q12 : decide ((n : Int) ≤ 12) = false := by simp; omega
        have hv := HY.out (by unfold badByte; omega)
        have HV := Lib.hid hv
        clear hv c4
        go_wp2_with fail
        refine (check_lit _ E hsl HE.out _).mono ?_
        rintro e w4 ⟨rfl, hb4⟩
        have hbk4 := Cv.back_of (Hrow3.out.below hb4 Hrow3.out.1) n n hll
        go_wp2_with fail
        refine (may_lit _ false hsl HV.out _).mono ?_
        rintro e w5 ⟨rfl, hb5⟩
        go_wp2_with (go_at_call 29; refine (numv_any _ _).mono ?_; rintro e w' ⟨rfl, rfl⟩)
        go_ret
        exact ⟨rfl, Cv.next (Cv.next (Cv.next hb1 Hb3.out) hb4) hb5⟩
      by_cases c5 : n = 1 ∧ b.toNat = 46
      · have q32 : decide ((32 : Int) ≤ (b.toNat : Int)) = true := by simp; omega
        have q127a : ((b.toNat : Int) != 127) = true := by simp; omega
        have q127b : ((b.toNat : Int) == 127) = false := by simp; omega
        have q47a : ((b.toNat : Int) != 47) = true := by simp; omega
        have q47b : ((b.toNat : Int) == 47) = false := by simp; omega
        have q12 : decide ((n : Int) ≤ 12) = true := by simp; omega
        have q1 : ((n : Int) == 1) = true := by simp; omega
        have q46a : ((b.toNat : Int) != 46) = false := by simp; omega
        have q46b : ((b.toNat : Int) == 46) = true := by simp; omega
        have hv := HY.out (by unfold badByte; omega)
        have HV := Lib.hid hv
        clear hv c5
        go_wp2_with fail
        refine (check_lit _ E hsl HE.out _).mono ?_
        rintro e w4 ⟨rfl, hb4⟩
        have hbk4 := Cv.back_of (Hrow3.out.below hb4 Hrow3.out.1) n n hll
        go_wp2_with fail
        refine (may_lit _ false hsl HV.out _).mono ?_
        rintro e w5 ⟨rfl, hb5⟩
        go_wp2_with (go_at_call 29; refine (numv_any _ _).mono ?_; rintro e w' ⟨rfl, rfl⟩)
        go_ret
        exact ⟨rfl, Cv.next (Cv.next (Cv.next hb1 Hb3.out) hb4) hb5⟩
      by_cases c6 : n = 1
      · have q32 : decide ((32 : Int) ≤ (b.toNat : Int)) = true := by simp; omega
        have q127a : ((b.toNat : Int) != 127) = true := by simp; omega
        have q127b : ((b.toNat : Int) == 127) = false := by simp; omega
        have q47a : ((b.toNat : Int) != 47) = true := by simp; omega
        have q47b : ((b.toNat : Int) == 47) = false := by simp; omega
        have q12 : decide ((n : Int) ≤ 12) = true := by simp; omega
        have q1 : ((n : Int) == 1) = true := by simp; omega
        have q46a : ((b.toNat : Int) != 46) = true := by simp; omega
        have q46b : ((b.toNat : Int) == 46) = false := by simp; omega
        have hv := HN.out (by unfold badByte; omega)
        have HV := Lib.hid hv
        clear hv c6
        go_wp2_with fail
        refine (check_lit _ E hsl HE.out _).mono ?_
        rintro e w4 ⟨rfl, hb4⟩
        have hbk4 := Cv.back_of (Hrow3.out.below hb4 Hrow3.out.1) n n hll
        go_wp2_with fail
        refine (may_lit _ true hsl HV.out _).mono ?_
        rintro e w5 ⟨rfl, hb5⟩
        go_wp2_with (go_at_call 29; refine (numv_any _ _).mono ?_; rintro e w' ⟨rfl, rfl⟩)
        go_ret
        exact ⟨rfl, Cv.next (Cv.next (Cv.next hb1 Hb3.out) hb4) hb5⟩
      · have q32 : decide ((32 : Int) ≤ (b.toNat : Int)) = true := by simp; omega
        have q127a : ((b.toNat : Int) != 127) = true := by simp; omega
        have q127b : ((b.toNat : Int) == 127) = false := by simp; omega
        have q47a : ((b.toNat : Int) != 47) = true := by simp; omega
        have q47b : ((b.toNat : Int) == 47) = false := by simp; omega
        have q12 : decide ((n : Int) ≤ 12) = true := by simp; omega
        have q1 : ((n : Int) == 1) = false := by simp; omega
        have hv := HN.out (by unfold badByte; omega)
        have HV := Lib.hid hv
        clear hv
        go_wp2_with fail
        refine (check_lit _ E hsl HE.out _).mono ?_
        rintro e w4 ⟨rfl, hb4⟩
        have hbk4 := Cv.back_of (Hrow3.out.below hb4 Hrow3.out.1) n n hll
        go_wp2_with fail
        refine (may_lit _ true hsl HV.out _).mono ?_
        rintro e w5 ⟨rfl, hb5⟩
        go_wp2_with (go_at_call 29; refine (numv_any _ _).mono ?_; rintro e w' ⟨rfl, rfl⟩)
        go_ret
        exact ⟨rfl, Cv.next (Cv.next (Cv.next hb1 Hb3.out) hb4) hb5⟩
end Go.Proofs.Ytihkjpfibogpdaa.Mays
