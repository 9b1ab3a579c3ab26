/- journal.Journal.find, by its contract. -/
import Derived.Test.YtbflennacniacaaJoLook
namespace Go.Proofs.Ytbflennacniacaa
open Go.RowKit
set_option linter.unusedVariables false
/-- Whether a turn is later than another. -/
def newer (t u : Nat) : Bool := decide (0 < wrap64 (IntKind.u64.wrap ((t : Int) - (u : Int))))
def seenN (M : PM) : Nat → Nat := fun i => (M.seen i).toNat
def JD.found (J : JD) (k t : Nat) (s : List UInt8) : JD := { J with area := k, turn := t, text := ⟨s.toArray⟩ }
def findN (x : Option (Nat × List UInt8)) (p : JD × Bool) (k : Nat) : JD × Bool :=
  match x with
  | none => p
  | some (t, s) => if !p.2 || newer t p.1.turn then (p.1.found k t s, true) else p
/-- The areas ahead of the k-th were looked at. -/
def findS (f : Nat → Nat) (J : JD) : Nat → JD × Bool
  | 0 => (J, false)
  | k + 1 => findN (lookP f (baseN J k) (halfN J.words)) (findS f J k) k
theorem findN_keeps (x : Option (Nat × List UInt8)) (p : JD × Bool) (k : Nat) : (findN x p k).1.start = p.1.start ∧ (findN x p k).1.words = p.1.words := by
  unfold findN
  split
  · exact ⟨rfl, rfl⟩
  · split
    · exact ⟨rfl, rfl⟩
    · exact ⟨rfl, rfl⟩
theorem findS_keeps (f : Nat → Nat) (J : JD) (k : Nat) : (findS f J k).1.start = J.start ∧ (findS f J k).1.words = J.words := by
  induction k with
  | zero => exact ⟨rfl, rfl⟩
  | succ k ih =>
    have h := findN_keeps (lookP f (baseN J k) (halfN J.words)) (findS f J k) k
    exact ⟨h.1.trans ih.1, h.2.trans ih.2⟩
theorem assert_area (v : Value) (w : World) : (Instr.typeAssert (.iface 97 v) 20 97 true).run Try.prog w = .ok (.tuple #[v, .bool true]) w := by kernel_rfl
theorem assert_none (w : World) : (Instr.typeAssert (.iface 105 (.agg #[])) 20 97 true).run Try.prog w = .ok (.tuple #[.agg #[.int .u64 0, .string ByteArray.empty], .bool false]) w := by kernel_rfl
structure JFit (J : JD) (M : PM) : Prop where
  words : 64 ≤ J.words ∧ J.words ≤ 8192
  start : J.start ≤ 65536
  room : ∀ k, k ≤ 1 → baseN J k + halfN J.words ≤ M.n * 8
theorem look_fit (w0 wz w : World) (Z : Nat → Prop) (j a : Nat) (J J0 : JD) (M : PM) (k : Nat) (h : Jour w0 wz w Z j a J M) (hk : k ≤ 1) (hs : J.start = J0.start ∧ J.words = J0.words) (hfit : JFit J0 M) (hf : Words M.seen) :
    Calls Try.prog 62 #[.pointer (some ⟨j, 0, .none⟩), .int .i64 k] w fun e w' => e = .returned (lookV (lookP (seenN M) (baseN J0 k) (halfN J0.words))) ∧ Below w.heap.size w w' := by
  have hb : baseN J k = baseN J0 k := by unfold baseN; rw [hs.1, hs.2]
  rw [← hb, ← hs.2]
  exact look_any w0 wz w Z j a J M k h hk (by rw [hs.2]; exact hfit.words) (by rw [hs.1]; exact hfit.start) (by rw [hb, hs.2]; exact hfit.room k hk) hf
theorem Jour.setFound {w0 wz w : World} {Z : Nat → Prop} {j a : Nat} {J : JD} {M : PM} (h : Jour w0 wz w Z j a J M) (k t : Nat) (s : List UInt8) :
    Jour w0 wz (((w.setCell ⟨j, 3, .none⟩ (.int .i64 (k : Nat))).setCell ⟨j, 4, .none⟩ (.int .u64 (t : Nat))).setCell ⟨j, 5, .none⟩ (.string ⟨s.toArray⟩)) Z j a (J.found k t s) M := by
  have h1 := h.setJ (J' := { J with area := k }) 3 (.int .i64 (k : Nat)) rfl
  have h2 := h1.setJ (J' := { J with area := k, turn := t }) 4 (.int .u64 (t : Nat)) rfl
  exact h2.setJ (J' := J.found k t s) 5 (.string ⟨s.toArray⟩) rfl
set_option maxRecDepth 100000 in
set_option maxHeartbeats 4000000 in
theorem find_any (w0 wz w : World) (Z : Nat → Prop) (j a : Nat) (J : JD) (M : PM) (h : Jour w0 wz w Z j a J M) (hfit : JFit J M) (hf : Words M.seen) :
    Calls Try.prog 55 #[.pointer (some ⟨j, 0, .none⟩)] w fun e w' => e = .returned (.bool (findS (seenN M) J 2).2) ∧ Jour w0 wz w' Z j a (findS (seenN M) J 2).1 M := by
  have HJ := Lib.hid h
  clear h
  go_enter Try.func55, Try.ntmps55
  go_wp2_with fail
  go_loopw [3, 7] (fun b i wr => ∃ k : Nat, k ≤ 2 ∧ i = .int .i64 k ∧ b = .bool (findS (seenN M) J k).2 ∧ Jour w0 wz wr Z j a (findS (seenN M) J k).1 M) (fun _ i _ => 2 - (intOf i).toNat)
  case atStart => exact ⟨0, by omega, rfl, rfl, HJ.out⟩
  case round =>
    obtain ⟨k, hk, rfl, rfl, hj⟩ := hrel
    have hkeep := findS_keeps (seenN M) J k
    obtain ⟨p, hp⟩ : ∃ p, findS (seenN M) J k = p := ⟨_, rfl⟩
    have hnext : findS (seenN M) J (k + 1) = findN (lookP (seenN M) (baseN J k) (halfN J.words)) p k := by rw [← hp]; rfl
    rw [hp] at hkeep hj
    rw [hp]
    obtain ⟨J1, b1⟩ := p
    by_cases hlt : k < 2
    · have q1 : decide ((k : Int) < 2) = true := by simp; omega
      obtain ⟨x, hx⟩ : ∃ x, lookP (seenN M) (baseN J k) (halfN J.words) = x := ⟨_, rfl⟩
      have hlook := look_fit w0 wz wr Z j a J1 J M k hj (by omega) hkeep hfit hf
      rw [hx] at hlook hnext
      have HL := Lib.hid hlook
      have HJ1 := Lib.hid hj
      have HNX := Lib.hid hnext
      clear hlook hj hnext hx hp hkeep
      cases x with
      | none =>
        go_wp2_with fail
        refine HL.out.mono ?_
        rintro e w1 ⟨rfl, hb⟩
        have hta := assert_none w1
        have HJ2 := Lib.hid (HJ1.out.below hb)
        clear hb
        unfold lookV
        go_wp2_with fail
        go_quiet (fail)
        go_wp2_with fail
        have hj5 : Jour w0 wz ((w1.alloc (.cells #[.int .u64 0, .string ByteArray.empty] 97)).drewN nq) Z j a J1 M := (HJ2.out.below ((Below.refl _ _).alloc (Nat.le_refl _) _)).drewN nq
        exact ⟨⟨k + 1, by omega, by go_num, by rw [HNX.out]; rfl, by rw [HNX.out]; exact hj5⟩, by simp [intOf]; omega⟩
      | some ts =>
        obtain ⟨t, s⟩ := ts
        go_wp2_with fail
        refine HL.out.mono ?_
        rintro e w1 ⟨rfl, hb⟩
        have hta := assert_area (.agg #[.int .u64 (t : Int), .string ⟨s.toArray⟩]) w1
        have HJ2 := Lib.hid (HJ1.out.below hb)
        clear hb
        unfold lookV
        have hW1 : Jour w0 wz (w1.alloc (.cells #[.int .u64 (t : Int), .string ⟨s.toArray⟩] 97)) Z j a J1 M := HJ2.out.below ((Below.refl _ _).alloc (Nat.le_refl _) _)
        have hblk : (w1.alloc (.cells #[.int .u64 (t : Int), .string ⟨s.toArray⟩] 97)).heap[w1.heap.size]? = some (.cells #[.int .u64 (t : Int), .string ⟨s.toArray⟩] 97 (0, 0)) := heap_alloc_new w1 _
        obtain ⟨W, hW⟩ : ∃ W, w1.alloc (.cells #[.int .u64 (t : Int), .string ⟨s.toArray⟩] 97) = W := ⟨_, rfl⟩
        rw [hW] at hW1 hblk
        have x0 : W.cell? ⟨w1.heap.size, 0, .none⟩ = some (.int .u64 (t : Int)) := by rw [cell_of_row W _ 0 _ _ (0, 0) hblk]; rfl
        have x1 : W.cell? ⟨w1.heap.size, 1, .none⟩ = some (.string ⟨s.toArray⟩) := by rw [cell_of_row W _ 1 _ _ (0, 0) hblk]; rfl
        obtain ⟨_, _, _, c3, c4, c5, hfz⟩ := hW1.cells
        have z3 := hfz 3
        have z4 := hfz 4
        have z5 := hfz 5
        have HW := Lib.hid hW1
        clear hW1 hblk hfz
        obtain ⟨nb, hnb⟩ : ∃ b, newer t J1.turn = b := ⟨_, rfl⟩
        have qn := hnb
        unfold newer at qn
        have HNB := Lib.hid hnb
        clear hnb
        by_cases hc : b1 = true ∧ nb = false
        · obtain ⟨rfl, rfl⟩ := hc
          have hpn : findS (seenN M) J (k + 1) = (J1, true) := by
            rw [HNX.out]
            unfold findN
            simp only [HNB.out]
            rfl
          have HPN := Lib.hid hpn
          clear hpn
          go_wp2_with fail
          go_quiet (fail)
          go_wp2_with fail
          exact ⟨⟨k + 1, by omega, by go_num, by rw [HPN.out], by rw [HPN.out]; exact HW.out.drewN _⟩, by simp [intOf]; omega⟩
        · have hpn : findS (seenN M) J (k + 1) = (J1.found k t s, true) := by
            rw [HNX.out]
            unfold findN
            simp only [HNB.out]
            cases b1 with
            | false => rfl
            | true =>
              cases nb with
              | false => exact absurd ⟨rfl, rfl⟩ hc
              | true => rfl
          have HPN := Lib.hid hpn
          have HC := Lib.hid hc
          clear hpn hc
          cases b1 with
          | false =>
            clear qn
            go_wp2_with fail
            go_quiet (fail)
            go_wp2_with fail
            go_region
            have hfin := (HW.out.drewN (nq + 1)).setFound k t s
            obtain ⟨W3, hW3⟩ : ∃ W3, (((W.drewN (nq + 1)).setCell ⟨j, 3, .none⟩ (.int .i64 (k : Nat))).setCell ⟨j, 4, .none⟩ (.int .u64 (t : Nat))).setCell ⟨j, 5, .none⟩ (.string ⟨s.toArray⟩) = W3 := ⟨_, rfl⟩
            rw [hW3] at hfin ⊢
            have HFIN := Lib.hid hfin
            clear hfin hW3
            go_wp2_with fail
            exact ⟨⟨k + 1, by omega, by go_num, by rw [HPN.out], by rw [HPN.out]; exact HFIN.out⟩, by simp [intOf]; omega⟩
          | true =>
            cases nb with
            | false => exact absurd ⟨rfl, rfl⟩ HC.out
            | true =>
              go_wp2_with fail
              go_quiet (fail)
              go_wp2_with fail
              go_region
              have hfin := (HW.out.drewN (nq + 1)).setFound k t s
              obtain ⟨W3, hW3⟩ : ∃ W3, (((W.drewN (nq + 1)).setCell ⟨j, 3, .none⟩ (.int .i64 (k : Nat))).setCell ⟨j, 4, .none⟩ (.int .u64 (t : Nat))).setCell ⟨j, 5, .none⟩ (.string ⟨s.toArray⟩) = W3 := ⟨_, rfl⟩
              rw [hW3] at hfin ⊢
              have HFIN := Lib.hid hfin
              clear hfin hW3
              go_wp2_with fail
              exact ⟨⟨k + 1, by omega, by go_num, by rw [HPN.out], by rw [HPN.out]; exact HFIN.out⟩, by simp [intOf]; omega⟩
    · obtain rfl : k = 2 := by omega
      have HJ2 := Lib.hid hj
      have HP := Lib.hid hp
      clear hj hp hlt hkeep hnext
      go_wp2_with fail
      go_ret
      exact ⟨by rw [HP.out]; rfl, by rw [HP.out]; exact HJ2.out⟩
end Go.Proofs.Ytbflennacniacaa
