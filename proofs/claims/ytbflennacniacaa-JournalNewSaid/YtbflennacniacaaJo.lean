/- journal.Journal: what it is in memory; half, base, room, flush, each by its contract. -/
import Derived.Test.YtbflennacniacaaPmLive
import Derived.Test.YtbflennacniacaaJoDigits
namespace Go.Proofs.Ytbflennacniacaa
open Go.RowKit
set_option linter.unusedVariables false
/-- A journal's own fields. -/
structure JD where
  start : Nat
  words : Nat
  area : Nat
  turn : Nat
  text : ByteArray
def jblk (a : Nat) (J : JD) : Obj := .cells #[.pointer (some ⟨a, 0, .none⟩), .int .i64 (J.start : Nat), .int .i64 (J.words : Nat), .int .i64 (J.area : Nat), .int .u64 (J.turn : Nat), .string J.text] 85 (0, 0)
/-- A journal at block j over the memory at block a, both made since w0; the blocks of Z are as they were in wz. -/
structure Jour (w0 wz w : World) (Z : Nat → Prop) (j a : Nat) (J : JD) (M : PM) : Prop where
  mem : ∃ F : PF, F.a = a ∧ Mem w F M ∧ ∀ k, F.has k → w0.heap.size ≤ k ∧ k ≠ j ∧ ¬ Z k
  bel : Below w0.heap.size w0 w
  blk : w.heap[j]? = some (jblk a J)
  low : w0.heap.size ≤ j
  zed : ∀ k, Z k → k < wz.heap.size ∧ w.heap[k]? = wz.heap[k]? ∧ k ≠ j
theorem Jour.zlt {w0 wz w : World} {Z : Nat → Prop} {j a : Nat} {J : JD} {M : PM} (h : Jour w0 wz w Z j a J M) (k : Nat) (hk : Z k) : k < w.heap.size := by
  obtain ⟨h1, h2, _⟩ := h.zed k hk
  rw [Array.getElem?_eq_getElem h1] at h2
  exact (Array.getElem?_eq_some_iff.1 h2).1
theorem Jour.jlt {w0 wz w : World} {Z : Nat → Prop} {j a : Nat} {J : JD} {M : PM} (h : Jour w0 wz w Z j a J M) : j < w.heap.size := (Array.getElem?_eq_some_iff.1 h.blk).1
theorem Jour.below {w0 wz w w' : World} {Z : Nat → Prop} {j a : Nat} {J : JD} {M : PM} (h : Jour w0 wz w Z j a J M) (hb : Below w.heap.size w w') : Jour w0 wz w' Z j a J M := by
  have hj := h.jlt
  have hz := h.zlt
  obtain ⟨⟨F, h1, h2, h3⟩, h4, h5, h6, h7⟩ := h
  exact ⟨⟨F, h1, h2.below hb, h3⟩, Cv.next h4 hb, (hb.block j hj).trans h5, h6, fun k hk => ⟨(h7 k hk).1, (hb.block k (hz k hk)).trans (h7 k hk).2.1, (h7 k hk).2.2⟩⟩
theorem Jour.drewN {w0 wz w : World} {Z : Nat → Prop} {j a : Nat} {J : JD} {M : PM} (h : Jour w0 wz w Z j a J M) (n : Nat) : Jour w0 wz (w.drewN n) Z j a J M := by
  obtain ⟨⟨F, h1, h2, h3⟩, h4, h5, h6, h7⟩ := h
  exact ⟨⟨F, h1, h2.drewN n, h3⟩, Cv.drewN_below h4 n, h5, h6, h7⟩
theorem Jour.drew {w0 wz w : World} {Z : Nat → Prop} {j a : Nat} {J : JD} {M : PM} (h : Jour w0 wz w Z j a J M) : Jour w0 wz w.drew Z j a J M := h.drewN 1
theorem Jour.op {w0 wz w w' : World} {Z : Nat → Prop} {j : Nat} {J : JD} {F F' : PF} {M M' : PM} (h2 : Mem w F M) (h3 : ∀ k, F.has k → w0.heap.size ≤ k ∧ k ≠ j ∧ ¬ Z k) (h4 : Below w0.heap.size w0 w) (h5 : w.heap[j]? = some (jblk F.a J)) (h6 : w0.heap.size ≤ j)
    (h7 : ∀ k, Z k → k < wz.heap.size ∧ w.heap[k]? = wz.heap[k]? ∧ k ≠ j) (hm : Mem w' F' M') (ho : Op F F' w w') : Jour w0 wz w' Z j F.a J M' := by
  have hj : j < w.heap.size := (Array.getElem?_eq_some_iff.1 h5).1
  have zlt : ∀ k, Z k → k < w.heap.size := fun k hk => by
    obtain ⟨q1, q2, _⟩ := h7 k hk
    rw [Array.getElem?_eq_getElem q1] at q2
    exact (Array.getElem?_eq_some_iff.1 q2).1
  refine ⟨⟨F', ho.1, hm, fun k hk => ?_⟩, h4.trans (ho.2.2.below h4.size fun k hk => (h3 k hk).1), (ho.2.2.block j hj fun hf => (h3 j hf).2.1 rfl).trans h5, h6, fun k hk => ⟨(h7 k hk).1, (ho.2.2.block k (zlt k hk) fun hf => (h3 k hf).2.2 hk).trans (h7 k hk).2.1, (h7 k hk).2.2⟩⟩
  rcases ho.2.1 k hk with h | h
  · exact h3 k h
  · exact ⟨Nat.le_trans h4.size h, by omega, fun hz => by have := zlt k hz; omega⟩
theorem Jour.cells {w0 wz w : World} {Z : Nat → Prop} {j a : Nat} {J : JD} {M : PM} (h : Jour w0 wz w Z j a J M) :
    w.cell? ⟨j, 0, .none⟩ = some (.pointer (some ⟨a, 0, .none⟩)) ∧ w.cell? ⟨j, 1, .none⟩ = some (.int .i64 (J.start : Nat)) ∧ w.cell? ⟨j, 2, .none⟩ = some (.int .i64 (J.words : Nat)) ∧ w.cell? ⟨j, 3, .none⟩ = some (.int .i64 (J.area : Nat)) ∧
    w.cell? ⟨j, 4, .none⟩ = some (.int .u64 (J.turn : Nat)) ∧ w.cell? ⟨j, 5, .none⟩ = some (.string J.text) ∧ ∀ i, w.frozen? ⟨j, i, .none⟩ = false := by
  have hb := h.blk
  unfold jblk at hb
  refine ⟨?_, ?_, ?_, ?_, ?_, ?_, fun i => frozen_of_row w j i _ _ hb⟩ <;> (rw [cell_of_row w j _ _ _ (0, 0) hb]; rfl)
/-- A store into the journal's own block. -/
theorem Jour.setJ {w0 wz w : World} {Z : Nat → Prop} {j a : Nat} {J J' : JD} {M : PM} (h : Jour w0 wz w Z j a J M) (i : Nat) (v : Value)
    (hb : (#[.pointer (some ⟨a, 0, .none⟩), .int .i64 (J.start : Nat), .int .i64 (J.words : Nat), .int .i64 (J.area : Nat), .int .u64 (J.turn : Nat), .string J.text] : Array Value).setIfInBounds i v =
      #[.pointer (some ⟨a, 0, .none⟩), .int .i64 (J'.start : Nat), .int .i64 (J'.words : Nat), .int .i64 (J'.area : Nat), .int .u64 (J'.turn : Nat), .string J'.text]) : Jour w0 wz (w.setCell ⟨j, i, .none⟩ v) Z j a J' M := by
  have other : ∀ k, k ≠ j → (w.setCell ⟨j, i, .none⟩ v).heap[k]? = w.heap[k]? := fun k hk => Below.heap_setCell w ⟨j, i, .none⟩ v k hk
  obtain ⟨⟨F, h1, h2, h3⟩, h4, h5, h6, h7⟩ := h
  refine ⟨⟨F, h1, h2.same fun k hk => other k (h3 k hk).2.1, h3⟩, h4.setCell h6 _, ?_, h6, fun k hk => ⟨(h7 k hk).1, (other k (h7 k hk).2.2).trans (h7 k hk).2.1, (h7 k hk).2.2⟩⟩
  unfold jblk at h5 ⊢
  rw [heap_setCell_same w j i _ _ v h5, hb]
section
variable {w0 wz w : World} {Z : Nat → Prop} {j a : Nat} {J : JD} {M : PM}
theorem store_j (h : Jour w0 wz w Z j a J M) (p v : Int) (K : Nat) (ho : M.ok K) (hK : K ≤ 1099511627776) :
    Calls Try.prog 17 #[.pointer (some ⟨a, 0, .none⟩), .int .i64 p, .int .u64 v] w fun e w' => e = .returned (.int .i64 (placeV M.n p)) ∧ Jour w0 wz w' Z j a J (M.store p v) := by
  obtain ⟨⟨F, rfl, h2, h3⟩, h4, h5, h6, h7⟩ := h
  exact (store_any F M p v w h2 (Nat.le_trans ho.steps hK) (Nat.le_trans ho.stores hK) ho.fuse).mono fun e w' ⟨he, F', hm, hop⟩ => ⟨he, Jour.op h2 h3 h4 h5 h6 h7 hm hop⟩
theorem flush_j (h : Jour w0 wz w Z j a J M) (p : Int) (K : Nat) (ho : M.ok K) (hK : K ≤ 1099511627776) :
    Calls Try.prog 18 #[.pointer (some ⟨a, 0, .none⟩), .int .i64 p] w fun e w' => e = .returned (.int .i64 (lineE M.n p)) ∧ Jour w0 wz w' Z j a J (M.flush p) := by
  obtain ⟨⟨F, rfl, h2, h3⟩, h4, h5, h6, h7⟩ := h
  exact (flush_any F M p w h2 (Nat.le_trans ho.steps hK) (Nat.le_trans ho.cnt hK) ho.fuse).mono fun e w' ⟨he, F', hm, hop⟩ => ⟨he, Jour.op h2 h3 h4 h5 h6 h7 hm hop⟩
theorem fence_j (h : Jour w0 wz w Z j a J M) (K : Nat) (ho : M.ok K) (hK : K ≤ 1099511627776) :
    Calls Try.prog 19 #[.pointer (some ⟨a, 0, .none⟩)] w fun e w' => e = .returned (.int .i64 0) ∧ Jour w0 wz w' Z j a J M.fence := by
  obtain ⟨⟨F, rfl, h2, h3⟩, h4, h5, h6, h7⟩ := h
  exact (fence_any F M w h2 (Nat.le_trans ho.steps hK) (Nat.le_trans ho.cnt hK) ho.fuse).mono fun e w' ⟨he, F', hm, hop⟩ => ⟨he, Jour.op h2 h3 h4 h5 h6 h7 hm hop⟩
theorem load_j (h : Jour w0 wz w Z j a J M) (p : Int) (v r : Int) (hv : loadV M p = v) (hr : placeV M.n p = r) :
    Calls Try.prog 21 #[.pointer (some ⟨a, 0, .none⟩), .int .i64 p] w fun e w' => e = .returned (.tuple #[.int .u64 v, .int .i64 r]) ∧ w = w' := by
  obtain ⟨⟨F, rfl, h2, h3⟩, h4, h5, h6, h7⟩ := h
  exact (load_any F M p w h2).mono fun e w' ⟨he, hw⟩ => ⟨by rw [he, hv, hr], hw⟩
end
/-- How many words an area has. -/
def halfN (words : Nat) : Nat := words / 2 / 8 * 8
def baseN (J : JD) (k : Nat) : Nat := J.start + k * halfN J.words
theorem half_any (w : World) (j words : Nat) (h : w.cell? ⟨j, 2, .none⟩ = some (.int .i64 (words : Nat))) (hw : words ≤ 65536) :
    Calls Try.prog 69 #[.pointer (some ⟨j, 0, .none⟩)] w fun e w' => e = .returned (.int .i64 (halfN words : Nat)) ∧ w = w' := by
  obtain ⟨R, hR⟩ : ∃ R, halfN words = R := ⟨_, rfl⟩
  rw [hR]
  have e1 : (words : Int).tdiv 2 = ((words / 2 : Nat) : Int) := rfl
  obtain ⟨x, hx⟩ : ∃ x, words / 2 = x := ⟨_, rfl⟩
  rw [hx] at e1
  have e2 : (x : Int).tdiv 8 = ((x / 8 : Nat) : Int) := rfl
  obtain ⟨y, hy⟩ : ∃ y, x / 8 = y := ⟨_, rfl⟩
  rw [hy] at e2
  have hR2 : R = y * 8 := by rw [← hR, ← hy, ← hx]; rfl
  have hx2 : x ≤ 32768 := by omega
  have hy2 : y ≤ 4096 := by omega
  have HR2 := Lib.hid hR2
  clear hR hx hy hR2
  go_enter Try.func69, Try.ntmps69
  go_wp2_with fail
  go_ret
  exact ⟨Cv.ret_int (by rw [HR2.out]; push_cast; rfl), rfl⟩
theorem room_any (w : World) (j words : Nat) (h : w.cell? ⟨j, 2, .none⟩ = some (.int .i64 (words : Nat))) (hw : words ≤ 65536) (hl : 64 ≤ words) :
    Calls Try.prog 68 #[.pointer (some ⟨j, 0, .none⟩)] w fun e w' => e = .returned (.int .i64 ((halfN words - 8) * 8 : Nat)) ∧ w = w' := by
  have hh : 8 ≤ halfN words ∧ halfN words ≤ 65536 := by unfold halfN; omega
  have hhalf := Lib.hid (half_any w j words h hw)
  obtain ⟨R, hR⟩ : ∃ R, halfN words = R := ⟨_, rfl⟩
  rw [hR] at hh hhalf
  rw [hR]
  clear hR
  go_enter Try.func68, Try.ntmps68
  go_wp2_with fail
  refine hhalf.out.mono ?_
  rintro e w1 ⟨rfl, rfl⟩
  go_wp2_with fail
  go_ret
  exact ⟨Cv.ret_int (by omega), rfl⟩
theorem quiet_l {P : Program} {f : FuncId} {args : Array Value} {w : World} {n : Nat} {v : Value}
    (h : Calls P f args (w.drewN n) fun e w' => e = .returned v ∧ w.drewN n = w') : Calls P f args (w.drewN n) fun e w'' => e = .returned v ∧ ∃ m, w'' = w.drewN m :=
  h.mono fun _ _ hh => ⟨hh.1, n, hh.2.symm⟩
theorem base_any (w : World) (j start words k : Nat) (h1 : w.cell? ⟨j, 1, .none⟩ = some (.int .i64 (start : Nat))) (h : w.cell? ⟨j, 2, .none⟩ = some (.int .i64 (words : Nat))) (hw : words ≤ 65536) (hs : start ≤ 65536) (hk : k ≤ 1) :
    Calls Try.prog 63 #[.pointer (some ⟨j, 0, .none⟩), .int .i64 k] w fun e w' => e = .returned (.int .i64 (start + k * halfN words : Nat)) ∧ ∃ n, w' = w.drewN n := by
  have hh : halfN words ≤ 65536 := by unfold halfN; omega
  have hhalf := Lib.hid (fun n => half_any (w.drewN n) j words h hw)
  obtain ⟨R, hR⟩ : ∃ R, halfN words = R := ⟨_, rfl⟩
  rw [hR] at hh hhalf
  rw [hR]
  clear hR
  obtain ⟨P, hP⟩ : ∃ P : Nat, k * R = P := ⟨_, rfl⟩
  have hP2 : P ≤ 65536 := by
    rw [← hP]
    have := Nat.mul_le_mul hk hh
    omega
  have hP3 : (k : Int) * (R : Int) = (P : Int) := by rw [← hP]; push_cast; rfl
  rw [hP]
  clear hP
  go_enter Try.func63, Try.ntmps63
  go_wp2_with fail
  go_quiet ((go_at_call 69; exact quiet_l (hhalf.out _)))
  go_wp2_with fail
  go_ret
  exact ⟨Cv.ret_int (by push_cast; omega), _, rfl⟩
end Go.Proofs.Ytbflennacniacaa
