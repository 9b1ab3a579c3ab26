/- journal: may, New, Open, Write, Read, each by its contract. -/
import Derived.Test.YtbflennacniacaaJoPut
namespace Go.Proofs.Ytbflennacniacaa
open Go.RowKit
set_option linter.unusedVariables false
/-- A memory at block a, made since w0; the blocks of Z are as they were in wz. -/
structure Held (w0 wz w : World) (Z : Nat → Prop) (a : Nat) (M : PM) : Prop where
  mem : ∃ F : PF, F.a = a ∧ Mem w F M ∧ ∀ k, F.has k → w0.heap.size ≤ k ∧ ¬ Z k
  bel : Below w0.heap.size w0 w
  zed : ∀ k, Z k → k < wz.heap.size ∧ w.heap[k]? = wz.heap[k]?
theorem Held.zlt {w0 wz w : World} {Z : Nat → Prop} {a : Nat} {M : PM} (h : Held w0 wz w Z a M) (k : Nat) (hk : Z k) : k < w.heap.size := by
  obtain ⟨h1, h2⟩ := h.zed k hk
  rw [Array.getElem?_eq_getElem h1] at h2
  exact (Array.getElem?_eq_some_iff.1 h2).1
theorem Held.below {w0 wz w w' : World} {Z : Nat → Prop} {a : Nat} {M : PM} (h : Held w0 wz w Z a M) (hb : Below w.heap.size w w') : Held w0 wz w' Z a M := by
  have hz := h.zlt
  obtain ⟨⟨F, h1, h2, h3⟩, h4, h7⟩ := h
  exact ⟨⟨F, h1, h2.below hb, h3⟩, Cv.next h4 hb, fun k hk => ⟨(h7 k hk).1, (hb.block k (hz k hk)).trans (h7 k hk).2⟩⟩
theorem Held.drewN {w0 wz w : World} {Z : Nat → Prop} {a : Nat} {M : PM} (h : Held w0 wz w Z a M) (n : Nat) : Held w0 wz (w.drewN n) Z a M := by
  obtain ⟨⟨F, h1, h2, h3⟩, h4, h7⟩ := h
  exact ⟨⟨F, h1, h2.drewN n, h3⟩, Cv.drewN_below h4 n, h7⟩
theorem Held.op {w0 wz w w' : World} {Z : Nat → Prop} {F F' : PF} {M M' : PM} (h2 : Mem w F M) (h3 : ∀ k, F.has k → w0.heap.size ≤ k ∧ ¬ Z k) (h4 : Below w0.heap.size w0 w)
    (h7 : ∀ k, Z k → k < wz.heap.size ∧ w.heap[k]? = wz.heap[k]?) (hm : Mem w' F' M') (ho : Op F F' w w') : Held w0 wz w' Z F.a M' := by
  have zlt : ∀ k, Z k → k < w.heap.size := fun k hk => by
    obtain ⟨q1, q2⟩ := h7 k hk
    rw [Array.getElem?_eq_getElem q1] at q2
    exact (Array.getElem?_eq_some_iff.1 q2).1
  refine ⟨⟨F', ho.1, hm, fun k hk => ?_⟩, h4.trans (ho.2.2.below h4.size fun k hk => (h3 k hk).1), fun k hk => ⟨(h7 k hk).1, (ho.2.2.block k (zlt k hk) fun hf => (h3 k hf).2 hk).trans (h7 k hk).2⟩⟩
  rcases ho.2.1 k hk with h | h
  · exact h3 k h
  · exact ⟨Nat.le_trans h4.size h, fun hz => by have := zlt k hz; omega⟩
/-- A memory that was made just now. -/
theorem Live.held {w0 w : World} {a : Nat} {M : PM} (h : Live w0 w a M) : Held w0 w w (fun _ => False) a M := by
  obtain ⟨F, h1, h2, h3, h4⟩ := h
  exact ⟨⟨F, h1, h2, fun k hk => ⟨h4 k hk, fun h => h⟩⟩, h3, fun k h => h.elim⟩
theorem Held.live {w0 wz w : World} {Z : Nat → Prop} {a : Nat} {M : PM} (h : Held w0 wz w Z a M) : Live w0 w a M := by
  obtain ⟨⟨F, h1, h2, h3⟩, h4, h7⟩ := h
  exact ⟨F, h1, h2, h4, fun k hk => (h3 k hk).1⟩
/-- The memory of a journal, the journal itself being kept. -/
theorem Jour.held {w0 wz w : World} {Z : Nat → Prop} {j a : Nat} {J : JD} {M : PM} (h : Jour w0 wz w Z j a J M) : Held w0 w w (fun k => Z k ∨ k = j) a M := by
  have hj := h.jlt
  have hz := h.zlt
  obtain ⟨⟨F, h1, h2, h3⟩, h4, h5, h6, h7⟩ := h
  refine ⟨⟨F, h1, h2, fun k hk => ⟨(h3 k hk).1, fun hh => ?_⟩⟩, h4, fun k hk => ?_⟩
  · rcases hh with hh | hh
    · exact (h3 k hk).2.2 hh
    · exact (h3 k hk).2.1 hh
  · rcases hk with hk | hk
    · exact ⟨hz k hk, rfl⟩
    · exact ⟨by rw [hk]; exact hj, rfl⟩
/-- Back from the memory to the journal. -/
theorem Held.jour {w0 w1 w : World} {Z : Nat → Prop} {j a : Nat} {J : JD} {M : PM} (h : Held w0 w1 w (fun k => Z k ∨ k = j) a M) (hb : w1.heap[j]? = some (jblk a J)) (hl : w0.heap.size ≤ j) (hz : ∀ k, Z k → k ≠ j) : Jour w0 w1 w Z j a J M := by
  obtain ⟨⟨F, h1, h2, h3⟩, h4, h7⟩ := h
  exact ⟨⟨F, h1, h2, fun k hk => ⟨(h3 k hk).1, fun e => (h3 k hk).2 (.inr e), fun hh => (h3 k hk).2 (.inl hh)⟩⟩, h4, ((h7 j (.inr rfl)).2).trans hb, hl, fun k hk => ⟨(h7 k (.inl hk)).1, (h7 k (.inl hk)).2, hz k hk⟩⟩
/-- A journal that is made over a memory. -/
theorem Held.make {w0 wz w : World} {Z : Nat → Prop} {a : Nat} {M : PM} (h : Held w0 wz w Z a M) (J : JD) : Jour w0 wz (w.alloc (jblk a J)) Z w.heap.size a J M := by
  have hz := h.zlt
  have hb : Below w.heap.size w (w.alloc (jblk a J)) := (Below.refl _ _).alloc (Nat.le_refl _) _
  obtain ⟨⟨F, h1, h2, h3⟩, h4, h7⟩ := h
  have hin := h2.in_heap
  refine ⟨⟨F, h1, h2.below hb, fun k hk => ⟨(h3 k hk).1, by have := hin k hk; omega, (h3 k hk).2⟩⟩, Cv.next h4 hb, (Go.MapKept.heap_alloc w _).1, h4.size, fun k hk => ⟨(h7 k hk).1, (hb.block k (hz k hk)).trans (h7 k hk).2, by have := hz k hk; omega⟩⟩
section
variable {w0 wz w : World} {Z : Nat → Prop} {a : Nat} {M : PM}
theorem crash_h (h : Held w0 wz w Z a M) (k : Int) :
    Calls Try.prog 20 #[.pointer (some ⟨a, 0, .none⟩), .int .i64 k] w fun e w' => e = .returned (.int .i64 0) ∧ Held w0 wz w' Z a (M.crash k) := by
  obtain ⟨⟨F, rfl, h2, h3⟩, h4, h7⟩ := h
  exact (crash_any F M k w h2).mono fun e w' ⟨he, F', hm, hop⟩ => ⟨he, Held.op h2 h3 h4 h7 hm hop⟩
theorem words_h (h : Held w0 wz w Z a M) (r : Int) (hr : ((M.n * 8 : Nat) : Int) = r) :
    Calls Try.prog 23 #[.pointer (some ⟨a, 0, .none⟩)] w fun e w' => e = .returned (.int .i64 r) ∧ w = w' := by
  obtain ⟨⟨F, rfl, h2, h3⟩, h4, h7⟩ := h
  exact (words_any F M w h2).mono fun e w' ⟨he, hw⟩ => ⟨by rw [he, hr], hw⟩
end
/-- Whether a journal may lie there. -/
def mayB (n : Nat) (start words : Int) : Bool := decide (0 ≤ start) && (decide (start.tmod 8 = 0) && (decide (64 ≤ words) && (decide (words ≤ (n * 8 : Nat)) && decide (start ≤ (n * 8 : Nat) - words))))
set_option maxRecDepth 100000 in
set_option maxHeartbeats 2000000 in
theorem may_any (w0 wz w : World) (Z : Nat → Prop) (a : Nat) (M : PM) (start words : Int) (h : Held w0 wz w Z a M) (hs : -9223372036854775808 ≤ start ∧ start ≤ 9223372036854775807) :
    Calls Try.prog 54 #[.pointer (some ⟨a, 0, .none⟩), .int .i64 start, .int .i64 words] w fun e w' => e = .returned (.int .i64 (if mayB M.n start words then 0 else 2100)) ∧ w = w' := by
  obtain ⟨R, hR⟩ : ∃ R : Int, (if mayB M.n start words = true then (0 : Int) else 2100) = R := ⟨_, rfl⟩
  rw [hR]
  obtain ⟨N, hN⟩ : ∃ N : Int, ((M.n * 8 : Nat) : Int) = N := ⟨_, rfl⟩
  have hNb : 0 ≤ N ∧ N ≤ 65536 := by
    obtain ⟨F, _, hm, _⟩ := h.mem
    have := hm.size
    omega
  unfold mayB at hR
  rw [hN] at hR
  have HW := Lib.hid (words_h h N hN)
  clear h hN
  obtain ⟨r, hr⟩ : ∃ r, start.tmod 8 = r := ⟨_, rfl⟩
  rw [hr] at hR
  by_cases c1 : start < 0
  · have q1 : decide (start < 0) = true := by simpa using c1
    obtain rfl : R = 2100 := by rw [← hR, show decide (0 ≤ start) = false from by simpa using c1]; rfl
    clear hr hR
    go_enter Try.func54, Try.ntmps54
    go_wp2_with fail
    go_ret
    exact ⟨rfl, rfl⟩
  · have q1 : decide (start < 0) = false := by simpa using c1
    have p1 : decide (0 ≤ start) = true := by simp; omega
    rw [p1, Bool.true_and] at hR
    have hr2 : (start.tmod 8 : Int) = r := hr
    by_cases c2 : r = 0
    · have q2 : (r != 0) = false := by rw [bne_eq_false_iff_eq]; exact c2
      rw [show decide (r = 0) = true from by simpa using c2, Bool.true_and] at hR
      by_cases c3 : words < 64
      · have q3 : decide (words < 64) = true := by simpa using c3
        obtain rfl : R = 2100 := by rw [← hR, show decide (64 ≤ words) = false from by simp; omega]; rfl
        subst c2
        clear hR p1
        go_enter Try.func54, Try.ntmps54
        go_wp2_with fail
        go_ret
        exact ⟨rfl, rfl⟩
      · have q3 : decide (words < 64) = false := by simpa using c3
        rw [show decide (64 ≤ words) = true from by simp; omega, Bool.true_and] at hR
        subst c2
        by_cases c4 : N < words
        · have q4 : decide (N < words) = true := by simpa using c4
          obtain rfl : R = 2100 := by rw [← hR, show decide (words ≤ N) = false from by simp; omega]; rfl
          clear hR p1
          go_enter Try.func54, Try.ntmps54
          go_wp2_with (go_at_call 23; refine HW.out.mono ?_; rintro e w' ⟨rfl, rfl⟩)
          go_ret
          exact ⟨rfl, rfl⟩
        · have q4 : decide (N < words) = false := by simpa using c4
          rw [show decide (words ≤ N) = true from by simp; omega, Bool.true_and] at hR
          by_cases c5 : N - words < start
          · have q5 : decide (N - words < start) = true := by simpa using c5
            obtain rfl : R = 2100 := by rw [← hR, show decide (start ≤ N - words) = false from by simp; omega]; rfl
            clear hR p1
            go_enter Try.func54, Try.ntmps54
            go_wp2_with (go_at_call 23; refine HW.out.mono ?_; rintro e w' ⟨rfl, rfl⟩)
            go_ret
            exact ⟨rfl, rfl⟩
          · have q5 : decide (N - words < start) = false := by simpa using c5
            obtain rfl : R = 0 := by rw [← hR, show decide (start ≤ N - words) = true from by simp; omega]; rfl
            clear hR p1
            go_enter Try.func54, Try.ntmps54
            go_wp2_with (go_at_call 23; refine HW.out.mono ?_; rintro e w' ⟨rfl, rfl⟩)
            go_ret
            exact ⟨rfl, rfl⟩
    · have q2 : (r != 0) = true := by rw [bne_iff_ne]; exact c2
      obtain rfl : R = 2100 := by rw [← hR, show decide (r = 0) = false from by simpa using c2]; rfl
      clear hR p1
      go_enter Try.func54, Try.ntmps54
      go_wp2_with fail
      go_ret
      exact ⟨rfl, rfl⟩
end Go.Proofs.Ytbflennacniacaa
