/- pmem.Mem: each operation on a memory that was made since a world. -/
import Derived.Test.YtbflennacniacaaPmNew
namespace Go.Proofs.Ytbflennacniacaa
open Go.RowKit
set_option linter.unusedVariables false
/-- A memory that was made since w0, at block a. -/
def Live (w0 w : World) (a : Nat) (M : PM) : Prop := ∃ F : PF, F.a = a ∧ Mem w F M ∧ Below w0.heap.size w0 w ∧ ∀ k, F.has k → w0.heap.size ≤ k
structure PM.ok (M : PM) (K : Nat) : Prop where
  steps : M.steps ≤ K
  stores : M.stores ≤ K
  cnt : M.cnt ≤ K
  fuse : wf64 M.fuse
theorem Live.mem {w0 w : World} {a : Nat} {M : PM} (h : Live w0 w a M) : ∃ F : PF, F.a = a ∧ Mem w F M := by
  obtain ⟨F, h1, h2, _⟩ := h
  exact ⟨F, h1, h2⟩
theorem Live.bel {w0 w : World} {a : Nat} {M : PM} (h : Live w0 w a M) : Below w0.heap.size w0 w := by
  obtain ⟨F, _, _, h3, _⟩ := h
  exact h3
theorem Live.below {w0 w w' : World} {a : Nat} {M : PM} (h : Live w0 w a M) (hb : Below w.heap.size w w') : Live w0 w' a M := by
  obtain ⟨F, h1, h2, h3, h4⟩ := h
  exact ⟨F, h1, h2.below hb, Cv.next h3 hb, h4⟩
theorem Live.drewN {w0 w : World} {a : Nat} {M : PM} (h : Live w0 w a M) (n : Nat) : Live w0 (w.drewN n) a M := by
  obtain ⟨F, h1, h2, h3, h4⟩ := h
  exact ⟨F, h1, h2.drewN n, Cv.drewN_below h3 n, h4⟩
theorem Live.op {w0 w w' : World} {F F' : PF} {M M' : PM} (h2 : Mem w F M) (h3 : Below w0.heap.size w0 w) (h4 : ∀ k, F.has k → w0.heap.size ≤ k) (hm : Mem w' F' M') (ho : Op F F' w w') : Live w0 w' F.a M' :=
  ⟨F', ho.1, hm, h3.trans (ho.2.2.below h3.size h4), fun k hk => (ho.2.1 k hk).elim (h4 k) fun h => Nat.le_trans h3.size h⟩
theorem Live.frame {w0 w w' : World} {S : Nat → Prop} {a : Nat} {M : PM} (h : Live w0 w a M) (ho : Only S w w') (hs : ∀ k, S k → w.heap.size ≤ k) : Live w0 w' a M := by
  exact h.below (ho.below (Nat.le_refl _) hs)
theorem PM.marked_same (M : PM) : M.marked.n = M.n ∧ M.marked.seen = M.seen ∧ M.marked.lasts = M.lasts ∧ M.marked.way = M.way ∧ M.marked.fuse = M.fuse ∧ M.marked.steps = M.steps ∧ M.marked.stores = M.stores ∧ M.marked.cnt = M.cnt := by
  unfold PM.marked; split <;> exact ⟨rfl, rfl, rfl, rfl, rfl, rfl, rfl, rfl⟩
theorem PM.ok.marked {M : PM} {K : Nat} (h : M.ok K) : M.marked.ok K := by
  obtain ⟨_, _, _, _, h5, h6, h7, h8⟩ := M.marked_same
  exact ⟨by rw [h6]; exact h.steps, by rw [h7]; exact h.stores, by rw [h8]; exact h.cnt, by rw [h5]; exact h.fuse⟩
theorem PM.ok.ticked {M : PM} {K : Nat} (h : M.ok K) : M.ticked.ok K := by
  unfold PM.ticked
  split
  · rename_i hc
    refine PM.ok.marked ⟨h.steps, h.stores, h.cnt, ?_⟩
    have := h.fuse
    unfold wf64 at this ⊢
    show -9223372036854775808 ≤ M.fuse - 1 ∧ M.fuse - 1 ≤ 9223372036854775807
    omega
  · exact h
theorem PM.ok.mono {M : PM} {K L : Nat} (h : M.ok K) (hl : K ≤ L) : M.ok L := ⟨Nat.le_trans h.steps hl, Nat.le_trans h.stores hl, Nat.le_trans h.cnt hl, h.fuse⟩
theorem PM.ok.fresh (n : Nat) : (PM.fresh n).ok 0 := ⟨Nat.le_refl _, Nat.le_refl _, Nat.le_refl _, by unfold wf64 PM.fresh; simp⟩
theorem PM.ok.store {M : PM} {K : Nat} (h : M.ok K) (p v : Int) : (M.store p v).ok (K + 1) := by
  unfold PM.store
  split
  · exact PM.ok.ticked ⟨Nat.succ_le_succ h.steps, Nat.succ_le_succ h.stores, Nat.le_succ_of_le h.cnt, h.fuse⟩
  · exact h.mono (Nat.le_succ _)
theorem PM.ok.flush {M : PM} {K : Nat} (h : M.ok K) (q : Int) : (M.flush q).ok (K + 1) := by
  unfold PM.flush
  split
  · refine PM.ok.ticked ?_
    split
    · exact ⟨Nat.succ_le_succ h.steps, Nat.le_succ_of_le h.stores, Nat.succ_le_succ h.cnt, h.fuse⟩
    · exact ⟨Nat.succ_le_succ h.steps, Nat.le_succ_of_le h.stores, Nat.le_succ_of_le h.cnt, h.fuse⟩
  · exact h.mono (Nat.le_succ _)
theorem PM.ok.fence {M : PM} {K : Nat} (h : M.ok K) : M.fence.ok (K + 1) := by
  unfold PM.fence
  refine PM.ok.ticked ?_
  split <;> exact ⟨Nat.succ_le_succ h.steps, Nat.le_succ_of_le h.stores, Nat.le_succ_of_le h.cnt, h.fuse⟩
theorem PM.ok.crash {M : PM} {K : Nat} (h : M.ok K) (k : Int) : (M.crash k).ok K := ⟨h.steps, h.stores, h.cnt, by unfold wf64; show -9223372036854775808 ≤ (-1 : Int) ∧ (-1 : Int) ≤ 9223372036854775807; omega⟩
theorem PM.ok.fused {M : PM} {K : Nat} (h : M.ok K) (s : Int) (hs : wf64 s) : (M.fused s).ok K := by
  unfold PM.fused
  split
  · exact h
  · split
    · exact PM.ok.marked ⟨h.steps, h.stores, h.cnt, hs⟩
    · exact h
theorem PM.ticked_n (M : PM) : M.ticked.n = M.n := by unfold PM.ticked; split; exact (PM.marked_same _).1; rfl
theorem PM.store_n (M : PM) (p v : Int) : (M.store p v).n = M.n := by unfold PM.store; split; rw [PM.ticked_n]; rfl; rfl
theorem PM.flush_n (M : PM) (q : Int) : (M.flush q).n = M.n := by unfold PM.flush; split; rw [PM.ticked_n]; split <;> rfl; rfl
theorem PM.fence_n (M : PM) : M.fence.n = M.n := by unfold PM.fence; rw [PM.ticked_n]; split <;> rfl
theorem PM.crash_n (M : PM) (k : Int) : (M.crash k).n = M.n := rfl
theorem PM.fused_n (M : PM) (s : Int) : (M.fused s).n = M.n := by unfold PM.fused; split; rfl; split; exact (PM.marked_same _).1; rfl
theorem new_live (n : Nat) (w0 w : World) (hb : Below w0.heap.size w0 w) (h1 : 1 ≤ n) (h2 : n ≤ 8192) (x : Int) (hx : ((n * 8 : Nat) : Int) = x) :
    Calls Try.prog 16 #[.int .i64 x] w fun e w' => ∃ a : Nat, e = .returned (.tuple #[.pointer (some ⟨a, 0, .none⟩), .int .i64 0]) ∧ w.heap.size ≤ a ∧ Live w0 w' a (PM.fresh n) ∧ Below w.heap.size w w' := by
  subst hx
  exact (new_any n w h1 h2).mono fun e w' ⟨F, he, hm, hbe, hk⟩ => ⟨F.a, he, hk _ (.inl rfl), ⟨F, rfl, hm, Cv.next hb hbe, fun k h => Nat.le_trans hb.size (hk k h)⟩, hbe⟩
theorem store_live {w0 w : World} {a : Nat} {M : PM} (h : Live w0 w a M) (p v : Int) (r : Int) (K : Nat) (hr : placeV M.n p = r) (ho : M.ok K) (hK : K ≤ 1099511627776) :
    Calls Try.prog 17 #[.pointer (some ⟨a, 0, .none⟩), .int .i64 p, .int .u64 v] w fun e w' => e = .returned (.int .i64 r) ∧ Live w0 w' a (M.store p v) := by
  obtain ⟨F, rfl, h2, h3, h4⟩ := h
  exact (store_any F M p v w h2 (Nat.le_trans ho.steps hK) (Nat.le_trans ho.stores hK) ho.fuse).mono fun e w' ⟨he, F', hm, hop⟩ => ⟨by rw [he, hr], Live.op h2 h3 h4 hm hop⟩
theorem flush_live {w0 w : World} {a : Nat} {M : PM} (h : Live w0 w a M) (p : Int) (r : Int) (K : Nat) (hr : lineE M.n p = r) (ho : M.ok K) (hK : K ≤ 1099511627776) :
    Calls Try.prog 18 #[.pointer (some ⟨a, 0, .none⟩), .int .i64 p] w fun e w' => e = .returned (.int .i64 r) ∧ Live w0 w' a (M.flush p) := by
  obtain ⟨F, rfl, h2, h3, h4⟩ := h
  exact (flush_any F M p w h2 (Nat.le_trans ho.steps hK) (Nat.le_trans ho.cnt hK) ho.fuse).mono fun e w' ⟨he, F', hm, hop⟩ => ⟨by rw [he, hr], Live.op h2 h3 h4 hm hop⟩
theorem fence_live {w0 w : World} {a : Nat} {M : PM} (h : Live w0 w a M) (K : Nat) (ho : M.ok K) (hK : K ≤ 1099511627776) :
    Calls Try.prog 19 #[.pointer (some ⟨a, 0, .none⟩)] w fun e w' => e = .returned (.int .i64 0) ∧ Live w0 w' a M.fence := by
  obtain ⟨F, rfl, h2, h3, h4⟩ := h
  exact (fence_any F M w h2 (Nat.le_trans ho.steps hK) (Nat.le_trans ho.cnt hK) ho.fuse).mono fun e w' ⟨he, F', hm, hop⟩ => ⟨he, Live.op h2 h3 h4 hm hop⟩
theorem crash_live {w0 w : World} {a : Nat} {M : PM} (h : Live w0 w a M) (k : Int) :
    Calls Try.prog 20 #[.pointer (some ⟨a, 0, .none⟩), .int .i64 k] w fun e w' => e = .returned (.int .i64 0) ∧ Live w0 w' a (M.crash k) := by
  obtain ⟨F, rfl, h2, h3, h4⟩ := h
  exact (crash_any F M k w h2).mono fun e w' ⟨he, F', hm, hop⟩ => ⟨he, Live.op h2 h3 h4 hm hop⟩
theorem fuse_live {w0 w : World} {a : Nat} {M : PM} (h : Live w0 w a M) (s r : Int) (hr : fuseE s = r) :
    Calls Try.prog 25 #[.pointer (some ⟨a, 0, .none⟩), .int .i64 s] w fun e w' => e = .returned (.int .i64 r) ∧ Live w0 w' a (M.fused s) := by
  obtain ⟨F, rfl, h2, h3, h4⟩ := h
  exact (fuse_any F M s w h2).mono fun e w' ⟨he, F', hm, hop⟩ => ⟨by rw [he, hr], Live.op h2 h3 h4 hm hop⟩
theorem load_live {w0 w : World} {a : Nat} {M : PM} (h : Live w0 w a M) (p : Int) (v r : Int) (hv : loadV M p = v) (hr : placeV M.n p = r) :
    Calls Try.prog 21 #[.pointer (some ⟨a, 0, .none⟩), .int .i64 p] w fun e w' => e = .returned (.tuple #[.int .u64 v, .int .i64 r]) ∧ w = w' := by
  obtain ⟨F, rfl, h2, h3, h4⟩ := h
  exact (load_any F M p w h2).mono fun e w' ⟨he, hw⟩ => ⟨by rw [he, hv, hr], hw⟩
theorem words_live {w0 w : World} {a : Nat} {M : PM} (h : Live w0 w a M) (r : Int) (hr : ((M.n * 8 : Nat) : Int) = r) :
    Calls Try.prog 23 #[.pointer (some ⟨a, 0, .none⟩)] w fun e w' => e = .returned (.int .i64 r) ∧ w = w' := by
  obtain ⟨F, rfl, h2, h3, h4⟩ := h
  exact (words_any F M w h2).mono fun e w' ⟨he, hw⟩ => ⟨by rw [he, hr], hw⟩
theorem steps_live {w0 w : World} {a : Nat} {M : PM} (h : Live w0 w a M) (r : Int) (hr : ((M.steps : Nat) : Int) = r) :
    Calls Try.prog 26 #[.pointer (some ⟨a, 0, .none⟩)] w fun e w' => e = .returned (.int .i64 r) ∧ w = w' := by
  obtain ⟨F, rfl, h2, h3, h4⟩ := h
  exact (steps_any F M w h2).mono fun e w' ⟨he, hw⟩ => ⟨by rw [he, hr], hw⟩
theorem stores_live {w0 w : World} {a : Nat} {M : PM} (h : Live w0 w a M) (r : Int) (hr : ((M.stores : Nat) : Int) = r) :
    Calls Try.prog 24 #[.pointer (some ⟨a, 0, .none⟩)] w fun e w' => e = .returned (.int .i64 r) ∧ w = w' := by
  obtain ⟨F, rfl, h2, h3, h4⟩ := h
  exact (stores_any F M w h2).mono fun e w' ⟨he, hw⟩ => ⟨by rw [he, hr], hw⟩
theorem num1_any (n : Int) (w : World) : Calls Try.prog 22 #[.int .i64 n] w fun e w' => e = .returned (.int .i64 n) ∧ w = w' := by
  go_enter Try.func22, Try.ntmps22
  go_wp2
  go_ret
  exact ⟨rfl, rfl⟩
end Go.Proofs.Ytbflennacniacaa
