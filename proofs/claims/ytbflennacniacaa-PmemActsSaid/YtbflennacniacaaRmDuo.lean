/- Both memories as a pair: what an act, a copy, a crash, a load make of it. -/
import Derived.Test.YtbflennacniacaaRmActL
import Derived.Test.YtbflennacniacaaOpenActs
namespace Go.Proofs.Ytbflennacniacaa
open Go.RowKit
set_option linter.unusedVariables false
structure Duo (w0 w : World) (n K : Nat) (F : PF) (G : RF) (M : PM) (R : RM) : Prop where
  size : M.n = n
  mem : Mem w F M
  rmem : RMem w G R
  rel : Rel M R
  mok : M.ok K
  rok : R.ok K
  apart : ∀ k, F.has k → ¬ G.has k
  newF : ∀ k, F.has k → w0.heap.size ≤ k
  newG : ∀ k, G.has k → w0.heap.size ≤ k
  bel : Below w0.heap.size w0 w
theorem Duo.mono {w0 w : World} {n K L : Nat} {F : PF} {G : RF} {M : PM} {R : RM} (h : Duo w0 w n K F G M R) (hl : K ≤ L) : Duo w0 w n L F G M R :=
  { h with mok := h.mok.mono hl, rok := h.rok.mono hl }
theorem Duo.drewN {w0 w : World} {n K : Nat} {F : PF} {G : RF} {M : PM} {R : RM} (h : Duo w0 w n K F G M R) (q : Nat) : Duo w0 (w.drewN q) n K F G M R :=
  { h with mem := h.mem.drewN q, rmem := h.rmem.drewN q, bel := Cv.drewN_below h.bel q }
def Far (F : PF) (G : RF) (F2 : PF) (G2 : RF) : Prop := ∀ i, F.has i ∨ G.has i → ¬ (F2.has i ∨ G2.has i)
theorem Duo.lt {w0 w : World} {n K : Nat} {F : PF} {G : RF} {M : PM} {R : RM} (h : Duo w0 w n K F G M R) : ∀ i, F.has i ∨ G.has i → i < w.heap.size := fun i hi => hi.elim (h.mem.in_heap i) (h.rmem.in_heap i)
theorem Duo.new {w0 w : World} {n K : Nat} {F : PF} {G : RF} {M : PM} {R : RM} (h : Duo w0 w n K F G M R) : ∀ i, F.has i ∨ G.has i → w0.heap.size ≤ i := fun i hi => hi.elim (h.newF i) (h.newG i)
/-- The pair stays where only other blocks turn. -/
theorem Duo.frame {w0 w w' : World} {n K : Nat} {F : PF} {G : RF} {M : PM} {R : RM} {S : Nat → Prop} (h : Duo w0 w n K F G M R) (ho : Only S w w') (hs : ∀ i, F.has i ∨ G.has i → ¬ S i) (hn : ∀ i, S i → w0.heap.size ≤ i) : Duo w0 w' n K F G M R :=
  { h with
    mem := h.mem.same fun k hk => ho.block k (h.mem.in_heap k hk) (hs k (.inl hk))
    rmem := h.rmem.same fun k hk => ho.block k (h.rmem.in_heap k hk) (hs k (.inr hk))
    bel := h.bel.trans (ho.below h.bel.size hn) }
theorem Two.far {F F' : PF} {G G' : RF} {F2 : PF} {G2 : RF} {w w' : World} (h : Two F G F' G' w w') (hf : Far F G F2 G2) (hl : ∀ i, F2.has i ∨ G2.has i → i < w.heap.size) : Far F' G' F2 G2 := fun i hi h2 => by
  have h3 : (F.has i ∨ G.has i) ∨ w.heap.size ≤ i := by
    rcases hi with hi | hi
    · exact (h.newF i hi).imp .inl id
    · exact (h.newG i hi).imp .inr id
  rcases h3 with h3 | h3
  · exact hf i h3 h2
  · have := hl i h2; omega
theorem Far.symm {F F2 : PF} {G G2 : RF} (h : Far F G F2 G2) : Far F2 G2 F G := fun i h1 h2 => h i h2 h1
/-- An act on the pair. -/
theorem act_duo {w0 w : World} {n K : Nat} {F : PF} {G : RF} {M : PM} {R : RM} (h : Duo w0 w n K F G M R) (hK : K ≤ 1000000) (a b : Nat) (ha : F.a = a) (hb : G.a = b) (k p v : Int) (hv : wf64 v) :
    Calls Try.prog 30 #[.pointer (some ⟨a, 0, .none⟩), .pointer (some ⟨b, 0, .none⟩), actV k p v] w fun e w' => e = .returned (.bool true) ∧ ∃ F' G' M' R', F'.a = a ∧ G'.a = b ∧ Duo w0 w' n (K + 1) F' G' M' R' ∧ Two F G F' G' w w' := by
  subst ha hb
  refine (act_any F G M R k p v K w h.mem h.rmem h.rel h.mok h.rok hK h.apart hv).mono ?_
  rintro e w' ⟨he, F', G', hm, hr, ht⟩
  refine ⟨he, F', G', _, _, ht.fa, ht.ga, ⟨by rw [PM.act_n]; exact h.size, hm, hr, h.rel.act k p v, h.mok.act k p v hv, h.rok.act k p v hv, ht.apart, fun i hi => ?_, fun i hi => ?_, h.bel.trans (ht.only.below h.bel.size h.new)⟩, ht⟩
  · rcases ht.newF i hi with h1 | h1
    · exact h.newF i h1
    · exact Nat.le_trans h.bel.size h1
  · rcases ht.newG i hi with h1 | h1
    · exact h.newG i h1
    · exact Nat.le_trans h.bel.size h1
/-- Its counters. -/
theorem Duo.counts {w0 w : World} {n K : Nat} {F : PF} {G : RF} {M : PM} {R : RM} (h : Duo w0 w n K F G M R) (a b : Nat) (ha : F.a = a) (hb : G.a = b) : ∃ S T : Int,
    (∀ w2, Mem w2 F M → Calls Try.prog 26 #[.pointer (some ⟨a, 0, .none⟩)] w2 fun e w' => e = .returned (.int .i64 S) ∧ w2 = w') ∧
    (∀ w2, Mem w2 F M → Calls Try.prog 24 #[.pointer (some ⟨a, 0, .none⟩)] w2 fun e w' => e = .returned (.int .i64 T) ∧ w2 = w') ∧
    w.cell? ⟨b, 7, .none⟩ = some (.int .i64 S) ∧ w.cell? ⟨b, 8, .none⟩ = some (.int .i64 T) := by
  subst ha hb
  obtain ⟨_, _, _, _, _, _, _, _, _, _, _, _, _, _, _, _, c7, c8, _⟩ := h.rmem.cells
  refine ⟨(M.steps : Nat), (M.stores : Nat), fun w2 h2 => steps_any F M w2 h2, fun w2 h2 => stores_any F M w2 h2, ?_, ?_⟩
  · rw [c7, h.rel.data.steps]
  · rw [c8, h.rel.data.many]
/-- A copy of both. -/
theorem copy_duo {w0 w : World} {n K : Nat} {F : PF} {G : RF} {M : PM} {R : RM} (h : Duo w0 w n K F G M R) (a : Nat) (ha : F.a = a) :
    Calls Try.prog 28 #[.pointer (some ⟨a, 0, .none⟩)] w fun e w' => ∃ F2 : PF, e = .returned (.pointer (some ⟨F2.a, 0, .none⟩)) ∧ Duo w0 w' n K F G M R ∧ Mem w' F2 M ∧ (∀ k, F2.has k → w.heap.size ≤ k) ∧ Below w.heap.size w w' := by
  subst ha
  refine (copy_any F M w h.mem).mono ?_
  rintro e w' ⟨F2, he, hm, hb, hk⟩
  exact ⟨F2, he, { h with mem := h.mem.below hb, rmem := h.rmem.below hb, bel := Cv.next h.bel hb }, hm, hk, hb⟩
theorem rcopy_duo {w0 w w1 : World} {n K : Nat} {F F2 : PF} {G : RF} {M : PM} {R : RM} (h : Duo w0 w1 n K F G M R) (hm : Mem w1 F2 M) (hk : ∀ k, F2.has k → w.heap.size ≤ k) (hw : w0.heap.size ≤ w.heap.size) (hlt : ∀ k, F.has k ∨ G.has k → k < w.heap.size) (b : Nat) (hb : G.a = b) :
    Calls Try.prog 29 #[.pointer (some ⟨b, 0, .none⟩)] w1 fun e w' => ∃ G2 : RF, e = .returned (.pointer (some ⟨G2.a, 0, .none⟩)) ∧ Duo w0 w' n K F G M R ∧ Duo w0 w' n K F2 G2 M R ∧ Far F G F2 G2 ∧ Below w1.heap.size w1 w' := by
  subst hb
  refine (rcopy_any G R w1 h.rmem).mono ?_
  rintro e w' ⟨G2, he, hr, hbe, hk2⟩
  have hin := hm.in_heap
  have h1 : Duo w0 w' n K F G M R := { h with mem := h.mem.below hbe, rmem := h.rmem.below hbe, bel := Cv.next h.bel hbe }
  refine ⟨G2, he, h1, ⟨h.size, hm.below hbe, hr, h.rel, h.mok, h.rok, fun k h3 h4 => ?_, fun k h3 => Nat.le_trans hw (hk k h3), fun k h3 => Nat.le_trans h.bel.size (hk2 k h3), h1.bel⟩, fun i h3 h4 => ?_, hbe⟩
  · have := hin k h3; have := hk2 k h4; omega
  · have := hlt i h3
    rcases h4 with h4 | h4
    · have := hk i h4; omega
    · have := hk2 i h4
      have := h.lt i h3
      omega
/-- A crash of both. -/
theorem crash_duo {w0 w : World} {n K : Nat} {F : PF} {G : RF} {M : PM} {R : RM} (h : Duo w0 w n K F G M R) (keep : Int) (a : Nat) (ha : F.a = a) :
    Calls Try.prog 20 #[.pointer (some ⟨a, 0, .none⟩), .int .i64 keep] w fun e w1 => e = .returned (.int .i64 0) ∧
      ∃ F', F'.a = a ∧ Calls Try.prog 31 #[.pointer (some ⟨G.a, 0, .none⟩), .int .i64 keep] w1 fun e w2 => e = .returned (.int .i64 0) ∧
        ∃ G' M' R', G'.a = G.a ∧ Duo w0 w2 n K F' G' M' R' := by
  subst ha
  refine (crash_any F M keep w h.mem).mono ?_
  rintro e w1 ⟨he, F', hm, hop⟩
  have hr1 := h.rmem.aside hop h.apart
  refine ⟨he, F', hop.1, (rcrash_any G R keep w1 hr1).mono ?_⟩
  rintro e2 w2 ⟨he2, G', hr, hor⟩
  have ht := two_of h.mem.in_heap h.rmem.in_heap h.apart (Below.refl _ _) hop (Below.refl _ _) hor hm.in_heap
  have hap2 : ∀ i, F'.has i → ¬ G.has i := fun i hi hg => by
    rcases hop.2.1 i hi with h1 | h1
    · exact h.apart i h1 hg
    · have := h.rmem.in_heap i hg; omega
  refine ⟨he2, G', M.crash keep, R.crash keep, hor.1, ⟨h.size, hm.aside hor hap2, hr, h.rel.crash keep, h.mok.crash keep, h.rok.crash keep, ht.apart, fun i hi => ?_, fun i hi => ?_, h.bel.trans (ht.only.below h.bel.size h.new)⟩⟩
  · rcases ht.newF i hi with h1 | h1
    · exact h.newF i h1
    · exact Nat.le_trans h.bel.size h1
  · rcases ht.newG i hi with h1 | h1
    · exact h.newG i h1
    · exact Nat.le_trans h.bel.size h1
/-- A word of both. -/
theorem Duo.word {w0 w : World} {n K : Nat} {F : PF} {G : RF} {M : PM} {R : RM} (h : Duo w0 w n K F G M R) (a b : Nat) (ha : F.a = a) (hb : G.a = b) :
    ∃ s cs, n * 8 ≤ cs ∧ w.cell? ⟨b, 0, .none⟩ = some (.slice (some ⟨s, 0, .none⟩) (n * 8 : Nat) cs) ∧ ∀ j : Nat, j < n * 8 → w.cell? ⟨s, j, .none⟩ = some (.int .u64 (R.seen j)) ∧
      Calls Try.prog 21 #[.pointer (some ⟨a, 0, .none⟩), .int .i64 j] w fun e w' => e = .returned (.tuple #[.int .u64 (R.seen j), .int .i64 0]) ∧ w = w' := by
  subst ha hb
  obtain ⟨cs, _, _, _, _, hcs, _, _, _, c0, _⟩ := h.rmem.cells
  have hn : R.n = n := h.rel.data.n.trans h.size
  have hs := h.rmem.seen
  rw [hn] at hcs c0 hs
  refine ⟨G.s, cs, hcs, c0, fun j hj => ⟨hs.cell j hj, ?_⟩⟩
  have hp : placeV M.n (j : Int) = 0 := by
    unfold placeV
    rw [h.size, if_neg (by omega)]
  refine (load_any F M j w h.mem).mono fun e w' hh => ⟨?_, hh.2⟩
  rw [hh.1, hp]
  unfold loadV
  rw [if_pos hp, Int.toNat_natCast, h.rel.data.seen]
theorem words_duo {w0 w : World} {n K : Nat} {F : PF} {G : RF} {M : PM} {R : RM} (h : Duo w0 w n K F G M R) (a : Nat) (ha : F.a = a) (x : Int) (hx : ((n * 8 : Nat) : Int) = x) :
    Calls Try.prog 23 #[.pointer (some ⟨a, 0, .none⟩)] w fun e w' => e = .returned (.int .i64 x) ∧ w = w' := by
  subst ha hx
  have := words_any F M w h.mem
  rw [h.size] at this
  exact this
/-- Both made. -/
theorem new_duo {w : World} {n : Nat} (h1 : 1 ≤ n) (h2 : n ≤ 8192) (x : Int) (hx : ((n * 8 : Nat) : Int) = x) :
    Calls Try.prog 16 #[.int .i64 x] w fun e w1 => ∃ a : Nat, e = .returned (.tuple #[.pointer (some ⟨a, 0, .none⟩), .int .i64 0]) ∧ Below w.heap.size w w1 ∧
      Calls Try.prog 27 #[.int .i64 x] w1 fun e w2 => ∃ b : Nat, e = .returned (.tuple #[.pointer (some ⟨b, 0, .none⟩), .int .i64 0]) ∧ Below w.heap.size w w2 ∧
        ∃ F G M R, F.a = a ∧ G.a = b ∧ Duo w w2 n 0 F G M R := by
  subst hx
  refine (new_any n w h1 h2).mono ?_
  rintro e w1 ⟨F, he, hm, hb, hk⟩
  refine ⟨F.a, he, hb, (rnew_any n w1 h1 h2).mono ?_⟩
  rintro e2 w2 ⟨G, he2, hr, hb2, hk2⟩
  have hb3 := Cv.next hb hb2
  refine ⟨G.a, he2, hb3, F, G, _, _, rfl, rfl, ⟨rfl, hm.below hb2, hr, Rel.fresh n, PM.ok.fresh n, RM.ok.fresh n, fun k h3 h4 => ?_, hk, fun k h3 => Nat.le_trans hb.size (hk2 k h3), hb3⟩⟩
  have := hm.in_heap k h3
  have := hk2 k h4
  omega
end Go.Proofs.Ytbflennacniacaa
