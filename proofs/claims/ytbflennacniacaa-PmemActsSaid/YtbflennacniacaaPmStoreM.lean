/- pmem.Mem.Store, by its contract. -/
import Derived.Test.YtbflennacniacaaPmStore
import Derived.Test.YtbflennacniacaaPmStep
namespace Go.Proofs.Ytbflennacniacaa
open Go.RowKit
set_option linter.unusedVariables false
theorem box_new (w : World) (b : Nat) (v : Value) (t : TypeId) (hb : b = w.heap.size) : (w.alloc (.cells #[v] t)).cell? ⟨b, 0, .none⟩ = some v := by
  subst hb
  exact (World.cell?_alloc_mark w _ _ (0, 0) _).trans rfl
theorem box_old {w : World} {p : Addr} {v : Value} (h : w.cell? p = some v) (o : Obj) : (w.alloc o).cell? p = some v :=
  (World.cell?_of_block (Below.heap_alloc w o p.block (World.block_lt_of_cell? w p h))).trans h
def PM.store (M : PM) (p : Int) (v : Int) : PM := if placeV M.n p = 0 then ((M.stepped).stored p.toNat v).ticked else M
theorem placeV_zero {n : Nat} {p : Int} (h : placeV n p = 0) : ∃ k : Nat, p = (k : Int) ∧ k < n * 8 := by
  have hp : ¬ (p < 0 ∨ (n * 8 : Nat) ≤ p) := by
    intro hh
    unfold placeV at h
    rw [if_pos hh] at h
    omega
  exact ⟨p.toNat, by omega, by omega⟩
set_option maxRecDepth 100000 in
set_option maxHeartbeats 1000000 in
theorem store_any (F : PF) (M : PM) (p v : Int) (w : World) (h : Mem w F M) (hst : M.steps ≤ 1099511627776) (hss : M.stores ≤ 1099511627776) (hfu : wf64 M.fuse) :
    Calls Try.prog 17 #[.pointer (some ⟨F.a, 0, .none⟩), .int .i64 p, .int .u64 v] w fun e w' => e = .returned (.int .i64 (placeV M.n p)) ∧ ∃ F', Mem w' F' (M.store p v) ∧ Op F F' w w' := by
  have hin := h.in_heap
  obtain ⟨w0, hw0⟩ : ∃ w0, ((w.alloc (.cells #[.pointer (some ⟨F.a, 0, .none⟩)] 24)).alloc (.cells #[.int .i64 p] 3)).alloc (.cells #[.int .u64 v] 29) = w0 := ⟨_, rfl⟩
  have hal : Below w.heap.size w w0 := by
    rw [← hw0]
    exact (((Below.refl _ _).alloc (Nat.le_refl _) _).alloc (by simp) _).alloc (by simp; omega) _
  have c1 : w0.cell? ⟨w.heap.size, 0, .none⟩ = some (.pointer (some ⟨F.a, 0, .none⟩)) := by
    rw [← hw0]
    exact box_old (box_old (box_new w _ _ _ rfl) _) _
  have c2 : w0.cell? ⟨w.heap.size + 1, 0, .none⟩ = some (.int .i64 p) := by
    rw [← hw0]
    exact box_old (box_new _ _ _ _ (by simp)) _
  have c3 : w0.cell? ⟨w.heap.size + 1 + 1, 0, .none⟩ = some (.int .u64 v) := by
    rw [← hw0]
    exact box_new _ _ _ _ (by simp)
  have hm0 : Mem w0 F M := h.below hal
  have HM := Lib.hid hm0
  have HAL := Lib.hid hal
  obtain ⟨S, hS⟩ : ∃ S, placeV M.n p = S := ⟨_, rfl⟩
  rw [hS]
  have HS := Lib.hid hS
  have nin : ∀ k, w.heap.size ≤ k → ¬ F.has k := fun k hk hf => by have := hin k hf; omega
  have NIN := Lib.hid nin
  have HFU := Lib.hid hfu
  clear h hS hal hm0 hin nin hfu
  go_enter Try.func17, Try.ntmps17
  go_wp2_with fail
  refine (place_any F M p w0 HM.out).mono ?_
  rintro e w1 ⟨rfl, rfl⟩
  rw [HS.out]
  by_cases h0 : S = 0
  · subst h0
    obtain ⟨k, rfl, hk⟩ := placeV_zero HS.out
    have hM' : M.store (k : Int) v = ((M.stepped).stored k v).ticked := by
      unfold PM.store
      rw [if_pos HS.out, Int.toNat_natCast]
    have HM' := Lib.hid hM'
    clear hM'
    go_wp2_with fail
    refine (step_any F M ((M.stepped).stored k v) 42 #[.pointer (some ⟨w.heap.size, 0, .none⟩), .pointer (some ⟨w.heap.size + 1 + 1, 0, .none⟩), .pointer (some ⟨w.heap.size + 1, 0, .none⟩)] w0 HM.out hst HFU.out ⟨rfl, rfl⟩ (fun b u => rfl) ?_).mono ?_
    · intro w1 hm1 ho1
      exact (store1_any F M.stepped k v w.heap.size (w.heap.size + 1 + 1) (w.heap.size + 1) _ w1 hm1 hk hss (ho1.cell c1 (NIN.out _ (Nat.le_refl _))) (ho1.cell c3 (NIN.out _ (by show w.heap.size ≤ w.heap.size + 1 + 1; omega))) (ho1.cell c2 (NIN.out _ (by show w.heap.size ≤ w.heap.size + 1; omega)))
        (NIN.out _ (Nat.le_refl _)) (NIN.out _ (by omega)) (NIN.out _ (by omega))).mono fun e w2 h => h
    · rintro e w2 ⟨rfl, F', hm2, hop⟩
      have HM2 := Lib.hid hm2
      have HOP := Lib.hid hop
      clear hm2 hop
      go_wp2_with fail
      go_ret
      refine ⟨rfl, F', by rw [HM'.out]; exact HM2.out, HOP.out.1, fun k hk => (HOP.out.2.1 k hk).imp id fun h => Nat.le_trans HAL.out.size h, ?_⟩
      exact (Below.only HAL.out F.has).trans HOP.out.2.2
  · have q1 : (S != 0) = true := by rw [bne_iff_ne]; exact h0
    have hM' : M.store p v = M := by
      unfold PM.store
      rw [if_neg (by rw [HS.out]; exact h0)]
    go_wp2_with fail
    go_ret
    exact ⟨rfl, F, by rw [hM']; exact HM.out, Op.of_only (Below.only HAL.out F.has)⟩
end Go.Proofs.Ytbflennacniacaa
