/- concourseref1.Mem: Store, Fuse, each by its contract. -/
import Derived.Test.YtbflennacniacaaRmMark
namespace Go.Proofs.Ytbflennacniacaa
open Go.RowKit
set_option linter.unusedVariables false
def RM.putSeen (M : RM) (p : Nat) (v : Int) : RM := { M with many := M.many + 1, seen := updI M.seen p v }
def RM.store (M : RM) (p v : Int) : RM := if placeV M.n p = 0 then (M.worked.putSeen p.toNat v).marked else M
theorem RM.worked_same (M : RM) : M.worked.n = M.n ∧ M.worked.seen = M.seen ∧ M.worked.last = M.last ∧ M.worked.way = M.way ∧ M.worked.going = M.going ∧ M.worked.fuse = M.fuse ∧ M.worked.fin = M.fin ∧ M.worked.steps = M.steps + 1 ∧ M.worked.many = M.many := by
  unfold RM.worked; split <;> exact ⟨rfl, rfl, rfl, rfl, rfl, rfl, rfl, rfl, rfl⟩
theorem RowT.set {w : World} {t : TypeId} {b N : Nat} {f : Nat → Value} (h : RowT w t b N f) (j : Nat) (v : Value) : RowT (w.setCell ⟨b, j, .none⟩ v) t b N (fun i => if i = j then v else f i) := by
  obtain ⟨cur, hh, hc⟩ := h
  refine ⟨_, heap_setCell_same w b j cur _ v hh, fun i hi => ?_⟩
  have h1 := hc i hi
  rw [Array.getElem?_setIfInBounds]
  have hlt : i < cur.size := (Array.getElem?_eq_some_iff.1 h1).1
  by_cases e : j = i
  · subst e
    simp [hlt]
  · rw [if_neg e]
    show _ = some (if i = j then v else f i)
    rw [h1, if_neg (fun h => e h.symm)]
theorem RMem.setSeen {w : World} {F : RF} {M : RM} (h : RMem w F M) (j : Nat) (v : Int) : RMem (w.setCell ⟨F.s, j, .none⟩ (.int .u64 v)) F { M with seen := updI M.seen j v } := by
  obtain ⟨k1, k2, k3, k4, k5, k6, k7, k8⟩ := h.kinds
  have other : ∀ i, i ≠ F.s → (w.setCell ⟨F.s, j, .none⟩ (.int .u64 v)).heap[i]? = w.heap[i]? := fun i hi => Below.heap_setCell w ⟨F.s, j, .none⟩ _ i hi
  obtain ⟨cs, cl, cy, cg, ce, h1, h2, h3, h4, h5⟩ := h.blk
  refine ⟨⟨cs, cl, cy, cg, ce, h1, h2, h3, h4, (other _ k1).trans h5⟩, ?_, h.last.same (other _ (Ne.symm h.apart.1)), h.way.same (other _ (Ne.symm h.apart.2.1)), h.going.same (other _ k5), fun g hg => ⟨(h.fin g hg).1.same (other _ (h.fin g hg).2.1), (h.fin g hg).2⟩, h.apart, h.size, h.idle⟩
  obtain ⟨cur, hh, hc⟩ := h.seen.set j (.int .u64 v)
  refine ⟨cur, hh, fun i hi => ?_⟩
  rw [hc i hi]
  show some (if i = j then Value.int .u64 v else .int .u64 (M.seen i)) = some (.int .u64 (if i = j then v else M.seen i))
  split <;> rfl
set_option maxHeartbeats 1000000 in
set_option maxRecDepth 100000 in
theorem rstore_any (F : RF) (M : RM) (p v r : Int) (w : World) (h : RMem w F M) (hs : M.steps ≤ 1099511627776) (hm : M.many ≤ 1099511627776) (hl : wf64 M.left) (hr : placeV M.n p = r) :
    Calls Try.prog 50 #[.pointer (some ⟨F.a, 0, .none⟩), .int .i64 p, .int .u64 v] w fun e w' => e = .returned (.int .i64 r) ∧ ∃ F', RMem w' F' (M.store p v) ∧ OpR F F' w w' := by
  obtain ⟨cs, cl, cy, cg, ce, _, _, _, _, c0, _, _, _, _, _, _, _, _, hfz⟩ := h.cells
  obtain ⟨N, hN⟩ : ∃ N : Nat, M.n * 8 = N := ⟨_, rfl⟩
  have hsame : OpR F F w w := OpR.of_only (Only.refl _ _)
  have HS := Lib.hid hsame
  have HM := Lib.hid h
  have HR := Lib.hid hr
  rw [hN] at c0
  have hr1 := hr
  unfold placeV at hr1
  rw [hN] at hr1
  have HN := Lib.hid hN
  have HST := Lib.hid hs
  have HMN := Lib.hid hm
  have HLF := Lib.hid hl
  clear hfz h hsame hN hr hs hm hl
  by_cases h1 : p < 0
  · rw [if_pos (Or.inl h1)] at hr1
    subst hr1
    have bad : M.store p v = M := by unfold RM.store; rw [if_neg (by rw [HR.out]; decide)]
    rw [bad]
    clear bad
    have q1 : decide (p < 0) = true := by simpa using h1
    go_enter Try.func50, Try.ntmps50
    go_wp2_with fail
    go_ret
    exact ⟨rfl, F, HM.out, HS.out⟩
  · have q1 : decide (p < 0) = false := by simpa using h1
    by_cases h2 : (N : Int) ≤ p
    · rw [if_pos (Or.inr h2)] at hr1
      subst hr1
      have bad : M.store p v = M := by unfold RM.store; rw [if_neg (by rw [HR.out]; decide)]
      rw [bad]
      clear bad
      have q2 : decide ((N : Int) ≤ p) = true := by simpa using h2
      go_enter Try.func50, Try.ntmps50
      go_wp2_with fail
      go_ret
      exact ⟨rfl, F, HM.out, HS.out⟩
    · have q2 : decide ((N : Int) ≤ p) = false := by simpa using h2
      rw [if_neg (by omega)] at hr1
      subst hr1
      obtain ⟨k, rfl⟩ : ∃ k : Nat, p = (k : Int) := ⟨p.toNat, by omega⟩
      have hk : k < N := by omega
      have good : M.store (k : Int) v = (M.worked.putSeen k v).marked := by unfold RM.store; rw [if_pos HR.out, Int.toNat_natCast]
      rw [good]
      clear good
      go_enter Try.func50, Try.ntmps50
      go_wp2_with fail
      refine (works_any F M w HM.out HST.out HLF.out).mono ?_
      rintro e w1 ⟨rfl, hm1, ho1⟩
      obtain ⟨e1, e2, e3, e4, e5, e6, e7, e8, e9⟩ := M.worked_same
      obtain ⟨_, _, _, _, _, _, _, _, _, _, _, _, _, _, _, _, _, d8, hfz1⟩ := hm1.cells
      have g8 := hfz1 8
      have hm2 := hm1.setMany
      obtain ⟨cs2, _, _, _, _, _, _, _, _, b0, _, _, _, _, _, _, _, _, _⟩ := hm2.cells
      have hn2 : M.worked.n * 8 = N := by rw [e1]; exact HN.out
      have b0' := b0
      change World.cell? _ _ = some (.slice (some ⟨F.s, 0, .none⟩) ((M.worked.n * 8 : Nat)) cs2) at b0'
      rw [hn2] at b0'
      have hc2 := hm2.seen.cell k (by rw [show ({ M.worked with many := M.worked.many + 1 } : RM).n = M.worked.n from rfl, hn2]; exact hk)
      have hz2 := hm2.seen.frozen k
      have hm3 := hm2.setSeen k v
      have ho3 := (ho1.setCell (p := ⟨F.a, 8, .none⟩) (.inl (.inl rfl)) (.int .i64 ((M.worked.many : Int) + 1))).setCell (p := ⟨F.s, k, .none⟩) (.inl (.inr (.inl rfl))) (.int .u64 v)
      have hmny := HMN.out
      rw [← e9] at hmny
      obtain ⟨y, hy⟩ : ∃ y, M.worked.many = y := ⟨_, rfl⟩
      obtain ⟨sv, hsv⟩ : ∃ sv, wordV M.worked.seen k = sv := ⟨_, rfl⟩
      change World.cell? _ _ = some (wordV M.worked.seen k) at hc2
      rw [hsv] at hc2
      change World.cell? _ _ = some (.int .i64 (M.worked.many : Nat)) at d8
      rw [hy] at d8 hmny b0' hc2 hz2 hm3 ho3
      have i1 : IntKind.i64.wrap ((y : Int) + 1) = (y : Int) + 1 := by rw [IntKind.wrap_i64]; omega
      have HM3 := Lib.hid hm3
      have HO3 := Lib.hid ho3
      have HY := Lib.hid hy
      clear hm1 ho1 e1 e2 e3 e4 e5 e6 e7 e8 e9 hfz1 hm2 b0 hn2 hm3 ho3 hmny hsv hy
      go_wp2_with fail
      refine (rmark_any F _ _ HM3.out).mono ?_
      rintro e w2 ⟨rfl, F', hm4, hop⟩
      have HM4 := Lib.hid hm4
      have HOP := Lib.hid ((OpR.of_only HO3.out).trans hop)
      clear hm4 hop
      go_wp2_with fail
      go_ret
      exact ⟨rfl, F', by unfold RM.putSeen; rw [HY.out]; exact HM4.out, HOP.out⟩
end Go.Proofs.Ytbflennacniacaa
