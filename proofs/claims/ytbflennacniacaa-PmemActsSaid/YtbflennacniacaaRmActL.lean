/- concourselaw1.act: the loads; all acts. -/
import Derived.Test.YtbflennacniacaaRmAct
import Derived.Deep.RegionHeld3
import Derived.BigQuiet
import Derived.Deep.QuietTactic
namespace Go.Proofs.Ytbflennacniacaa
open Go.RowKit
set_option linter.unusedVariables false
theorem quiet_k {P : Program} {f : FuncId} {args : Array Value} {w : World} {n : Nat} {v : Value}
    (h : Calls P f args (w.drewN n) fun e w' => e = .returned v ∧ w.drewN n = w') : Calls P f args (w.drewN n) fun e w'' => e = .returned v ∧ ∃ m, w'' = w.drewN m :=
  h.mono fun _ _ hh => ⟨hh.1, n, hh.2.symm⟩
set_option maxRecDepth 100000 in
set_option maxHeartbeats 4000000 in
theorem act_load (F : PF) (G : RF) (M : PM) (R : RM) (k p v : Int) (K : Nat) (w : World) (hm : Mem w F M) (hr : RMem w G R) (hrel : Rel M R) (hmo : M.ok K) (hro : R.ok K) (hK : K ≤ 1000000) (hap : ∀ i, F.has i → ¬ G.has i) (hv : wf64 v) (h4 : ¬ k < 4) (h6 : ¬ k < 6) (e6 : ¬ k = 6) (e7 : ¬ k = 7) (e8 : ¬ k = 8) :
    Calls Try.prog 30 #[.pointer (some ⟨F.a, 0, .none⟩), .pointer (some ⟨G.a, 0, .none⟩), actV k p v] w fun e w' => e = .returned (.bool true) ∧ ∃ F' G', Mem w' F' (M.act k p v) ∧ RMem w' G' (R.act k p v) ∧ Two F G F' G' w w' := by
  have hnn := hrel.data.n
  have ea : M.act k p v = M := by unfold PM.act; rw [if_neg h4, if_neg h6, if_neg e6, if_neg e7, if_neg e8]
  have eb : R.act k p v = R := by unfold RM.act; rw [if_neg h4, if_neg h6, if_neg e6, if_neg e7, if_neg e8]
  rw [ea, eb]
  unfold actV
  have q1 : decide (k < 4) = false := by simp; omega
  have q2 : decide (k < 6) = false := by simp; omega
  have qe6 : (k == 6) = false := by simp; omega
  have qe7 : (k == 7) = false := by simp; omega
  have qe8 : (k == 8) = false := by simp; omega
  obtain ⟨w1, hw1⟩ : ∃ w1, w.alloc (.cells #[.int .i64 k, .int .i64 p, .int .i64 v] 48) = w1 := ⟨_, rfl⟩
  obtain ⟨b, hb⟩ : ∃ b, w.heap.size = b := ⟨_, rfl⟩
  have hblk : w1.heap[b]? = some (.cells #[.int .i64 k, .int .i64 p, .int .i64 v] 48 (0, 0)) := by rw [← hw1, ← hb]; exact heap_alloc_new w _
  have hbw : Below w.heap.size w w1 := by rw [← hw1]; exact (Below.refl _ _).alloc (Nat.le_refl _) _
  have k0 := cell_of_row w1 b 0 _ _ (0, 0) hblk
  have k1 := cell_of_row w1 b 1 _ _ (0, 0) hblk
  have k2 := cell_of_row w1 b 2 _ _ (0, 0) hblk
  simp only [List.getElem?_toArray] at k0 k1 k2
  change w1.cell? _ = some (.int .i64 k) at k0
  change w1.cell? _ = some (.int .i64 p) at k1
  change w1.cell? _ = some (.int .i64 v) at k2
  have hm1 := hm.below hbw
  have hr1 := hr.below hbw
  have hin := hm.in_heap
  have hig := hr.in_heap
  have hnb : ¬ F.has b := fun h => by have := hin b h; omega
  have hng : ¬ G.has b := fun h => by have := hig b h; omega
  have hbs : b < w1.heap.size := (Array.getElem?_eq_some_iff.1 hblk).1
  have HM := Lib.hid hm1
  have HR := Lib.hid hr1
  have HIN := Lib.hid hin
  have HIG := Lib.hid hig
  have HNB := Lib.hid hnb
  have HNG := Lib.hid hng
  have HBW := Lib.hid hbw
  have HAP := Lib.hid hap
  have HBS := Lib.hid hbs
  have HMO := Lib.hid hmo
  have HRO := Lib.hid hro
  have HNN := Lib.hid hnn
  have HREL := Lib.hid hrel
  obtain ⟨cs, _, _, _, _, hcs, _, _, _, g0, _, _, _, _, _, _, _, _, _⟩ := hr1.cells
  have hgs := hr1.seen
  obtain ⟨N, hN⟩ : ∃ N, R.n * 8 = N := ⟨_, rfl⟩
  rw [hN] at g0 hgs
  have hMN : M.n * 8 = N := by rw [← hnn]; exact hN
  have hse := hrel.data.seen
  obtain ⟨V, hV⟩ : ∃ V, loadV M p = V := ⟨_, rfl⟩
  obtain ⟨E, hE⟩ : ∃ E, placeV M.n p = E := ⟨_, rfl⟩
  have hl := load_any F M p w1 hm1
  rw [hV, hE] at hl
  have HL := Lib.hid hl
  unfold loadV at hV
  rw [hE] at hV
  unfold placeV at hE
  rw [hMN] at hE
  have HGS := Lib.hid hgs
  have HSE := Lib.hid hse
  have hsz := hr1.size
  have HVV := Lib.hid hV
  clear hl hgs hse hV hN hMN
  clear hm hr hm1 hr1 hin hig hnb hng hbw hap hbs hmo hro hblk hrel ea eb hnn
  by_cases h1 : p < 0
  · rw [if_pos (Or.inl h1)] at hE
    subst hE
    have hV := HVV.out
    rw [if_neg (by decide)] at hV
    subst hV
    have r1 : decide (p < 0) = true := by simpa using h1
    clear HVV
    go_enter Try.func30, Try.ntmps30
    go_wp2_with fail
    refine HL.out.mono ?_
    rintro e w2 ⟨rfl, rfl⟩
    go_wp2_with fail
    go_quiet (fail)
    go_wp2_with fail
    refine (num1_any _ _).mono ?_
    rintro e3 w3 ⟨rfl, rfl⟩
    go_wp2_with fail
    go_ret
    exact ⟨by simp, F, G, HM.out.same (fun _ _ => rfl), HR.out.same (fun _ _ => rfl), two_of HIN.out HIG.out HAP.out HBW.out (Op.of_only (Only.refl _ _)) (Cv.drewN_below (Below.refl _ _) _) (OpR.of_only (Only.refl _ _)) HM.out.in_heap⟩
  · have r1 : decide (p < 0) = false := by simpa using h1
    by_cases h2 : (N : Int) ≤ p
    · rw [if_pos (Or.inr h2)] at hE
      subst hE
      have hV := HVV.out
      rw [if_neg (by decide)] at hV
      subst hV
      have r2 : decide ((N : Int) ≤ p) = true := by simpa using h2
      clear HVV
      go_enter Try.func30, Try.ntmps30
      go_wp2_with fail
      refine HL.out.mono ?_
      rintro e w2 ⟨rfl, rfl⟩
      go_wp2_with fail
      go_quiet (fail)
      go_wp2_with fail
      refine (num1_any _ _).mono ?_
      rintro e3 w3 ⟨rfl, rfl⟩
      go_wp2_with fail
      go_ret
      exact ⟨by simp, F, G, HM.out.same (fun _ _ => rfl), HR.out.same (fun _ _ => rfl), two_of HIN.out HIG.out HAP.out HBW.out (Op.of_only (Only.refl _ _)) (Cv.drewN_below (Below.refl _ _) _) (OpR.of_only (Only.refl _ _)) HM.out.in_heap⟩
    · rw [if_neg (by omega)] at hE
      subst hE
      have hV := HVV.out
      rw [if_pos rfl, ← HSE.out] at hV
      subst hV
      obtain ⟨j, rfl⟩ : ∃ j : Nat, p = (j : Int) := ⟨p.toNat, by omega⟩
      have hj : j < N := by omega
      rw [Int.toNat_natCast] at HL
      have r2 : decide ((N : Int) ≤ (j : Int)) = false := by simp; omega
      have r3 : decide (N ≤ j) = false := by simp; omega
      have gj := HGS.out.cell j hj
      change w1.cell? _ = some (.int .u64 (R.seen j)) at gj
      have b1 : (0 : Int) ≤ (j : Int) := by omega
      have b2 : (j : Int) < (N : Int) := by omega
      obtain ⟨X, hX⟩ : ∃ X, R.seen j = X := ⟨_, rfl⟩
      rw [hX] at gj HL
      clear HVV hX
      go_enter Try.func30, Try.ntmps30
      go_wp2_with fail
      refine HL.out.mono ?_
      rintro e w2 ⟨rfl, rfl⟩
      go_wp2_with fail
      go_quiet (fail)
      have g0' : (w1.drewN nq).cell? ⟨G.a, 0, .none⟩ = some (.slice (some ⟨G.s, 0, .none⟩) N cs) := g0
      have gj' : (w1.drewN nq).cell? ⟨G.s, j, .none⟩ = some (.int .u64 X) := gj
      have k1' : (w1.drewN nq).cell? ⟨b, 1, .none⟩ = some (.int .i64 (j : Int)) := k1
      have HM5 := Lib.hid (HM.out.drewN nq)
      have HR5 := Lib.hid (HR.out.drewN nq)
      have HB5 : Hid (Below w1.heap.size w1 (w1.drewN nq)) := Lib.hid (Cv.drewN_below (Below.refl _ _) nq)
      have HS5 : Hid ((w1.drewN nq).heap.size = w1.heap.size) := Lib.hid rfl
      obtain ⟨w5, hw5⟩ : ∃ w5, w1.drewN nq = w5 := ⟨_, rfl⟩
      rw [hw5] at g0' gj' k1' HM5 HR5 HB5 HS5 ⊢
      clear hw5 g0 gj k1 k0 k2
      go_wp2_with fail
      go_quiet ((go_at_call 22; exact quiet_k (num1_any _ _)))
      go_wp2_with fail
      go_ret
      exact ⟨by simp, F, G, HM5.out.same (fun _ _ => rfl), HR5.out.same (fun _ _ => rfl), two_of HIN.out HIG.out HAP.out HBW.out (Op.of_only (Only.refl _ _)) (Cv.drewN_below HB5.out _) (OpR.of_only (Only.refl _ _)) HM.out.in_heap⟩
theorem act_any (F : PF) (G : RF) (M : PM) (R : RM) (k p v : Int) (K : Nat) (w : World) (hm : Mem w F M) (hr : RMem w G R) (hrel : Rel M R) (hmo : M.ok K) (hro : R.ok K) (hK : K ≤ 1000000) (hap : ∀ i, F.has i → ¬ G.has i) (hv : wf64 v) :
    Calls Try.prog 30 #[.pointer (some ⟨F.a, 0, .none⟩), .pointer (some ⟨G.a, 0, .none⟩), actV k p v] w fun e w' => e = .returned (.bool true) ∧ ∃ F' G', Mem w' F' (M.act k p v) ∧ RMem w' G' (R.act k p v) ∧ Two F G F' G' w w' := by
  by_cases h4 : k < 4
  · exact act_store F G M R k p v K w hm hr hrel hmo hro hK hap hv h4
  · by_cases h6 : k < 6
    · exact act_flush F G M R k p v K w hm hr hrel hmo hro hK hap hv h4 h6
    · by_cases e6 : k = 6
      · exact act_fence F G M R k p v K w hm hr hrel hmo hro hK hap hv e6
      · by_cases e7 : k = 7
        · exact act_fuse F G M R k p v K w hm hr hrel hmo hro hK hap hv e7
        · by_cases e8 : k = 8
          · exact act_crash F G M R k p v K w hm hr hrel hmo hro hK hap hv e8
          · exact act_load F G M R k p v K w hm hr hrel hmo hro hK hap hv h4 h6 e6 e7 e8
end Go.Proofs.Ytbflennacniacaa
