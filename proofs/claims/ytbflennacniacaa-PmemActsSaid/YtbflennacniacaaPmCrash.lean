/- pmem.Mem.Crash, by its contract. -/
import Derived.Test.YtbflennacniacaaPmCrash0
namespace Go.Proofs.Ytbflennacniacaa
open Go.RowKit
set_option linter.unusedVariables false
def PF.wasB (F : PF) (M : PM) : Nat := if M.fin.isNone then F.s else F.e
theorem Mem.wasRow {w : World} {F : PF} {M : PM} (h : Mem w F M) : RowAt w (F.wasB M) (M.n * 8) M.was ∧ F.wasB M ≠ F.l ∧ F.has (F.wasB M) := by
  obtain ⟨a1, a2, a3⟩ := h.apart
  unfold PF.wasB PM.was
  cases hf : M.fin with
  | none => exact ⟨h.seen, a1, .inr (.inl rfl)⟩
  | some g => exact ⟨h.fin g hf, Ne.symm a3, .inr (.inr (.inr (.inr rfl)))⟩
theorem Mem.setSeenRow {w : World} {F : PF} {M : PM} (h : Mem w F M) (g cap : Nat) (f : Nat → Int) (hcap : M.n ≤ cap) (hg : g ≠ F.l ∧ g ≠ F.a ∧ g ≠ F.y ∧ g ≠ F.e) (hr : RowAt w g (M.n * 8) f) :
    Mem (w.setCell ⟨F.a, 0, .none⟩ (.slice (some ⟨g, 0, .none⟩) M.n cap)) { F with s := g } { M with seen := f } := by
  obtain ⟨k1, k2, k3, k4, k5, k6⟩ := h.kinds
  have other : ∀ i, i ≠ F.a → (w.setCell ⟨F.a, 0, .none⟩ (.slice (some ⟨g, 0, .none⟩) M.n cap)).heap[i]? = w.heap[i]? := fun i hi => Below.heap_setCell w ⟨F.a, 0, .none⟩ _ i hi
  obtain ⟨cs, cl, ce, h1, h2, h3⟩ := h.blk
  refine ⟨⟨cap, cl, ce, hcap, h2, heap_setCell_same w F.a 0 _ _ _ h3⟩, hr.same (other _ hg.2.1), h.lasts.same (other _ (Ne.symm k2)), fun f' hf => (h.fin f' hf).same (other _ (Ne.symm (k6 f' hf).1)), ?_, ⟨hg.1, hg.2.2.2, h.apart.2.2⟩, h.size, h.idle⟩
  obtain ⟨D, h4, h5⟩ := h.way
  exact ⟨D, h4, way_same h5 (other _ (Ne.symm k3))⟩
theorem Mem.setNoEnd {w : World} {F : PF} {M : PM} (h : Mem w F M) : Mem (w.setCell ⟨F.a, 4, .none⟩ (.slice .none 0 0)) { F with e := F.a } { M with fin := none } := by
  obtain ⟨k1, k2, k3, k4, k5, k6⟩ := h.kinds
  have other : ∀ i, i ≠ F.a → (w.setCell ⟨F.a, 4, .none⟩ (.slice .none 0 0)).heap[i]? = w.heap[i]? := fun i hi => Below.heap_setCell w ⟨F.a, 4, .none⟩ _ i hi
  obtain ⟨cs, cl, ce, h1, h2, h3⟩ := h.blk
  refine ⟨⟨cs, cl, 0, h1, h2, heap_setCell_same w F.a 4 _ _ _ h3⟩, h.seen.same (other _ (Ne.symm k1)), h.lasts.same (other _ (Ne.symm k2)), fun f' hf => (by cases hf), ?_, ⟨h.apart.1, Ne.symm k1, Ne.symm k2⟩, h.size, fun _ => rfl⟩
  obtain ⟨D, h4, h5⟩ := h.way
  exact ⟨D, h4, way_same h5 (other _ (Ne.symm k3))⟩
theorem crashI_same {was : Nat → Int} {keep : Int} {ls L : Nat → Int} {a ci : Nat} (hL : (crashI was keep ls a).2 = L) (hc : (crashI was keep ls a).1 = ci) (hs : sameW (lineOf was a) (lineOf L a) = true) : crashI was keep ls (a + 1) = (ci, L) := by
  unfold crashI
  simp only
  rw [hL, if_pos hs, ← hL, ← hc]
theorem crashI_other {was : Nat → Int} {keep : Int} {ls L : Nat → Int} {a ci : Nat} (hL : (crashI was keep ls a).2 = L) (hc : (crashI was keep ls a).1 = ci) (hs : sameW (lineOf was a) (lineOf L a) = false) :
    crashI was keep ls (a + 1) = (ci + 1, if keptB keep ci then putLine L a (lineOf was a) else L) := by
  unfold crashI
  simp only
  rw [hL, hc, if_neg (by rw [hs]; simp)]
def PM.withLasts (M : PM) (L : Nat → Int) : PM := { M with lasts := L }
set_option maxRecDepth 100000 in
set_option maxHeartbeats 2000000 in
theorem crash_any (F : PF) (M : PM) (keep : Int) (w : World) (h : Mem w F M) :
    Calls Try.prog 20 #[.pointer (some ⟨F.a, 0, .none⟩), .int .i64 keep] w fun e w' => e = .returned (.int .i64 0) ∧ ∃ F', Mem w' F' (M.crash keep) ∧ Op F F' w w' := by
  obtain ⟨cs, cl, ce, hcs, hcl, c0, c1, c2, c3, c4, _, _, hfz⟩ := h.cells
  have hsz := h.size
  have HM := Lib.hid h
  have hneq := neq_slice_nil (P := Try.prog) 72 78 Try.underlying72
  obtain ⟨hwr, hwl, hwh⟩ := h.wasRow
  obtain ⟨wf, hwf⟩ : ∃ x, M.was = x := ⟨_, rfl⟩
  obtain ⟨B, hB⟩ : ∃ x, F.wasB M = x := ⟨_, rfl⟩
  have HWF := Lib.hid hwf
  have HWB := Lib.hid hB
  obtain ⟨N, hN⟩ : ∃ N, M.n = N := ⟨_, rfl⟩
  cases hf : M.fin with
  | none =>
    have e1 : F.s = B := by rw [← hB]; unfold PF.wasB; rw [hf]; rfl
    rw [hf] at c4
    unfold endV at c4
    rw [e1] at c0
    have HF := Lib.hid hf
    have HE := Lib.hid e1
    clear h hfz hf hwr hwf hB e1 c3 c2
    rw [hN] at c0 c1 hcs hcl hsz
    have HN := Lib.hid hN
    clear hN
    go_enter Try.func20, Try.ntmps20
    go_wp2_with fail
    go_loopw [6, 25] (fun i k wr => ∃ a : Nat, a ≤ N ∧ k = .int .i64 a ∧ i = .int .i64 ((crashI wf keep M.lasts a).1 : Nat) ∧ Mem wr F (M.withLasts (crashI wf keep M.lasts a).2) ∧ Only F.has w wr)
      (fun _ k _ => N - (intOf k).toNat)
    case atStart => exact ⟨0, Nat.zero_le _, rfl, rfl, HM.out, Only.refl _ _⟩
    case round =>
      obtain ⟨a, ha, rfl, rfl, hm, ho⟩ := hrel
      obtain ⟨L, hL⟩ : ∃ L, (crashI wf keep M.lasts a).2 = L := ⟨_, rfl⟩
      obtain ⟨ci, hci⟩ : ∃ ci, (crashI wf keep M.lasts a).1 = ci := ⟨_, rfl⟩
      have hcia : ci ≤ a := by rw [← hci]; exact crashI_le _ _ _ _
      rw [hL] at hm
      rw [hci]
      obtain ⟨cs1, cl1, ce1, _, _, d0, d1, d2, _⟩ := hm.cells
      have d1' : wr.cell? ⟨F.a, 1, .none⟩ = some (.slice (some ⟨F.l, 0, .none⟩) N cl1) := by rw [← HN.out]; exact d1
      have d2' : wr.cell? ⟨F.a, 2, .none⟩ = some (.map (some F.y)) := d2
      have HME := Lib.hid hm
      have HON := Lib.hid ho
      have HL := Lib.hid hL
      have HCI := Lib.hid hci
      clear d0 d1 d2 hm ho hL hci
      by_cases hlt : a < N
      · have qlt : decide (a < N) = true := by simpa using hlt
        have hbr : RowAt wr B (N * 8) wf := by
          have := HME.out.wasRow.1
          rw [show F.wasB (M.withLasts L) = B from HWB.out, show (M.withLasts L).n = N from HN.out, show (M.withLasts L).was = wf from HWF.out] at this
          exact this
        have hlr : RowAt wr F.l (N * 8) L := by
          have := HME.out.lasts
          rw [show (M.withLasts L).n = N from HN.out] at this
          exact this
        have bc : ∀ j, j < 8 → wr.cell? ⟨B, a * 8 + j, .none⟩ = some (.int .u64 (lineOf wf a j)) := fun j hj => hbr.cell (a * 8 + j) (by omega)
        have lc : ∀ j, j < 8 → wr.cell? ⟨F.l, a * 8 + j, .none⟩ = some (.int .u64 (lineOf L a j)) := fun j hj => hlr.cell (a * 8 + j) (by omega)
        have b0 : wr.cell? ⟨B, a * 8, .none⟩ = some (.int .u64 (lineOf wf a 0)) := bc 0 (by omega)
        have b1 := bc 1 (by omega)
        have b2 := bc 2 (by omega)
        have b3 := bc 3 (by omega)
        have b4 := bc 4 (by omega)
        have b5 := bc 5 (by omega)
        have b6 := bc 6 (by omega)
        have b7 := bc 7 (by omega)
        have l0 : wr.cell? ⟨F.l, a * 8, .none⟩ = some (.int .u64 (lineOf L a 0)) := lc 0 (by omega)
        have l1 := lc 1 (by omega)
        have l2 := lc 2 (by omega)
        have l3 := lc 3 (by omega)
        have l4 := lc 4 (by omega)
        have l5 := lc 5 (by omega)
        have l6 := lc 6 (by omega)
        have l7 := lc 7 (by omega)
        have z0 : wr.frozen? ⟨F.l, a * 8, .none⟩ = false := hlr.frozen (a * 8)
        have z1 := hlr.frozen (a * 8 + 1)
        have z2 := hlr.frozen (a * 8 + 2)
        have z3 := hlr.frozen (a * 8 + 3)
        have z4 := hlr.frozen (a * 8 + 4)
        have z5 := hlr.frozen (a * 8 + 5)
        have z6 := hlr.frozen (a * 8 + 6)
        have z7 := hlr.frozen (a * 8 + 7)
        have heq := eql_line (lineOf wf a) (lineOf L a)
        unfold lineV at heq
        obtain ⟨S, hS⟩ : ∃ S, sameW (lineOf wf a) (lineOf L a) = S := ⟨_, rfl⟩
        rw [hS] at heq
        have HS := Lib.hid hS
        clear bc lc hbr hlr hS
        cases S with
        | true =>
          go_wp2_with fail
          go_quiet (fail)
          go_wp2_with fail
          have hn := crashI_same HL.out HCI.out HS.out
          exact ⟨⟨a + 1, by omega, by go_num, by rw [hn], by rw [hn]; exact HME.out.drewN _, HON.out.drewN _⟩, by simp [intOf]; omega⟩
        | false =>
          go_wp2_with fail
          go_quiet (fail)
          go_wp2_with fail
          refine (kept_any keep ci _ (by omega)).mono ?_
          rintro e w1 ⟨rfl, rfl⟩
          obtain ⟨Kp, hKp⟩ : ∃ K, keptB keep ci = K := ⟨_, rfl⟩
          rw [hKp]
          have HK := Lib.hid hKp
          clear hKp
          cases Kp with
          | false =>
            go_wp2_with fail
            have hn := crashI_other HL.out HCI.out HS.out
            rw [HK.out] at hn
            exact ⟨⟨a + 1, by omega, by go_num, by rw [hn]; go_num, by rw [hn]; exact HME.out.drewN _, HON.out.drewN _⟩, by simp [intOf]; omega⟩
          | true =>
            go_wp2_with fail
            go_region
            have hn := crashI_other HL.out HCI.out HS.out
            rw [HK.out] at hn
            rw [← setLine_eq]
            have hm2 := (HME.out.drewN (nq + 1)).setLine a (lineOf wf a)
            have ho2 := (HON.out.drewN (nq + 1)).setLine (b := F.l) (.inr (.inr (.inl rfl))) (a * 8) (lineOf wf a)
            obtain ⟨W2, hW2⟩ : ∃ W2, (wr.drewN (nq + 1)).setCells F.l (a * 8) (line8 (lineOf wf a)) = W2 := ⟨_, rfl⟩
            rw [hW2] at hm2 ho2 ⊢
            clear hW2
            go_wp2_with fail
            exact ⟨⟨a + 1, by omega, by go_num, by rw [hn]; go_num, by rw [hn]; exact hm2, ho2⟩, by simp [intOf]; omega⟩
      · obtain rfl : a = N := by omega
        have qlt : decide (a < a) = false := by simp
        clear hlt
        have hlr : RowAt wr F.l (a * 8) L := by
          have := HME.out.lasts
          rw [show (M.withLasts L).n = a from HN.out] at this
          exact this
        have HLR := Lib.hid hlr
        clear hlr
        go_wp2_with fail
        refine (clone_any F.l a cl1 L wr HLR.out hsz.1 hsz.2).mono ?_
        rintro e w1 ⟨g, cap, rfl, hcap, hg, hrow, hb⟩
        have hin := HME.out.in_heap
        have hm1 : Mem w1 F (M.withLasts L) := HME.out.below hb
        have ge : ∀ k, F.has k → g ≠ k := fun k hk e => by have := hin k hk; omega
        have hm2 := hm1.setSeenRow g cap L (by show M.n ≤ cap; rw [HN.out]; exact hcap) ⟨ge _ (.inr (.inr (.inl rfl))), ge _ (.inl rfl), ge _ (.inr (.inr (.inr (.inl rfl)))), ge _ (.inr (.inr (.inr (.inr rfl))))⟩ (by show RowAt w1 g (M.n * 8) L; rw [HN.out]; exact hrow)
        rw [show (M.withLasts L).n = a from HN.out] at hm2
        have hop2 : Op F { F with s := g } w (w1.setCell ⟨F.a, 0, .none⟩ (.slice (some ⟨g, 0, .none⟩) a cap)) := by
          refine ⟨rfl, fun k hk => ?_, (HON.out.trans (Below.only hb F.has)).setCell (.inl (.inl rfl)) _⟩
          rcases hk with h | h | h | h | h
          · exact .inl (.inl h)
          · exact .inr (by rw [h]; exact Nat.le_trans HON.out.size hg)
          · exact .inl (.inr (.inr (.inl h)))
          · exact .inl (.inr (.inr (.inr (.inl h))))
          · exact .inl (.inr (.inr (.inr (.inr h))))
        obtain ⟨cs4, cl4, ce4, _, _, g0, _, g2, _, _, _, _, hfz1⟩ := hm1.cells
        have y0 := hfz1 0
        obtain ⟨W2, hW2⟩ : ∃ W2, w1.setCell ⟨F.a, 0, .none⟩ (.slice (some ⟨g, 0, .none⟩) a cap) = W2 := ⟨_, rfl⟩
        rw [hW2] at hm2 hop2
        obtain ⟨D, hrelD, hownD⟩ := hm2.way
        obtain ⟨W3, hrun, hown3, hgr3⟩ := run_clear_way (w := W2) 0 hownD
        have hm3 := hm2.setWay (WayRel.empty _) hown3 hgr3
        obtain ⟨cs5, cl5, ce5, _, _, _, _, q2, _⟩ := hm2.cells
        have q2' : W2.cell? ⟨F.a, 2, .none⟩ = some (.map (some F.y)) := q2
        obtain ⟨cs6, cl6, ce6, _, _, _, _, _, r3, r4, _, _, hfz3⟩ := hm3.cells
        have r3' : W3.cell? ⟨F.a, 3, .none⟩ = some (.int .i64 M.fuse) := r3
        obtain ⟨v4, r4'⟩ : ∃ v, W3.cell? ⟨F.a, 4, .none⟩ = some v := ⟨_, r4⟩
        have y3 : W3.frozen? ⟨F.a, 3, .none⟩ = false := hfz3 3
        have y4 : W3.frozen? ⟨F.a, 4, .none⟩ = false := hfz3 4
        have hm4 := (hm3.setFuse (-1)).setNoEnd
        have ho3 : Op { F with s := g } { F with s := g } W2 W3 := Op.of_only ((Only.refl _ _).grown hgr3 fun k hk => .inl (by cases hk; exact .inr (.inr (.inr (.inl rfl)))))
        have hop4 := hop2.trans ho3
        have HM4 := Lib.hid hm4
        have HOP4 := Lib.hid hop4
        clear hm1 ge hm2 hop2 hfz1 hfz3 hm3 hm4 ho3 hop4 r3 r4 q2 hb hin hownD hrelD hown3 hgr3 hrow
        go_wp2_with fail
        go_ret
        have hMc : M.crash keep = { n := a, seen := L, lasts := L, way := fun _ => none, fuse := -1, fin := none, steps := M.steps, stores := M.stores, cnt := M.cnt } := by
          unfold PM.crash
          rw [HWF.out, HN.out, HL.out]
        refine ⟨rfl, { a := F.a, s := g, l := F.l, y := F.y, e := F.a }, by rw [hMc]; exact HM4.out, HOP4.out.trans ⟨rfl, fun k hk => ?_, ((Only.refl _ _).setCell (.inl (.inl rfl)) _).setCell (.inl (.inl rfl)) _⟩⟩
        rcases hk with h | h | h | h | h
        · exact .inl (.inl h)
        · exact .inl (.inr (.inl h))
        · exact .inl (.inr (.inr (.inl h)))
        · exact .inl (.inr (.inr (.inr (.inl h))))
        · exact .inl (.inl h)
  | some g0 =>
    have e1 : F.e = B := by rw [← hB]; unfold PF.wasB; rw [hf]; rfl
    rw [hf] at c4
    unfold endV at c4
    rw [e1] at c4
    have HF := Lib.hid hf
    have HE := Lib.hid e1
    clear h hfz hf hwr hwf hB e1 c3 c2
    rw [hN] at c4 c1 hcs hcl hsz
    have HN := Lib.hid hN
    clear hN
    go_enter Try.func20, Try.ntmps20
    go_wp2_with fail
    go_loopw [6, 25] (fun i k wr => ∃ a : Nat, a ≤ N ∧ k = .int .i64 a ∧ i = .int .i64 ((crashI wf keep M.lasts a).1 : Nat) ∧ Mem wr F (M.withLasts (crashI wf keep M.lasts a).2) ∧ Only F.has w wr)
      (fun _ k _ => N - (intOf k).toNat)
    case atStart => exact ⟨0, Nat.zero_le _, rfl, rfl, HM.out, Only.refl _ _⟩
    case round =>
      obtain ⟨a, ha, rfl, rfl, hm, ho⟩ := hrel
      obtain ⟨L, hL⟩ : ∃ L, (crashI wf keep M.lasts a).2 = L := ⟨_, rfl⟩
      obtain ⟨ci, hci⟩ : ∃ ci, (crashI wf keep M.lasts a).1 = ci := ⟨_, rfl⟩
      have hcia : ci ≤ a := by rw [← hci]; exact crashI_le _ _ _ _
      rw [hL] at hm
      rw [hci]
      obtain ⟨cs1, cl1, ce1, _, _, d0, d1, d2, _⟩ := hm.cells
      have d1' : wr.cell? ⟨F.a, 1, .none⟩ = some (.slice (some ⟨F.l, 0, .none⟩) N cl1) := by rw [← HN.out]; exact d1
      have d2' : wr.cell? ⟨F.a, 2, .none⟩ = some (.map (some F.y)) := d2
      have HME := Lib.hid hm
      have HON := Lib.hid ho
      have HL := Lib.hid hL
      have HCI := Lib.hid hci
      clear d0 d1 d2 hm ho hL hci
      by_cases hlt : a < N
      · have qlt : decide (a < N) = true := by simpa using hlt
        have hbr : RowAt wr B (N * 8) wf := by
          have := HME.out.wasRow.1
          rw [show F.wasB (M.withLasts L) = B from HWB.out, show (M.withLasts L).n = N from HN.out, show (M.withLasts L).was = wf from HWF.out] at this
          exact this
        have hlr : RowAt wr F.l (N * 8) L := by
          have := HME.out.lasts
          rw [show (M.withLasts L).n = N from HN.out] at this
          exact this
        have bc : ∀ j, j < 8 → wr.cell? ⟨B, a * 8 + j, .none⟩ = some (.int .u64 (lineOf wf a j)) := fun j hj => hbr.cell (a * 8 + j) (by omega)
        have lc : ∀ j, j < 8 → wr.cell? ⟨F.l, a * 8 + j, .none⟩ = some (.int .u64 (lineOf L a j)) := fun j hj => hlr.cell (a * 8 + j) (by omega)
        have b0 : wr.cell? ⟨B, a * 8, .none⟩ = some (.int .u64 (lineOf wf a 0)) := bc 0 (by omega)
        have b1 := bc 1 (by omega)
        have b2 := bc 2 (by omega)
        have b3 := bc 3 (by omega)
        have b4 := bc 4 (by omega)
        have b5 := bc 5 (by omega)
        have b6 := bc 6 (by omega)
        have b7 := bc 7 (by omega)
        have l0 : wr.cell? ⟨F.l, a * 8, .none⟩ = some (.int .u64 (lineOf L a 0)) := lc 0 (by omega)
        have l1 := lc 1 (by omega)
        have l2 := lc 2 (by omega)
        have l3 := lc 3 (by omega)
        have l4 := lc 4 (by omega)
        have l5 := lc 5 (by omega)
        have l6 := lc 6 (by omega)
        have l7 := lc 7 (by omega)
        have z0 : wr.frozen? ⟨F.l, a * 8, .none⟩ = false := hlr.frozen (a * 8)
        have z1 := hlr.frozen (a * 8 + 1)
        have z2 := hlr.frozen (a * 8 + 2)
        have z3 := hlr.frozen (a * 8 + 3)
        have z4 := hlr.frozen (a * 8 + 4)
        have z5 := hlr.frozen (a * 8 + 5)
        have z6 := hlr.frozen (a * 8 + 6)
        have z7 := hlr.frozen (a * 8 + 7)
        have heq := eql_line (lineOf wf a) (lineOf L a)
        unfold lineV at heq
        obtain ⟨S, hS⟩ : ∃ S, sameW (lineOf wf a) (lineOf L a) = S := ⟨_, rfl⟩
        rw [hS] at heq
        have HS := Lib.hid hS
        clear bc lc hbr hlr hS
        cases S with
        | true =>
          go_wp2_with fail
          go_quiet (fail)
          go_wp2_with fail
          have hn := crashI_same HL.out HCI.out HS.out
          exact ⟨⟨a + 1, by omega, by go_num, by rw [hn], by rw [hn]; exact HME.out.drewN _, HON.out.drewN _⟩, by simp [intOf]; omega⟩
        | false =>
          go_wp2_with fail
          go_quiet (fail)
          go_wp2_with fail
          refine (kept_any keep ci _ (by omega)).mono ?_
          rintro e w1 ⟨rfl, rfl⟩
          obtain ⟨Kp, hKp⟩ : ∃ K, keptB keep ci = K := ⟨_, rfl⟩
          rw [hKp]
          have HK := Lib.hid hKp
          clear hKp
          cases Kp with
          | false =>
            go_wp2_with fail
            have hn := crashI_other HL.out HCI.out HS.out
            rw [HK.out] at hn
            exact ⟨⟨a + 1, by omega, by go_num, by rw [hn]; go_num, by rw [hn]; exact HME.out.drewN _, HON.out.drewN _⟩, by simp [intOf]; omega⟩
          | true =>
            go_wp2_with fail
            go_region
            have hn := crashI_other HL.out HCI.out HS.out
            rw [HK.out] at hn
            rw [← setLine_eq]
            have hm2 := (HME.out.drewN (nq + 1)).setLine a (lineOf wf a)
            have ho2 := (HON.out.drewN (nq + 1)).setLine (b := F.l) (.inr (.inr (.inl rfl))) (a * 8) (lineOf wf a)
            obtain ⟨W2, hW2⟩ : ∃ W2, (wr.drewN (nq + 1)).setCells F.l (a * 8) (line8 (lineOf wf a)) = W2 := ⟨_, rfl⟩
            rw [hW2] at hm2 ho2 ⊢
            clear hW2
            go_wp2_with fail
            exact ⟨⟨a + 1, by omega, by go_num, by rw [hn]; go_num, by rw [hn]; exact hm2, ho2⟩, by simp [intOf]; omega⟩
      · obtain rfl : a = N := by omega
        have qlt : decide (a < a) = false := by simp
        clear hlt
        have hlr : RowAt wr F.l (a * 8) L := by
          have := HME.out.lasts
          rw [show (M.withLasts L).n = a from HN.out] at this
          exact this
        have HLR := Lib.hid hlr
        clear hlr
        go_wp2_with fail
        refine (clone_any F.l a cl1 L wr HLR.out hsz.1 hsz.2).mono ?_
        rintro e w1 ⟨g, cap, rfl, hcap, hg, hrow, hb⟩
        have hin := HME.out.in_heap
        have hm1 : Mem w1 F (M.withLasts L) := HME.out.below hb
        have ge : ∀ k, F.has k → g ≠ k := fun k hk e => by have := hin k hk; omega
        have hm2 := hm1.setSeenRow g cap L (by show M.n ≤ cap; rw [HN.out]; exact hcap) ⟨ge _ (.inr (.inr (.inl rfl))), ge _ (.inl rfl), ge _ (.inr (.inr (.inr (.inl rfl)))), ge _ (.inr (.inr (.inr (.inr rfl))))⟩ (by show RowAt w1 g (M.n * 8) L; rw [HN.out]; exact hrow)
        rw [show (M.withLasts L).n = a from HN.out] at hm2
        have hop2 : Op F { F with s := g } w (w1.setCell ⟨F.a, 0, .none⟩ (.slice (some ⟨g, 0, .none⟩) a cap)) := by
          refine ⟨rfl, fun k hk => ?_, (HON.out.trans (Below.only hb F.has)).setCell (.inl (.inl rfl)) _⟩
          rcases hk with h | h | h | h | h
          · exact .inl (.inl h)
          · exact .inr (by rw [h]; exact Nat.le_trans HON.out.size hg)
          · exact .inl (.inr (.inr (.inl h)))
          · exact .inl (.inr (.inr (.inr (.inl h))))
          · exact .inl (.inr (.inr (.inr (.inr h))))
        obtain ⟨cs4, cl4, ce4, _, _, g0, _, g2, _, _, _, _, hfz1⟩ := hm1.cells
        have y0 := hfz1 0
        obtain ⟨W2, hW2⟩ : ∃ W2, w1.setCell ⟨F.a, 0, .none⟩ (.slice (some ⟨g, 0, .none⟩) a cap) = W2 := ⟨_, rfl⟩
        rw [hW2] at hm2 hop2
        obtain ⟨D, hrelD, hownD⟩ := hm2.way
        obtain ⟨W3, hrun, hown3, hgr3⟩ := run_clear_way (w := W2) 0 hownD
        have hm3 := hm2.setWay (WayRel.empty _) hown3 hgr3
        obtain ⟨cs5, cl5, ce5, _, _, _, _, q2, _⟩ := hm2.cells
        have q2' : W2.cell? ⟨F.a, 2, .none⟩ = some (.map (some F.y)) := q2
        obtain ⟨cs6, cl6, ce6, _, _, _, _, _, r3, r4, _, _, hfz3⟩ := hm3.cells
        have r3' : W3.cell? ⟨F.a, 3, .none⟩ = some (.int .i64 M.fuse) := r3
        obtain ⟨v4, r4'⟩ : ∃ v, W3.cell? ⟨F.a, 4, .none⟩ = some v := ⟨_, r4⟩
        have y3 : W3.frozen? ⟨F.a, 3, .none⟩ = false := hfz3 3
        have y4 : W3.frozen? ⟨F.a, 4, .none⟩ = false := hfz3 4
        have hm4 := (hm3.setFuse (-1)).setNoEnd
        have ho3 : Op { F with s := g } { F with s := g } W2 W3 := Op.of_only ((Only.refl _ _).grown hgr3 fun k hk => .inl (by cases hk; exact .inr (.inr (.inr (.inl rfl)))))
        have hop4 := hop2.trans ho3
        have HM4 := Lib.hid hm4
        have HOP4 := Lib.hid hop4
        clear hm1 ge hm2 hop2 hfz1 hfz3 hm3 hm4 ho3 hop4 r3 r4 q2 hb hin hownD hrelD hown3 hgr3 hrow
        go_wp2_with fail
        go_ret
        have hMc : M.crash keep = { n := a, seen := L, lasts := L, way := fun _ => none, fuse := -1, fin := none, steps := M.steps, stores := M.stores, cnt := M.cnt } := by
          unfold PM.crash
          rw [HWF.out, HN.out, HL.out]
        refine ⟨rfl, { a := F.a, s := g, l := F.l, y := F.y, e := F.a }, by rw [hMc]; exact HM4.out, HOP4.out.trans ⟨rfl, fun k hk => ?_, ((Only.refl _ _).setCell (.inl (.inl rfl)) _).setCell (.inl (.inl rfl)) _⟩⟩
        rcases hk with h | h | h | h | h
        · exact .inl (.inl h)
        · exact .inl (.inr (.inl h))
        · exact .inl (.inr (.inr (.inl h)))
        · exact .inl (.inr (.inr (.inr (.inl h))))
        · exact .inl (.inl h)

end Go.Proofs.Ytbflennacniacaa
