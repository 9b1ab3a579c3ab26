/- concourseref1.Mem: Crash, by its contract. -/
import Derived.Test.YtbflennacniacaaRmCrash0
namespace Go.Proofs.Ytbflennacniacaa
open Go.RowKit
set_option linter.unusedVariables false
set_option maxRecDepth 100000 in
set_option maxHeartbeats 4000000 in
theorem rcrash_any (F : RF) (M : RM) (keep : Int) (w : World) (h : RMem w F M) :
    Calls Try.prog 31 #[.pointer (some ⟨F.a, 0, .none⟩), .int .i64 keep] w fun e w' => e = .returned (.int .i64 0) ∧ ∃ F', RMem w' F' (M.crash keep) ∧ OpR F F' w w' := by
  obtain ⟨cs, cl, cy, cg, ce, hcs, hcl, hcy, hcg, c0, c1, _, c3, _, _, c6, _, _, hfz⟩ := h.cells
  have hsz := h.size
  have HM := Lib.hid h
  have hneq := neq_slice_nil (P := Try.prog) 49 29 Try.underlying49
  obtain ⟨i0, hi, hz0, hz1, hz2⟩ := info_parts infoWord
  obtain ⟨wf, hwf⟩ : ∃ x, M.was = x := ⟨_, rfl⟩
  obtain ⟨B, hB⟩ : ∃ x, F.wasB M = x := ⟨_, rfl⟩
  have HWF := Lib.hid hwf
  have HWB := Lib.hid hB
  obtain ⟨n, hn⟩ : ∃ n, M.n = n := ⟨_, rfl⟩
  obtain ⟨N, hN⟩ : ∃ N, n * 8 = N := ⟨_, rfl⟩
  rw [hn] at c0 c1 c3 c6 hcs hcl hcy hcg hsz
  rw [hN] at c0 c1 c6 hcs hcl hcy hcg
  have HN := Lib.hid hn
  have HNN := Lib.hid hN
  obtain ⟨G, hG, hmg⟩ := run_make_flags n (by omega)
  have HG := Lib.hid hG
  clear hn hG hwf
  cases hf : M.fin with
  | none =>
    have e1 : F.s = B := by rw [← hB]; unfold RF.wasB; rw [hf]; rfl
    rw [hf] at c6
    unfold endV at c6
    rw [e1] at c0
    clear h hfz hf hB e1 c3 hN
    go_enter Try.func31, Try.ntmps31
    go_wp2_with fail
    go_loopw [6, 7] (fun k i wr => ∃ a : Nat, a ≤ n ∧ i = .int .i64 a ∧ k = .int .i64 ((crashI wf keep M.last a).1 : Nat) ∧ RMem wr F (M.withLast (crashI wf keep M.last a).2) ∧ Only F.has w wr)
      (fun _ i _ => n - (intOf i).toNat)
    case atStart => exact ⟨0, Nat.zero_le _, rfl, rfl, HM.out, Only.refl _ _⟩
    case round =>
      obtain ⟨a, ha, rfl, rfl, hm, ho⟩ := hrel
      obtain ⟨L, hL⟩ : ∃ L, (crashI wf keep M.last a).2 = L := ⟨_, rfl⟩
      obtain ⟨ci, hci⟩ : ∃ ci, (crashI wf keep M.last a).1 = ci := ⟨_, rfl⟩
      have hcia : ci ≤ a := by rw [← hci]; exact crashI_le _ _ _ _
      rw [hL] at hm
      rw [hci]
      obtain ⟨cs1, cl1, cy1, cg1, ce1, z0, z1, z2, z3, d0, d1, d2, d3, _, _, _, _, _, hfz1⟩ := hm.cells
      have hpn : (M.withLast L).n = n := HN.out
      rw [hpn] at z0 z1 z2 z3 d0 d1 d2 d3
      rw [HNN.out] at z0 z1 z2 d0 d1 d2
      have HME := Lib.hid hm
      have HON := Lib.hid ho
      have HL := Lib.hid hL
      have HCI := Lib.hid hci
      clear hm ho hL hci d0 d2 hpn z0 z2 z3 hfz1
      by_cases hlt : a < n
      · have qlt : decide (a < n) = true := by simpa using hlt
        have i1 : IntKind.i64.wrap ((a : Int) * 8) = ((a * 8 : Nat) : Int) := by rw [IntKind.wrap_i64]; omega
        obtain ⟨K, hK⟩ : ∃ K : Nat, a + 1 = K := ⟨_, rfl⟩
        have i2 : IntKind.i64.wrap ((a : Int) + 1) = (K : Int) := by rw [IntKind.wrap_i64]; omega
        have i3 : IntKind.i64.wrap ((K : Int) * 8) = ((a * 8 + 8 : Nat) : Int) := by rw [IntKind.wrap_i64]; omega
        obtain ⟨A, hA⟩ : ∃ A : Nat, a * 8 = A := ⟨_, rfl⟩
        obtain ⟨E, hE⟩ : ∃ E : Nat, A + 8 = E := ⟨_, rfl⟩
        have hEN : E ≤ N := by have := HNN.out; omega
        rw [hA] at i1 i3
        rw [hE] at i3
        have HK := Lib.hid hK
        have HA := Lib.hid hA
        have HE := Lib.hid hE
        clear hK hA hE
        go_wp2_with fail
        go_loopw [8, 9] (fun s x w2 => RMem w2 F (M.withLast L) ∧ Only F.has w w2 ∧ ∃ j : Nat, j ≤ 8 ∧ x = .int .i64 (A + j : Nat) ∧ s = .bool (alikeN wf L a j)) (fun _ x _ => E - (intOf x).toNat)
        case atStart => exact ⟨HME.out, HON.out, 0, by omega, rfl, rfl⟩
        case round =>
          obtain ⟨hm2, ho2, j, hj, rfl, rfl⟩ := hrel
          obtain ⟨cs2, cl2, cy2, cg2, ce2, y0, y1, y2, y3, x0, x1, x2, x3, _, _, _, _, _, hfz2⟩ := hm2.cells
          have hpn2 : (M.withLast L).n = n := HN.out
          rw [hpn2] at y0 y1 y2 y3 x0 x1 x2 x3
          rw [HNN.out] at y0 y1 y2 x0 x1 x2
          have hbr : RowT wr 29 B N (wordV wf) := by
            have := hm2.wasRow.1
            rw [show F.wasB (M.withLast L) = B from HWB.out, show (M.withLast L).n = n from HN.out, show (M.withLast L).was = wf from HWF.out, HNN.out] at this
            exact this
          have hlr : RowT wr 29 F.l N (wordV L) := by
            have := hm2.last
            rw [show (M.withLast L).n = n from HN.out, HNN.out] at this
            exact this
          have HME := Lib.hid hm2
          have HON := Lib.hid ho2
          have HBR := Lib.hid hbr
          have HLR := Lib.hid hlr
          clear hm2 ho2 hbr hlr hpn2 x0 x2 x3 y0 y2 y3 hfz2
          obtain ⟨X, hX⟩ : ∃ X : Nat, A + j = X := ⟨_, rfl⟩
          have HX := Lib.hid hX
          obtain ⟨S, hS⟩ : ∃ S, alikeN wf L a j = S := ⟨_, rfl⟩
          have HS := Lib.hid hS
          rw [hX, hS]
          by_cases hj8 : j < 8
          · have q2 : decide (X < E) = true := by have := HE.out; simp; omega
            obtain ⟨Y, hY⟩ : ∃ Y : Nat, j + 1 = Y := ⟨_, rfl⟩
            have HY := Lib.hid hY
            obtain ⟨Z, hZ⟩ : ∃ Z : Nat, X + 1 = Z := ⟨_, rfl⟩
            have HZ := Lib.hid hZ
            have hXN : X < N := by have := HE.out; omega
            have i5 : IntKind.i64.wrap ((X : Int) + 1) = (Z : Int) := by have := HNN.out; rw [IntKind.wrap_i64]; omega
            have b1 : wr.cell? ⟨B, X, .none⟩ = some (.int .u64 (wf X)) := HBR.out.cell X hXN
            have b2 : wr.cell? ⟨F.l, X, .none⟩ = some (.int .u64 (L X)) := HLR.out.cell X hXN
            have hstep : alikeN wf L a Y = (S && (wf X == L X)) := by
              rw [← HY.out]
              show (alikeN wf L a j && _) = _
              rw [HS.out, HA.out, HX.out]
            have HT := Lib.hid hstep
            have hx0 : (0 : Int) ≤ (X : Int) := by omega
            have hx1 : (X : Int) < (N : Int) := by omega
            clear hX hS hY hZ hstep
            cases S with
            | true =>
              go_wp2_with fail
              go_quiet (fail)
              go_wp2_with fail
              exact ⟨⟨HME.out.drewN _, HON.out.drewN _, Y, by have := HY.out; omega, by have := HY.out; have := HX.out; have := HZ.out; go_num, by rw [HT.out]; rfl⟩, by have := HZ.out; have := HX.out; have := HE.out; simp [intOf]; omega⟩
            | false =>
              go_wp2_with fail
              go_quiet (fail)
              go_wp2_with fail
              exact ⟨⟨HME.out.drewN _, HON.out.drewN _, Y, by have := HY.out; omega, by have := HY.out; have := HX.out; have := HZ.out; go_num, by rw [HT.out]; rfl⟩, by have := HZ.out; have := HX.out; have := HE.out; simp [intOf]; omega⟩
          · obtain rfl : j = 8 := by omega
            rw [HE.out] at hX
            subst hX
            have q2 : decide (E < E) = false := by simp
            rw [alikeN_same] at hS
            have HS2 := Lib.hid hS
            clear hS HS HX hj8
            have hcz : wf64 (ci : Int) := by unfold wf64; omega
            cases S with
            | true =>
              go_wp2_with fail
              have hn := crashI_same HL.out HCI.out HS2.out
              exact ⟨⟨K, by have := HK.out; omega, by go_num, by rw [← HK.out, hn], by rw [← HK.out, hn]; exact HME.out, HON.out⟩, by have := HK.out; simp [intOf]; omega⟩
            | false =>
              have hn := crashI_other HL.out HCI.out HS2.out
              have e2 : (ci : Int).tmod 60 = ((ci % 60 : Nat) : Int) := rfl
              by_cases hk0 : keep < 0
              · have q3 : decide (0 ≤ keep) = false := by simp; omega
                have hkb : keptB keep ci = false := by unfold keptB; rw [if_pos hk0]
                rw [hkb] at hn
                have HN2 := Lib.hid hn
                clear hn hkb
                go_wp2_with fail
                have hn := HN2.out
                exact ⟨⟨K, by have := HK.out; omega, by go_num, by rw [← HK.out, hn]; go_num, by rw [← HK.out, hn]; exact HME.out, HON.out⟩, by have := HK.out; simp [intOf]; omega⟩
              · have q3 : decide (0 ≤ keep) = true := by simp; omega
                obtain ⟨Kp, hKp⟩ : ∃ Kp, (bits .and .i64 (keep / 2 ^ (ci % 60)) 1 == 1) = Kp := ⟨_, rfl⟩
                have hkb : keptB keep ci = Kp := by unfold keptB; rw [if_neg hk0, hKp]
                rw [hkb] at hn
                have HN2 := Lib.hid hn
                clear hn hkb
                cases Kp with
                | false =>
                  go_wp2_with fail
                  have hn := HN2.out
                  exact ⟨⟨K, by have := HK.out; omega, by go_num, by rw [← HK.out, hn]; go_num, by rw [← HK.out, hn]; exact HME.out, HON.out⟩, by have := HK.out; simp [intOf]; omega⟩
                | true =>
                  have hAE := HE.out
                  have b1 : A ≤ E := by omega
                  have b2 : E ≤ cl2 := by omega
                  have b3 : A ≤ N := by omega
                  have b4 : N ≤ cs := by omega
                  have n1 : ¬ cl2 = A := by omega
                  have n2 : ¬ cs = A := by omega
                  have hmd : RMem wr.drew F (M.withLast L) := HME.out.drew
                  have HMD := Lib.hid hmd
                  have hbr : RowT wr.drew 29 B N (wordV wf) := HBR.out.same rfl
                  have hlr : RowT wr.drew 29 F.l N (wordV L) := HLR.out.same rfl
                  have HBD := Lib.hid hbr
                  have HLD := Lib.hid hlr
                  clear hmd hbr hlr hAE
                  go_wp2_with fail
                  go_region_law (refine step_laid rfl _ _ _ _ rfl Try.underlying49 F.l B a N L wf HLD.out HBD.out (by rw [HA.out, HE.out]; exact hEN) A A (E - A) (cl2 - A) (N - A) (cs - A) rfl rfl HA.out.symm HA.out.symm (by have := HE.out; omega) (by have := HE.out; omega) ?_; intro row HRW)
                  all_goals (
                    have hw2 := HMD.out.setLast row (laid L wf a) (by show RowT _ _ _ (M.n * 8) _; rw [HN.out, HNN.out]; exact HRW.out)
                    have ho3 := (HON.out.drewN 1).setRow (b := F.l) (.inr (.inr (.inl rfl))) row
                    have hn : crashI wf keep M.last (a + 1) = (ci + 1, laid L wf a) := by rw [laid_put]; simpa using HN2.out
                    have HW2 := Lib.hid hw2
                    have HO3 := Lib.hid ho3
                    have HN3 := Lib.hid hn
                    clear hw2 ho3 hn
                    go_wp2_with fail
                    have hn := HN3.out
                    exact ⟨⟨K, by have := HK.out; omega, by go_num, by rw [← HK.out, hn]; go_num, by rw [← HK.out, hn]; exact HW2.out, HO3.out⟩, by have := HK.out; simp [intOf]; omega⟩)
      · obtain rfl : a = n := by omega
        have qlt : decide (a < a) = false := by simp
        have hlr : RowT wr 29 F.l N (wordV L) := by
          have := HME.out.last
          rw [show (M.withLast L).n = a from HN.out, HNN.out] at this
          exact this
        have HLR := Lib.hid hlr
        have hN1 : 1 ≤ N ∧ N ≤ 65536 := by have := HNN.out; omega
        have hal : Below wr.heap.size wr (wr.alloc (.cells #[] 29)) := (Below.refl _ _).alloc (Nat.le_refl _) _
        have d1a := (Below.only hal (fun _ => False)).cell d1 (fun h => h)
        clear hlr hlt hal
        go_wp2_with (at_builtin; refine wpList_copied wr rfl _ _ 49 rfl 29 i0 (.int .u64 0) 8 Try.underlying49 hi hz0 hz1 hz2 rfl (by decide) F.l N cl1 (wordV L) HLR.out hN1.1 hN1.2 (fun _ => rfl) rfl rfl ?_)
        intro g cap w1 hg hcap HRG HB
        have hin := HME.out.in_heap
        have hm1 : RMem w1 F (M.withLast L) := HME.out.below HB.out
        have ge : ∀ k, F.has k → k ≠ g := fun k hk e => by have := hin k hk; omega
        have hm2 := hm1.setSeenRow g cap L (by show M.n * 8 ≤ cap; rw [HN.out, HNN.out]; exact hcap) ge (by show RowT w1 29 g (M.n * 8) _; rw [HN.out, HNN.out]; exact HRG.out)
        rw [show (M.withLast L).n = a from HN.out, HNN.out] at hm2
        have hop2 : OpR F { F with s := g } w (w1.setCell ⟨F.a, 0, .none⟩ (.slice (some ⟨g, 0, .none⟩) N cap)) := by
          refine ⟨rfl, fun k hk => ?_, (HON.out.trans (Below.only HB.out F.has)).setCell (.inl (.inl rfl)) _⟩
          rcases hk with h | h | h | h | h | h
          · exact .inl (.inl h)
          · exact .inr (by rw [h]; exact Nat.le_trans HON.out.size hg)
          · exact .inl (.inr (.inr (.inl h)))
          · exact .inl (.inr (.inr (.inr (.inl h))))
          · exact .inl (.inr (.inr (.inr (.inr (.inl h)))))
          · exact .inl (.inr (.inr (.inr (.inr (.inr h)))))
        obtain ⟨_, _, _, _, _, _, _, _, _, g0, _, _, _, _, _, _, _, _, hfz1⟩ := hm1.cells
        have y0 := hfz1 0
        obtain ⟨W2, hW2⟩ : ∃ W2, w1.setCell ⟨F.a, 0, .none⟩ (.slice (some ⟨g, 0, .none⟩) N cap) = W2 := ⟨_, rfl⟩
        rw [hW2] at hm2 hop2
        obtain ⟨_, _, _, cg3, _, _, _, _, _, _, _, _, q3, _, _, _, _, _, _⟩ := hm2.cells
        have q3' : W2.cell? ⟨F.a, 3, .none⟩ = some (.slice (some ⟨F.g, 0, .none⟩) a cg3) := q3
        have hal2 : Below W2.heap.size W2 (W2.alloc (.cells G 4)) := (Below.refl _ _).alloc (Nat.le_refl _) _
        have hin2 := hm2.in_heap
        obtain ⟨b, hb⟩ : ∃ b, W2.heap.size = b := ⟨_, rfl⟩
        have hblk : (W2.alloc (.cells G 4)).heap[b]? = some (.cells G 4 (0, 0)) := by rw [← hb]; exact heap_alloc_new W2 _
        have hm3 := hm2.below hal2
        have ge3 : ∀ k, RF.has { F with s := g } k → k ≠ b := fun k hk e => by have := hin2 k hk; omega
        have hop3 : OpR F { F with s := g } w (W2.alloc (.cells G 4)) := hop2.trans (OpR.of_only ((Only.refl _ _).alloc _))
        obtain ⟨W3, hW3⟩ : ∃ W3, W2.alloc (.cells G 4) = W3 := ⟨_, rfl⟩
        rw [hW3] at hm3 hop3 hblk
        have hmk := hmg W2
        rw [hb, hW3] at hmk
        obtain ⟨_, _, _, _, _, _, _, _, _, _, _, _, r3, _, _, _, _, _, hfz3⟩ := hm3.cells
        have r3' : W3.cell? ⟨F.a, 3, .none⟩ = some (.slice (some ⟨F.g, 0, .none⟩) a _) := r3
        have y3 := hfz3 3
        have hgr : RowT W3 4 b a (flagV fun _ => false) := ⟨G, hblk, HG.out⟩
        have hm4 : RMem (W3.setCell ⟨F.a, 3, .none⟩ (.slice (some ⟨b, 0, .none⟩) a a)) _ _ := hm3.setGoRow b a (fun _ => false) (Nat.le_refl _) ge3 hgr
        have hop4 : OpR F { F with s := g, g := b } w (W3.setCell ⟨F.a, 3, .none⟩ (.slice (some ⟨b, 0, .none⟩) a a)) := by
          refine ⟨rfl, fun k hk => ?_, hop3.2.2.setCell (.inl (.inl rfl)) _⟩
          rcases hk with h | h | h | h | h | h
          · exact hop3.2.1 k (.inl h)
          · exact hop3.2.1 k (.inr (.inl h))
          · exact hop3.2.1 k (.inr (.inr (.inl h)))
          · exact hop3.2.1 k (.inr (.inr (.inr (.inl h))))
          · exact .inr (by rw [h, ← hb]; exact hop2.2.2.size)
          · exact hop3.2.1 k (.inr (.inr (.inr (.inr (.inr h)))))
        obtain ⟨W4, hW4⟩ : ∃ W4, W3.setCell ⟨F.a, 3, .none⟩ (.slice (some ⟨b, 0, .none⟩) a a) = W4 := ⟨_, rfl⟩
        rw [hW4] at hm4 hop4
        obtain ⟨_, _, _, _, _, _, _, _, _, _, _, _, _, p4, _, _, _, _, hfz4⟩ := hm4.cells
        have y4 := hfz4 4
        have hm5 := hm4.setFuse false
        obtain ⟨_, _, _, _, _, _, _, _, _, _, _, _, _, _, _, p6, _, _, hfz5⟩ := hm5.cells
        have y6 := hfz5 6
        have hm6 := hm5.setNoEnd
        have ho6 := (hop4.2.2.setCell (p := ⟨F.a, 4, .none⟩) (.inl (.inl rfl)) (.bool false)).setCell (p := ⟨F.a, 6, .none⟩) (.inl (.inl rfl)) (.slice .none 0 0)
        have hh6 := hop4.2.1
        have HM6 := Lib.hid hm6
        have HO6 := Lib.hid ho6
        have HH6 := Lib.hid hh6
        clear hm1 hm2 hm3 hm4 hm5 hm6 ho6 hop2 hop3 hop4 hh6 hfz1 hfz3 hfz4 hfz5 hin hin2 ge ge3 hblk hgr hal2 q3 r3 hmg
        go_wp2_with fail
        go_ret
        have hMc : M.crash keep = { M with n := a, seen := L, last := L, going := fun _ => false, fuse := false, fin := none } := by
          unfold RM.crash
          rw [HWF.out, HN.out, HL.out]
        refine ⟨rfl, { a := F.a, s := g, l := F.l, y := F.y, g := b, e := F.a }, by rw [hMc]; exact HM6.out, rfl, fun k hk => ?_, HO6.out⟩
        rcases hk with h | h | h | h | h | h
        · exact .inl (.inl h)
        · exact HH6.out k (.inr (.inl h))
        · exact HH6.out k (.inr (.inr (.inl h)))
        · exact HH6.out k (.inr (.inr (.inr (.inl h))))
        · exact HH6.out k (.inr (.inr (.inr (.inr (.inl h)))))
        · exact .inl (.inl h)
  | some g0 =>
    have e1 : F.e = B := by rw [← hB]; unfold RF.wasB; rw [hf]; rfl
    rw [hf] at c6
    unfold endV at c6
    rw [e1] at c6
    clear h hfz hf hB e1 c3 hN
    go_enter Try.func31, Try.ntmps31
    go_wp2_with fail
    go_loopw [6, 7] (fun k i wr => ∃ a : Nat, a ≤ n ∧ i = .int .i64 a ∧ k = .int .i64 ((crashI wf keep M.last a).1 : Nat) ∧ RMem wr F (M.withLast (crashI wf keep M.last a).2) ∧ Only F.has w wr)
      (fun _ i _ => n - (intOf i).toNat)
    case atStart => exact ⟨0, Nat.zero_le _, rfl, rfl, HM.out, Only.refl _ _⟩
    case round =>
      obtain ⟨a, ha, rfl, rfl, hm, ho⟩ := hrel
      obtain ⟨L, hL⟩ : ∃ L, (crashI wf keep M.last a).2 = L := ⟨_, rfl⟩
      obtain ⟨ci, hci⟩ : ∃ ci, (crashI wf keep M.last a).1 = ci := ⟨_, rfl⟩
      have hcia : ci ≤ a := by rw [← hci]; exact crashI_le _ _ _ _
      rw [hL] at hm
      rw [hci]
      obtain ⟨cs1, cl1, cy1, cg1, ce1, z0, z1, z2, z3, d0, d1, d2, d3, _, _, _, _, _, hfz1⟩ := hm.cells
      have hpn : (M.withLast L).n = n := HN.out
      rw [hpn] at z0 z1 z2 z3 d0 d1 d2 d3
      rw [HNN.out] at z0 z1 z2 d0 d1 d2
      have HME := Lib.hid hm
      have HON := Lib.hid ho
      have HL := Lib.hid hL
      have HCI := Lib.hid hci
      clear hm ho hL hci d0 d2 hpn z0 z2 z3 hfz1
      by_cases hlt : a < n
      · have qlt : decide (a < n) = true := by simpa using hlt
        have i1 : IntKind.i64.wrap ((a : Int) * 8) = ((a * 8 : Nat) : Int) := by rw [IntKind.wrap_i64]; omega
        obtain ⟨K, hK⟩ : ∃ K : Nat, a + 1 = K := ⟨_, rfl⟩
        have i2 : IntKind.i64.wrap ((a : Int) + 1) = (K : Int) := by rw [IntKind.wrap_i64]; omega
        have i3 : IntKind.i64.wrap ((K : Int) * 8) = ((a * 8 + 8 : Nat) : Int) := by rw [IntKind.wrap_i64]; omega
        obtain ⟨A, hA⟩ : ∃ A : Nat, a * 8 = A := ⟨_, rfl⟩
        obtain ⟨E, hE⟩ : ∃ E : Nat, A + 8 = E := ⟨_, rfl⟩
        have hEN : E ≤ N := by have := HNN.out; omega
        rw [hA] at i1 i3
        rw [hE] at i3
        have HK := Lib.hid hK
        have HA := Lib.hid hA
        have HE := Lib.hid hE
        clear hK hA hE
        go_wp2_with fail
        go_loopw [8, 9] (fun s x w2 => RMem w2 F (M.withLast L) ∧ Only F.has w w2 ∧ ∃ j : Nat, j ≤ 8 ∧ x = .int .i64 (A + j : Nat) ∧ s = .bool (alikeN wf L a j)) (fun _ x _ => E - (intOf x).toNat)
        case atStart => exact ⟨HME.out, HON.out, 0, by omega, rfl, rfl⟩
        case round =>
          obtain ⟨hm2, ho2, j, hj, rfl, rfl⟩ := hrel
          obtain ⟨cs2, cl2, cy2, cg2, ce2, y0, y1, y2, y3, x0, x1, x2, x3, _, _, _, _, _, hfz2⟩ := hm2.cells
          have hpn2 : (M.withLast L).n = n := HN.out
          rw [hpn2] at y0 y1 y2 y3 x0 x1 x2 x3
          rw [HNN.out] at y0 y1 y2 x0 x1 x2
          have hbr : RowT wr 29 B N (wordV wf) := by
            have := hm2.wasRow.1
            rw [show F.wasB (M.withLast L) = B from HWB.out, show (M.withLast L).n = n from HN.out, show (M.withLast L).was = wf from HWF.out, HNN.out] at this
            exact this
          have hlr : RowT wr 29 F.l N (wordV L) := by
            have := hm2.last
            rw [show (M.withLast L).n = n from HN.out, HNN.out] at this
            exact this
          have HME := Lib.hid hm2
          have HON := Lib.hid ho2
          have HBR := Lib.hid hbr
          have HLR := Lib.hid hlr
          clear hm2 ho2 hbr hlr hpn2 x0 x2 x3 y0 y2 y3 hfz2
          obtain ⟨X, hX⟩ : ∃ X : Nat, A + j = X := ⟨_, rfl⟩
          have HX := Lib.hid hX
          obtain ⟨S, hS⟩ : ∃ S, alikeN wf L a j = S := ⟨_, rfl⟩
          have HS := Lib.hid hS
          rw [hX, hS]
          by_cases hj8 : j < 8
          · have q2 : decide (X < E) = true := by have := HE.out; simp; omega
            obtain ⟨Y, hY⟩ : ∃ Y : Nat, j + 1 = Y := ⟨_, rfl⟩
            have HY := Lib.hid hY
            obtain ⟨Z, hZ⟩ : ∃ Z : Nat, X + 1 = Z := ⟨_, rfl⟩
            have HZ := Lib.hid hZ
            have hXN : X < N := by have := HE.out; omega
            have i5 : IntKind.i64.wrap ((X : Int) + 1) = (Z : Int) := by have := HNN.out; rw [IntKind.wrap_i64]; omega
            have b1 : wr.cell? ⟨B, X, .none⟩ = some (.int .u64 (wf X)) := HBR.out.cell X hXN
            have b2 : wr.cell? ⟨F.l, X, .none⟩ = some (.int .u64 (L X)) := HLR.out.cell X hXN
            have hstep : alikeN wf L a Y = (S && (wf X == L X)) := by
              rw [← HY.out]
              show (alikeN wf L a j && _) = _
              rw [HS.out, HA.out, HX.out]
            have HT := Lib.hid hstep
            have hx0 : (0 : Int) ≤ (X : Int) := by omega
            have hx1 : (X : Int) < (N : Int) := by omega
            clear hX hS hY hZ hstep
            cases S with
            | true =>
              go_wp2_with fail
              go_quiet (fail)
              go_wp2_with fail
              exact ⟨⟨HME.out.drewN _, HON.out.drewN _, Y, by have := HY.out; omega, by have := HY.out; have := HX.out; have := HZ.out; go_num, by rw [HT.out]; rfl⟩, by have := HZ.out; have := HX.out; have := HE.out; simp [intOf]; omega⟩
            | false =>
              go_wp2_with fail
              go_quiet (fail)
              go_wp2_with fail
              exact ⟨⟨HME.out.drewN _, HON.out.drewN _, Y, by have := HY.out; omega, by have := HY.out; have := HX.out; have := HZ.out; go_num, by rw [HT.out]; rfl⟩, by have := HZ.out; have := HX.out; have := HE.out; simp [intOf]; omega⟩
          · obtain rfl : j = 8 := by omega
            rw [HE.out] at hX
            subst hX
            have q2 : decide (E < E) = false := by simp
            rw [alikeN_same] at hS
            have HS2 := Lib.hid hS
            clear hS HS HX hj8
            have hcz : wf64 (ci : Int) := by unfold wf64; omega
            cases S with
            | true =>
              go_wp2_with fail
              have hn := crashI_same HL.out HCI.out HS2.out
              exact ⟨⟨K, by have := HK.out; omega, by go_num, by rw [← HK.out, hn], by rw [← HK.out, hn]; exact HME.out, HON.out⟩, by have := HK.out; simp [intOf]; omega⟩
            | false =>
              have hn := crashI_other HL.out HCI.out HS2.out
              have e2 : (ci : Int).tmod 60 = ((ci % 60 : Nat) : Int) := rfl
              by_cases hk0 : keep < 0
              · have q3 : decide (0 ≤ keep) = false := by simp; omega
                have hkb : keptB keep ci = false := by unfold keptB; rw [if_pos hk0]
                rw [hkb] at hn
                have HN2 := Lib.hid hn
                clear hn hkb
                go_wp2_with fail
                have hn := HN2.out
                exact ⟨⟨K, by have := HK.out; omega, by go_num, by rw [← HK.out, hn]; go_num, by rw [← HK.out, hn]; exact HME.out, HON.out⟩, by have := HK.out; simp [intOf]; omega⟩
              · have q3 : decide (0 ≤ keep) = true := by simp; omega
                obtain ⟨Kp, hKp⟩ : ∃ Kp, (bits .and .i64 (keep / 2 ^ (ci % 60)) 1 == 1) = Kp := ⟨_, rfl⟩
                have hkb : keptB keep ci = Kp := by unfold keptB; rw [if_neg hk0, hKp]
                rw [hkb] at hn
                have HN2 := Lib.hid hn
                clear hn hkb
                cases Kp with
                | false =>
                  go_wp2_with fail
                  have hn := HN2.out
                  exact ⟨⟨K, by have := HK.out; omega, by go_num, by rw [← HK.out, hn]; go_num, by rw [← HK.out, hn]; exact HME.out, HON.out⟩, by have := HK.out; simp [intOf]; omega⟩
                | true =>
                  have hAE := HE.out
                  have b1 : A ≤ E := by omega
                  have b2 : E ≤ cl2 := by omega
                  have b3 : A ≤ N := by omega
                  have b4 : N ≤ ce := by omega
                  have n1 : ¬ cl2 = A := by omega
                  have n2 : ¬ ce = A := by omega
                  have hmd : RMem wr.drew F (M.withLast L) := HME.out.drew
                  have HMD := Lib.hid hmd
                  have hbr : RowT wr.drew 29 B N (wordV wf) := HBR.out.same rfl
                  have hlr : RowT wr.drew 29 F.l N (wordV L) := HLR.out.same rfl
                  have HBD := Lib.hid hbr
                  have HLD := Lib.hid hlr
                  clear hmd hbr hlr hAE
                  go_wp2_with fail
                  go_region_law (refine step_laid rfl _ _ _ _ rfl Try.underlying49 F.l B a N L wf HLD.out HBD.out (by rw [HA.out, HE.out]; exact hEN) A A (E - A) (cl2 - A) (N - A) (ce - A) rfl rfl HA.out.symm HA.out.symm (by have := HE.out; omega) (by have := HE.out; omega) ?_; intro row HRW)
                  all_goals (
                    have hw2 := HMD.out.setLast row (laid L wf a) (by show RowT _ _ _ (M.n * 8) _; rw [HN.out, HNN.out]; exact HRW.out)
                    have ho3 := (HON.out.drewN 1).setRow (b := F.l) (.inr (.inr (.inl rfl))) row
                    have hn : crashI wf keep M.last (a + 1) = (ci + 1, laid L wf a) := by rw [laid_put]; simpa using HN2.out
                    have HW2 := Lib.hid hw2
                    have HO3 := Lib.hid ho3
                    have HN3 := Lib.hid hn
                    clear hw2 ho3 hn
                    go_wp2_with fail
                    have hn := HN3.out
                    exact ⟨⟨K, by have := HK.out; omega, by go_num, by rw [← HK.out, hn]; go_num, by rw [← HK.out, hn]; exact HW2.out, HO3.out⟩, by have := HK.out; simp [intOf]; omega⟩)
      · obtain rfl : a = n := by omega
        have qlt : decide (a < a) = false := by simp
        have hlr : RowT wr 29 F.l N (wordV L) := by
          have := HME.out.last
          rw [show (M.withLast L).n = a from HN.out, HNN.out] at this
          exact this
        have HLR := Lib.hid hlr
        have hN1 : 1 ≤ N ∧ N ≤ 65536 := by have := HNN.out; omega
        have hal : Below wr.heap.size wr (wr.alloc (.cells #[] 29)) := (Below.refl _ _).alloc (Nat.le_refl _) _
        have d1a := (Below.only hal (fun _ => False)).cell d1 (fun h => h)
        clear hlr hlt hal
        go_wp2_with (at_builtin; refine wpList_copied wr rfl _ _ 49 rfl 29 i0 (.int .u64 0) 8 Try.underlying49 hi hz0 hz1 hz2 rfl (by decide) F.l N cl1 (wordV L) HLR.out hN1.1 hN1.2 (fun _ => rfl) rfl rfl ?_)
        intro g cap w1 hg hcap HRG HB
        have hin := HME.out.in_heap
        have hm1 : RMem w1 F (M.withLast L) := HME.out.below HB.out
        have ge : ∀ k, F.has k → k ≠ g := fun k hk e => by have := hin k hk; omega
        have hm2 := hm1.setSeenRow g cap L (by show M.n * 8 ≤ cap; rw [HN.out, HNN.out]; exact hcap) ge (by show RowT w1 29 g (M.n * 8) _; rw [HN.out, HNN.out]; exact HRG.out)
        rw [show (M.withLast L).n = a from HN.out, HNN.out] at hm2
        have hop2 : OpR F { F with s := g } w (w1.setCell ⟨F.a, 0, .none⟩ (.slice (some ⟨g, 0, .none⟩) N cap)) := by
          refine ⟨rfl, fun k hk => ?_, (HON.out.trans (Below.only HB.out F.has)).setCell (.inl (.inl rfl)) _⟩
          rcases hk with h | h | h | h | h | h
          · exact .inl (.inl h)
          · exact .inr (by rw [h]; exact Nat.le_trans HON.out.size hg)
          · exact .inl (.inr (.inr (.inl h)))
          · exact .inl (.inr (.inr (.inr (.inl h))))
          · exact .inl (.inr (.inr (.inr (.inr (.inl h)))))
          · exact .inl (.inr (.inr (.inr (.inr (.inr h)))))
        obtain ⟨_, _, _, _, _, _, _, _, _, g0, _, _, _, _, _, _, _, _, hfz1⟩ := hm1.cells
        have y0 := hfz1 0
        obtain ⟨W2, hW2⟩ : ∃ W2, w1.setCell ⟨F.a, 0, .none⟩ (.slice (some ⟨g, 0, .none⟩) N cap) = W2 := ⟨_, rfl⟩
        rw [hW2] at hm2 hop2
        obtain ⟨_, _, _, cg3, _, _, _, _, _, _, _, _, q3, _, _, _, _, _, _⟩ := hm2.cells
        have q3' : W2.cell? ⟨F.a, 3, .none⟩ = some (.slice (some ⟨F.g, 0, .none⟩) a cg3) := q3
        have hal2 : Below W2.heap.size W2 (W2.alloc (.cells G 4)) := (Below.refl _ _).alloc (Nat.le_refl _) _
        have hin2 := hm2.in_heap
        obtain ⟨b, hb⟩ : ∃ b, W2.heap.size = b := ⟨_, rfl⟩
        have hblk : (W2.alloc (.cells G 4)).heap[b]? = some (.cells G 4 (0, 0)) := by rw [← hb]; exact heap_alloc_new W2 _
        have hm3 := hm2.below hal2
        have ge3 : ∀ k, RF.has { F with s := g } k → k ≠ b := fun k hk e => by have := hin2 k hk; omega
        have hop3 : OpR F { F with s := g } w (W2.alloc (.cells G 4)) := hop2.trans (OpR.of_only ((Only.refl _ _).alloc _))
        obtain ⟨W3, hW3⟩ : ∃ W3, W2.alloc (.cells G 4) = W3 := ⟨_, rfl⟩
        rw [hW3] at hm3 hop3 hblk
        have hmk := hmg W2
        rw [hb, hW3] at hmk
        obtain ⟨_, _, _, _, _, _, _, _, _, _, _, _, r3, _, _, _, _, _, hfz3⟩ := hm3.cells
        have r3' : W3.cell? ⟨F.a, 3, .none⟩ = some (.slice (some ⟨F.g, 0, .none⟩) a _) := r3
        have y3 := hfz3 3
        have hgr : RowT W3 4 b a (flagV fun _ => false) := ⟨G, hblk, HG.out⟩
        have hm4 : RMem (W3.setCell ⟨F.a, 3, .none⟩ (.slice (some ⟨b, 0, .none⟩) a a)) _ _ := hm3.setGoRow b a (fun _ => false) (Nat.le_refl _) ge3 hgr
        have hop4 : OpR F { F with s := g, g := b } w (W3.setCell ⟨F.a, 3, .none⟩ (.slice (some ⟨b, 0, .none⟩) a a)) := by
          refine ⟨rfl, fun k hk => ?_, hop3.2.2.setCell (.inl (.inl rfl)) _⟩
          rcases hk with h | h | h | h | h | h
          · exact hop3.2.1 k (.inl h)
          · exact hop3.2.1 k (.inr (.inl h))
          · exact hop3.2.1 k (.inr (.inr (.inl h)))
          · exact hop3.2.1 k (.inr (.inr (.inr (.inl h))))
          · exact .inr (by rw [h, ← hb]; exact hop2.2.2.size)
          · exact hop3.2.1 k (.inr (.inr (.inr (.inr (.inr h)))))
        obtain ⟨W4, hW4⟩ : ∃ W4, W3.setCell ⟨F.a, 3, .none⟩ (.slice (some ⟨b, 0, .none⟩) a a) = W4 := ⟨_, rfl⟩
        rw [hW4] at hm4 hop4
        obtain ⟨_, _, _, _, _, _, _, _, _, _, _, _, _, p4, _, _, _, _, hfz4⟩ := hm4.cells
        have y4 := hfz4 4
        have hm5 := hm4.setFuse false
        obtain ⟨_, _, _, _, _, _, _, _, _, _, _, _, _, _, _, p6, _, _, hfz5⟩ := hm5.cells
        have y6 := hfz5 6
        have hm6 := hm5.setNoEnd
        have ho6 := (hop4.2.2.setCell (p := ⟨F.a, 4, .none⟩) (.inl (.inl rfl)) (.bool false)).setCell (p := ⟨F.a, 6, .none⟩) (.inl (.inl rfl)) (.slice .none 0 0)
        have hh6 := hop4.2.1
        have HM6 := Lib.hid hm6
        have HO6 := Lib.hid ho6
        have HH6 := Lib.hid hh6
        clear hm1 hm2 hm3 hm4 hm5 hm6 ho6 hop2 hop3 hop4 hh6 hfz1 hfz3 hfz4 hfz5 hin hin2 ge ge3 hblk hgr hal2 q3 r3 hmg
        go_wp2_with fail
        go_ret
        have hMc : M.crash keep = { M with n := a, seen := L, last := L, going := fun _ => false, fuse := false, fin := none } := by
          unfold RM.crash
          rw [HWF.out, HN.out, HL.out]
        refine ⟨rfl, { a := F.a, s := g, l := F.l, y := F.y, g := b, e := F.a }, by rw [hMc]; exact HM6.out, rfl, fun k hk => ?_, HO6.out⟩
        rcases hk with h | h | h | h | h | h
        · exact .inl (.inl h)
        · exact HH6.out k (.inr (.inl h))
        · exact HH6.out k (.inr (.inr (.inl h)))
        · exact HH6.out k (.inr (.inr (.inr (.inl h))))
        · exact HH6.out k (.inr (.inr (.inr (.inr (.inl h)))))
        · exact .inl (.inl h)
end Go.Proofs.Ytbflennacniacaa
