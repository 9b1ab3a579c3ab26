/- The walk of the law JournalTwo. -/
import Derived.Test.YtbflennacniacaaJoTwo
import Derived.Test.YtbflennacniacaaReadTexts
import Derived.Test.YtbflennacniacaaPmUnf
namespace Go.Proofs.Ytbflennacniacaa
open Go.RowKit
set_option linter.unusedVariables false
def TwoInv (w0 w : World) (a jx jy lb : Nat) (T : TypeId) (K : Nat) : Prop := ∃ (Jx Jy : JD) (M : PM) (f : Nat → Nat) (l0 l1 : ByteArray), Two w0 w a jx jy lb T Jx Jy M l0 l1 ∧ Pair Jx Jy M f l0 l1 K
set_option maxRecDepth 100000 in
set_option maxHeartbeats 8000000 in
theorem journalTwo_walk (w : World) (A : Option Addr) (n c : Nat) (ts : List (List UInt8)) (ht : Texts w A n ts) (hl : ∀ t ∈ ts, t.length ≤ maxLen) (hm : n ≤ maxLen) (hc : A = none → c = 0) (keep : Int) (h1 : (Lit.int .i64 keep).wf = true) :
    Calls Try.prog 10 #[.slice A n c, .int .i64 keep] w fun e w' => e = .returned (.bool true) ∧ Below w.heap.size w w' := by
  unfold maxLen at hm
  have HT := Lib.hid ht
  have hlen : ts.length = n := ht.1
  have HLEN := Lib.hid hlen
  have HTL := Lib.hid hl
  clear h1 ht hl hlen hc
  obtain ⟨f1, hg1, hn1, hok1⟩ := two_first
  have HG1 := Lib.hid hg1
  have HN1 := Lib.hid hn1
  have HOK1 := Lib.hid hok1
  have HM := Lib.hid may_two
  clear hg1 hn1 hok1
  go_enter Try.func10, Try.ntmps10
  go_wp2_with fail
  refine (awake21 _).mono ?_
  rintro e w1 ⟨rfl, hb1⟩
  go_wp2_with fail
  refine (new_live 32 w w1 hb1 (by omega) (by omega) 256 rfl).mono ?_
  rintro e w2 ⟨a, rfl, _, g1, _⟩
  have H1 := Lib.hid g1.held
  clear g1 hb1
  go_wp2_with fail
  refine (new_j w w2 w2 _ a (PM.fresh 32) 0 128 _ _ rfl rfl H1.out HM.out.1 (by show 32 ≤ 1024; omega) (Clean.fresh 32).words.1 0 (PM.ok.fresh 32) (by omega)).mono ?_
  rintro e w3 ⟨jx, rfl, _, h3⟩
  have H3 : Hid (Jour w w2 w3 (fun _ => False) jx a twoX twoM1) := Lib.hid h3
  clear h3
  go_wp2_with fail
  refine (new_j w w3 w3 _ a twoM1 128 128 _ _ rfl rfl H3.out.held (by rw [HN1.out]; exact HM.out.2) (by rw [HN1.out]; omega) HG1.out.clean.words.1 20000 HOK1.out (by omega)).mono ?_
  rintro e w4 ⟨jy, rfl, hjy, h4⟩
  have H4 : Hid (Jour w w3 w4 (fun k => False ∨ k = jx) jy a twoY twoM2) := Lib.hid h4
  clear h4
  go_wp2_with (go_at_call 22; refine (num21 _ _).mono ?_; rintro e w' ⟨rfl, rfl⟩)
  have hinit : TwoInv w (w4.alloc (.cells #[.string ByteArray.empty, .string ByteArray.empty] 9)) a jx jy w4.heap.size 9 (40000 + 20000 * 0) := by
    obtain ⟨f2, hp⟩ := two_pair
    refine ⟨twoX, twoY, twoM2, f2, _, _, ?_, hp⟩
    have hb : Below w4.heap.size w4 (w4.alloc (.cells #[.string ByteArray.empty, .string ByteArray.empty] 9)) := (Below.refl _ _).alloc (Nat.le_refl _) _
    obtain ⟨F, e1, e2, e3⟩ := H4.out.mem
    have hin := e2.in_heap
    have hjx : w4.heap[jx]? = some (jblk a twoX) := (H4.out.zblock jx (.inr rfl)).trans H3.out.blk
    have hxl := (Array.getElem?_eq_some_iff.1 hjx).1
    have hyl := H4.out.jlt
    have hne : jx ≠ jy := (H4.out.zed jx (.inr rfl)).2.2
    exact ⟨⟨F, e1, e2.below hb, fun k hk => ⟨(e3 k hk).1, fun e => (e3 k hk).2.2 (.inr e), (e3 k hk).2.1, by have := hin k hk; omega⟩⟩, H4.out.bel.alloc H4.out.bel.size _, block_of hb hjx, block_of hb H4.out.blk, heap_alloc_new w4 _, ⟨H3.out.low, H4.out.low, H4.out.bel.size⟩, ⟨hne, by omega, by omega⟩⟩
  have HI : Hid (TwoInv w (w4.alloc (.cells #[.string { data := #[] }, .string { data := #[] }] 9)) a jx jy w4.heap.size 9 (40000 + 20000 * 0)) := Lib.hid hinit
  obtain ⟨lb, hlb⟩ : ∃ lb, w4.heap.size = lb := ⟨_, rfl⟩
  rw [hlb] at HI ⊢
  clear hinit H3 H4 H1
  obtain ⟨m, hmn⟩ : ∃ m, min n 20 = m := ⟨_, rfl⟩
  have hmle : m ≤ n ∧ m ≤ 20 ∧ (m < n → m = 20) := by omega
  clear hmn hlb
  go_loopw [12] (fun i wr => ∃ j : Nat, j ≤ m ∧ i = .int .i64 j ∧ TwoInv w wr a jx jy lb 9 (40000 + 20000 * j)) (fun i _ => m - (intOf i).toNat)
  case atStart => exact ⟨0, by omega, rfl, HI.out⟩
  case round =>
    obtain ⟨j, hj, rfl, hinv⟩ := hrel
    obtain ⟨Jx, Jy, M, f, l0, l1, htwo, hpair⟩ := hinv
    have HTW := Lib.hid htwo
    have HPA := Lib.hid hpair
    clear htwo hpair
    by_cases hlt : j < m
    · obtain ⟨g, off, rfl, _, hcc⟩ := (HT.out.below HTW.out.bel).2 (by omega)
      have hjl : j < ts.length := by rw [HLEN.out]; omega
      have hc1 := hcc j (by omega)
      obtain ⟨t, htj⟩ : ∃ t, ts.getD j [] = t := ⟨_, rfl⟩
      have htl : t.length ≤ maxLen := by
        rw [← htj, List.getD_eq_getElem?_getD, List.getElem?_eq_getElem hjl]
        exact HTL.out _ (List.getElem_mem hjl)
      rw [htj] at hc1
      unfold strV at hc1
      unfold maxLen at htl
      obtain ⟨S, hS⟩ : ∃ S : ByteArray, (⟨t.toArray⟩ : ByteArray) = S := ⟨_, rfl⟩
      have hSl : S.size = t.length := by rw [← hS]; show t.toArray.size = _; simp
      rw [hS] at hc1
      have q1 : decide (j < n) = true := by simp; omega
      have q2 : decide ((j : Int) < 20) = true := by simp; omega
      have hSm : S.size ≤ 9223372036854775807 := by omega
      have bl := HTW.out.bl
      have lc0 : wr.cell? ⟨lb, 0, .none⟩ = some (.string l0) := by rw [cell_of_row wr lb 0 _ _ (0, 0) bl]; rfl
      have lc1 : wr.cell? ⟨lb, 1, .none⟩ = some (.string l1) := by rw [cell_of_row wr lb 1 _ _ (0, 0) bl]; rfl
      have hbit := bits1 (j : Int)
      clear hcc htj hS hSl htl bl
      obtain ⟨U, hU, hUs⟩ : ∃ U : ByteArray, U.size ≤ 100 ∧ ((100 < S.size ∧ U = S.extract 0 100) ∨ (S.size ≤ 100 ∧ U = S)) := by
        by_cases h : 100 < S.size
        · exact ⟨S.extract 0 100, by rw [ByteArray.size_extract]; omega, .inl ⟨h, rfl⟩⟩
        · exact ⟨S, by omega, .inr ⟨by omega, rfl⟩⟩
      have hx := HPA.out.x U hU
      have hy := HPA.out.y U hU
      have HX := Lib.hid hx
      have HY := Lib.hid hy
      clear hx hy
      rcases hUs with ⟨hbig, hUe⟩ | ⟨hbig, rfl⟩
      · have q3 : decide ((100 : Int) < (S.size : Int)) = true := by simp; omega
        rcases hbit with hb0 | hb0
        · subst hUe
          go_wp2_with fail
          refine (write_j w wr wr _ jx a Jx M (S.extract 0 100) HTW.out.x HPA.out.gx.fit HPA.out.gx.area HPA.out.gx.start8 (by rw [HPA.out.sx.2.1]; omega) _ HPA.out.ok (by omega)).mono ?_
          rintro e w5 ⟨rfl, h5⟩
          have ht5 := HTW.out.of_x h5
          have bl5 := ht5.bl
          have k0 : w5.cell? ⟨lb, 0, .none⟩ = some (.string l0) := by rw [cell_of_row w5 lb 0 _ _ (0, 0) bl5]; rfl
          have z0 : w5.frozen? ⟨lb, 0, .none⟩ = false := frozen_of_row w5 lb 0 _ _ bl5
          obtain ⟨f6, hp6⟩ := HX.out
          have hinv6 : TwoInv w (w5.setCell ⟨lb, 0, .none⟩ (.string (S.extract 0 100))) a jx jy lb 9 (40000 + 20000 * (j + 1)) := ⟨_, _, _, f6, (S.extract 0 100), l1, ht5.setL 0 (.string (S.extract 0 100)) rfl, by have := hp6; rw [show 40000 + 20000 * (j + 1) = 40000 + 20000 * j + 20000 from by omega]; exact this⟩
          have HI6 := Lib.hid hinv6
          clear h5 ht5 bl5 hp6 hinv6 lc0 lc1
          go_wp2_with fail
          exact ⟨⟨j + 1, by omega, by go_num, HI6.out⟩, by simp [intOf]; omega⟩
        · subst hUe
          go_wp2_with fail
          refine (write_j w wr wr _ jy a Jy M (S.extract 0 100) HTW.out.y HPA.out.gy.fit HPA.out.gy.area HPA.out.gy.start8 (by rw [HPA.out.sy.2.1]; omega) _ HPA.out.ok (by omega)).mono ?_
          rintro e w5 ⟨rfl, h5⟩
          have ht5 := HTW.out.of_y h5
          have bl5 := ht5.bl
          have k0 : w5.cell? ⟨lb, 1, .none⟩ = some (.string l1) := by rw [cell_of_row w5 lb 1 _ _ (0, 0) bl5]; rfl
          have z0 : w5.frozen? ⟨lb, 1, .none⟩ = false := frozen_of_row w5 lb 1 _ _ bl5
          obtain ⟨f6, hp6⟩ := HY.out
          have hinv6 : TwoInv w (w5.setCell ⟨lb, 1, .none⟩ (.string (S.extract 0 100))) a jx jy lb 9 (40000 + 20000 * (j + 1)) := ⟨_, _, _, f6, l0, (S.extract 0 100), ht5.setL 1 (.string (S.extract 0 100)) rfl, by have := hp6; rw [show 40000 + 20000 * (j + 1) = 40000 + 20000 * j + 20000 from by omega]; exact this⟩
          have HI6 := Lib.hid hinv6
          clear h5 ht5 bl5 hp6 hinv6 lc0 lc1
          go_wp2_with fail
          exact ⟨⟨j + 1, by omega, by go_num, HI6.out⟩, by simp [intOf]; omega⟩
      · have q3 : decide ((100 : Int) < (U.size : Int)) = false := by simp; omega
        rcases hbit with hb0 | hb0
        · skip
          go_wp2_with fail
          refine (write_j w wr wr _ jx a Jx M U HTW.out.x HPA.out.gx.fit HPA.out.gx.area HPA.out.gx.start8 (by rw [HPA.out.sx.2.1]; omega) _ HPA.out.ok (by omega)).mono ?_
          rintro e w5 ⟨rfl, h5⟩
          have ht5 := HTW.out.of_x h5
          have bl5 := ht5.bl
          have k0 : w5.cell? ⟨lb, 0, .none⟩ = some (.string l0) := by rw [cell_of_row w5 lb 0 _ _ (0, 0) bl5]; rfl
          have z0 : w5.frozen? ⟨lb, 0, .none⟩ = false := frozen_of_row w5 lb 0 _ _ bl5
          obtain ⟨f6, hp6⟩ := HX.out
          have hinv6 : TwoInv w (w5.setCell ⟨lb, 0, .none⟩ (.string U)) a jx jy lb 9 (40000 + 20000 * (j + 1)) := ⟨_, _, _, f6, U, l1, ht5.setL 0 (.string U) rfl, by have := hp6; rw [show 40000 + 20000 * (j + 1) = 40000 + 20000 * j + 20000 from by omega]; exact this⟩
          have HI6 := Lib.hid hinv6
          clear h5 ht5 bl5 hp6 hinv6 lc0 lc1
          go_wp2_with fail
          exact ⟨⟨j + 1, by omega, by go_num, HI6.out⟩, by simp [intOf]; omega⟩
        · skip
          go_wp2_with fail
          refine (write_j w wr wr _ jy a Jy M U HTW.out.y HPA.out.gy.fit HPA.out.gy.area HPA.out.gy.start8 (by rw [HPA.out.sy.2.1]; omega) _ HPA.out.ok (by omega)).mono ?_
          rintro e w5 ⟨rfl, h5⟩
          have ht5 := HTW.out.of_y h5
          have bl5 := ht5.bl
          have k0 : w5.cell? ⟨lb, 1, .none⟩ = some (.string l1) := by rw [cell_of_row w5 lb 1 _ _ (0, 0) bl5]; rfl
          have z0 : w5.frozen? ⟨lb, 1, .none⟩ = false := frozen_of_row w5 lb 1 _ _ bl5
          obtain ⟨f6, hp6⟩ := HY.out
          have hinv6 : TwoInv w (w5.setCell ⟨lb, 1, .none⟩ (.string U)) a jx jy lb 9 (40000 + 20000 * (j + 1)) := ⟨_, _, _, f6, l0, U, ht5.setL 1 (.string U) rfl, by have := hp6; rw [show 40000 + 20000 * (j + 1) = 40000 + 20000 * j + 20000 from by omega]; exact this⟩
          have HI6 := Lib.hid hinv6
          clear h5 ht5 bl5 hp6 hinv6 lc0 lc1
          go_wp2_with fail
          exact ⟨⟨j + 1, by omega, by go_num, HI6.out⟩, by simp [intOf]; omega⟩
    · obtain rfl : j = m := by omega
      have hstop : decide (j < n) = false ∨ (decide (j < n) = true ∧ decide ((j : Int) < 20) = false) := by
        simp only [decide_eq_true_eq, decide_eq_false_iff_not]
        omega
      clear hlt
      have hgx := HPA.out.gx.crash keep
      have hgy := HPA.out.gy.crash keep
      have hox := open_good hgx
      have hoy := open_good hgy
      rw [HPA.out.sx.1, HPA.out.sx.2.1] at hox
      rw [HPA.out.sy.1, HPA.out.sy.2.1] at hoy
      have hnc : (M.crash keep).n = 32 := HPA.out.n
      have HGX := Lib.hid hgx
      have HOX := Lib.hid hox
      have HOY := Lib.hid hoy
      have HNC := Lib.hid hnc
      have HH := Lib.hid HTW.out.x.held
      clear hgx hgy hox hoy hnc
      rcases hstop with q1 | ⟨q1, q2⟩
      all_goals
        go_wp2_with fail
        refine (crash_h HH.out keep).mono ?_
        rintro e w6 ⟨rfl, h6⟩
        have H6 := Lib.hid h6
        clear h6
        go_wp2_with fail
        refine (open_j w wr w6 _ a (M.crash keep) 0 128 _ _ rfl rfl H6.out (by rw [HNC.out]; exact HM.out.1) (by rw [HNC.out]; omega) HGX.out.clean.words.1 true (by rw [HOX.out])).mono ?_
        rw [HOX.out]
        rintro e w7 ⟨pj, rfl, _, h7⟩
        have H7 := Lib.hid h7
        clear h7
        go_wp2_with fail
        refine (open_j w w7 w7 _ a (M.crash keep) 128 128 _ _ rfl rfl H7.out.held (by rw [HNC.out]; exact HM.out.2) (by rw [HNC.out]; omega) HGX.out.clean.words.1 true (by rw [HOY.out])).mono ?_
        rw [HOY.out]
        rintro e w8 ⟨qj, rfl, _, h8⟩
        have hlb8 : w8.heap[lb]? = some (.cells #[.string l0, .string l1] 9 (0, 0)) := (h8.zblock lb (.inl (.inl (.inr rfl)))).trans ((H7.out.zblock lb (.inl (.inr rfl))).trans HTW.out.bl)
        have hpj8 : w8.heap[pj]? = some (jblk a Jx) := (h8.zblock pj (.inr rfl)).trans H7.out.blk
        have lc0 : w8.cell? ⟨lb, 0, .none⟩ = some (.string l0) := by rw [cell_of_row w8 lb 0 _ _ (0, 0) hlb8]; rfl
        have lc1 : w8.cell? ⟨lb, 1, .none⟩ = some (.string l1) := by rw [cell_of_row w8 lb 1 _ _ (0, 0) hlb8]; rfl
        have HPJ := Lib.hid hpj8
        have H8 := Lib.hid h8
        clear h8 hlb8 hpj8
        go_wp2_with fail
        go_quiet ((first | (go_at_call 22; exact quiet_l (num21 _ _)) | (go_at_call 36; first | exact quiet_l (read_j (w8.drewN _) pj a Jx l0 HPA.out.sx.2.2 HPJ.out) | exact quiet_l (read_j (w8.drewN _) qj a Jy l1 HPA.out.sy.2.2 H8.out.blk))))
        go_wp2_with fail
        go_ret
        exact ⟨rfl, Cv.drewN_below H8.out.bel _⟩
end Go.Proofs.Ytbflennacniacaa
