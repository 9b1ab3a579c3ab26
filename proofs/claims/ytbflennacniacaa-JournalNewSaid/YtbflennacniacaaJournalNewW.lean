/- The walk of the law JournalNew. -/
import Derived.Test.YtbflennacniacaaJoCut
import Derived.Test.YtbflennacniacaaJournalKeepsW
namespace Go.Proofs.Ytbflennacniacaa
open Go.RowKit
set_option linter.unusedVariables false
theorem fuse_h {w0 wz w : World} {Z : Nat → Prop} {a : Nat} {M : PM} (h : Held w0 wz w Z a M) (s : Int) :
    Calls Try.prog 25 #[.pointer (some ⟨a, 0, .none⟩), .int .i64 s] w fun e w' => e = .returned (.int .i64 (fuseE s)) ∧ Held w0 wz w' Z a (M.fused s) := by
  obtain ⟨⟨F, rfl, h2, h3⟩, h4, h7⟩ := h
  exact (fuse_any F M s w h2).mono fun e w' ⟨he, F', hm, hop⟩ => ⟨he, Held.op h2 h3 h4 h7 hm hop⟩
theorem fused_seen (M : PM) (c : Int) : (M.fused c).seen = M.seen := by
  unfold PM.fused
  split
  · rfl
  · split
    · exact (PM.marked_same _).2.1
    · rfl
theorem newJ_fresh (n start words : Nat) : newJ (PM.fresh n) start words = jd0 start words 1 := by
  unfold newJ
  rw [(Clean.fresh n).words.2]
  show (findN (lookP (fun _ => 0) (baseN (jd0 start words 1) 1) (halfN words)) (findN (lookP (fun _ => 0) (baseN (jd0 start words 1) 0) (halfN words)) (jd0 start words 1, false) 0) 1).1 = _
  rw [look_zero _ _ _ rfl, look_zero _ _ _ rfl]
  rfl
def nwJ1 : JD := (jd0 0 128 1).put ByteArray.empty
theorem nw_fields (U : ByteArray) : nwJ1.turn = 1 ∧ (nwJ1.put U).turn = 2 ∧ (nwJ1.put U).area = 1 ∧ (nwJ1.put U).start = 0 ∧ (nwJ1.put U).words = 128 ∧ nwJ1.other = 8 ∧ nwJ1.area = 0 := by
  have h1 : nwJ1.turn = 1 := by
    show (0 + 1) % 18446744073709551616 = 1
    omega
  have h2 : (nwJ1.put U).turn = 2 := by
    show (nwJ1.turn + 1) % 18446744073709551616 = 2
    rw [h1]
  exact ⟨h1, h2, rfl, rfl, rfl, rfl, rfl⟩
def nwM1 : PM := newM (PM.fresh 16) 0 128
def nwF1 : Nat → Nat := putF (fun _ => 0) 0 1 []
theorem may16 : mayB 16 (0 : Nat) (128 : Nat) = true := by decide +kernel
theorem nw_first : Good nwJ1 nwM1 nwF1 ∧ nwM1.n = 16 ∧ nwM1.ok 20000 := by
  have h := new_good (M := PM.fresh 16) (Clean.fresh 16) (start := 0) (words := 128) may16 (by show 16 ≤ 1024; omega)
  rw [newJ_fresh] at h
  exact ⟨h.1, h.2, newM_ok (PM.ok.fresh 16) 0 128⟩
/-- The second write, and what a head that is cut off leaves. -/
theorem nw_second (U : ByteArray) (hU : U.size ≤ 100) :
    ∃ f, Good (nwJ1.put U) (writeM nwJ1 nwM1 U) f ∧ (writeM nwJ1 nwM1 U).n = 16 ∧ (writeM nwJ1 nwM1 U).ok 40000 ∧ ∀ (c keep : Int), ∃ (J' : JD), openP ((newM ((writeM nwJ1 nwM1 U).fused c) 0 128).crash keep) 0 128 = (J', true) ∧ (J'.text = ByteArray.empty ∨ J'.text = U) ∧
      Words ((newM ((writeM nwJ1 nwM1 U).fused c) 0 128).crash keep).seen ∧ ((newM ((writeM nwJ1 nwM1 U).fused c) 0 128).crash keep).n = 16 := by
  obtain ⟨hg, hn, hok⟩ := nw_first
  obtain ⟨jt, jt2, ja2, js2, jw2, jo, ja⟩ := nw_fields U
  have h2 := put_good hg.weak U (by show U.size ≤ 2 * 128 - 64; omega)
  have hn2 : (writeM nwJ1 nwM1 U).n = 16 := h2.2.trans hn
  have hnear : ∀ j, j < 64 → putF nwF1 nwJ1.other (turn1 nwJ1.turn) U.data.toList j = nwF1 j := fun j hj => by
    refine putF_other _ _ _ _ _ (.inl ?_)
    rw [jo]
    omega
  obtain ⟨f, hf⟩ : ∃ f, putF nwF1 nwJ1.other (turn1 nwJ1.turn) U.data.toList = f := ⟨_, rfl⟩
  rw [hf] at h2 hnear
  refine ⟨f, h2.1, hn2, writeM_ok hok nwJ1 U (by omega), fun c keep => ?_⟩
  obtain ⟨M2, hM2⟩ : ∃ M2, writeM nwJ1 nwM1 U = M2 := ⟨_, rfl⟩
  rw [hM2] at h2 hn2 ⊢
  have hcl : Clean M2 16 f := by have := h2.1.clean; rw [hn2] at this; exact this
  have hsn : seenN (M2.fused c) = f := by
    have e : seenN (M2.fused c) = seenN M2 := by unfold seenN; rw [fused_seen]
    rw [e, h2.1.clean.words.2]
  have hnj : newJ (M2.fused c) 0 128 = nwJ1.put U := by
    unfold newJ
    rw [hsn]
    have := find_good h2.1 1
    rw [js2, jw2] at this
    rw [this]
  have hnm : newM (M2.fused c) 0 128 = putM (M2.fused c) 0 3 [] := by
    unfold newM
    have hb : baseN (nwJ1.put U) (1 - (nwJ1.put U).area) / 8 = 0 := by
      unfold baseN
      rw [ja2, js2]
      simp
    have ht : turn1 (nwJ1.put U).turn = 3 := by
      unfold turn1
      rw [jt2]
    rw [hnj, hb, ht]
  have hcut := (Cut.of_clean hcl (head5 3 []) c).put (by omega)
  obtain ⟨p, hp, hseen, hnc⟩ := hcut.crash keep
  rw [hnm]
  have hsn2 : seenN ((putM (M2.fused c) 0 3 []).crash keep) = cutF f (head5 3 []) p := by
    funext j
    unfold seenN
    rw [hseen]
    rfl
  obtain ⟨g0, g1, g2, g3, g4⟩ := head5_at 3 []
  obtain ⟨k0, k1, k2, k3, k4⟩ := head5_at 1 []
  have near : ∀ i, i < 5 → f i = (head5 1 []).getD i 0 := fun i hi => by
    rw [hnear i (by omega)]
    unfold nwF1 putF
    rw [if_pos ⟨by omega, by omega⟩, Nat.mul_zero, Nat.sub_zero]
  have hopen := cut_open h2.1 ja2 ⟨js2, jw2⟩ jt2 ((near 0 (by omega)).trans k0) ((near 1 (by omega)).trans k1) ((near 2 (by omega)).trans k2) ((near 3 (by omega)).trans k3) ((near 4 (by omega)).trans k4) p hp
  obtain ⟨J', hJ', htx⟩ := hopen
  refine ⟨J', ?_, htx, fun i => ?_, hnc⟩
  · unfold openP
    rw [hsn2]
    exact hJ'
  · rw [hseen]
    have hlt : cutF f (head5 3 []) p i < 18446744073709551616 := by
      unfold cutF
      split
      · have : i = 0 ∨ i = 1 ∨ i = 2 ∨ i = 3 ∨ i = 4 := by omega
        rcases this with e | e | e | e | e <;> subst e
        · rw [g0]; unfold magicN; omega
        · rw [g1]; omega
        · rw [g2]; show 0 < _; omega
        · rw [g3]; exact sumN_lt64 _
        · rw [g4]; exact sumN_lt64 _
      · exact h2.1.clean.small i
    exact ⟨Int.natCast_nonneg _, by show ((cutF f (head5 3 []) p i : Nat) : Int) < _; omega⟩
set_option maxRecDepth 100000 in
set_option maxHeartbeats 8000000 in
theorem journalNew_walk (s : ByteArray) (hs : s.size ≤ maxLen) (fuse : Int) (h1 : (Lit.int .i64 fuse).wf = true) (keep : Int) (h2 : (Lit.int .i64 keep).wf = true) (w : World) :
    Calls Try.prog 14 #[.string s, .int .i64 fuse, .int .i64 keep] w fun e w' => e = .returned (.bool true) ∧ Below w.heap.size w w' := by
  unfold maxLen at hs
  obtain ⟨c, hc, hcf⟩ := Cv.and_i64 fuse 63 (by omega)
  rw [show ((63 : Nat) : Int) = 63 from rfl] at hcf
  obtain ⟨U, hU, hUs⟩ : ∃ U : ByteArray, U.size ≤ 100 ∧ ((100 < s.size ∧ U = s.extract 0 100) ∨ (s.size ≤ 100 ∧ U = s)) := by
    by_cases h : 100 < s.size
    · exact ⟨s.extract 0 100, by rw [ByteArray.size_extract]; omega, .inl ⟨h, rfl⟩⟩
    · exact ⟨s, by omega, .inr ⟨by omega, rfl⟩⟩
  have hcase : (decide ((100 : Int) < (s.size : Int)) = true ∧ 100 < s.size ∧ s.extract 0 100 = U) ∨ (decide ((100 : Int) < (s.size : Int)) = false ∧ s.size ≤ 100 ∧ U = s) := by
    rcases hUs with ⟨h, e⟩ | ⟨h, e⟩
    · exact .inl ⟨by simp; omega, h, e.symm⟩
    · exact .inr ⟨by simp; omega, h, e⟩
  clear hUs h1 h2
  obtain ⟨f2, hg2, hn2, hok2, hcut⟩ := nw_second U hU
  obtain ⟨J', hJ', htx, hwd, hn'⟩ := hcut (c : Int) keep
  have hg1 := nw_first
  have hng := new_good (M := writeM nwJ1 nwM1 U) (start := 0) (words := 128) hg2.clean (by rw [hn2]; exact may16) (by rw [hn2]; omega)
  have hngc := hng.1.crash keep
  have hkp := newJ_keeps (writeM nwJ1 nwM1 U) 0 128
  have hop := open_good hngc
  rw [hkp.1, hkp.2] at hop
  obtain ⟨M2, hM2⟩ : ∃ M2, writeM nwJ1 nwM1 U = M2 := ⟨_, rfl⟩
  rw [hM2] at hg2 hn2 hok2 hJ' hwd hn' hng hngc hop
  have hwf : Words (M2.fused (c : Int)).seen := by rw [fused_seen]; exact hg2.clean.words.1
  have hfn : (M2.fused (c : Int)).n = 16 := by rw [PM.fused_n]; exact hn2
  have hfo : (M2.fused (c : Int)).ok 40000 := hok2.fused (c : Int) (by unfold wf64; omega)
  have HM2 := Lib.hid hM2
  have HG1 := Lib.hid hg1
  have HG2 := Lib.hid hg2
  have HN2 := Lib.hid hn2
  have HOK2 := Lib.hid hok2
  have HJ' := Lib.hid hJ'
  have HTX := Lib.hid htx
  have HWD := Lib.hid hwd
  have HN' := Lib.hid hn'
  have HNG := Lib.hid hng
  have HNGC := Lib.hid hngc
  have HOP := Lib.hid hop
  have HWF := Lib.hid hwf
  have HFN := Lib.hid hfn
  have HFO := Lib.hid hfo
  have HMAY := Lib.hid may16
  clear hg1 hg2 hn2 hok2 hcut hJ' htx hwd hn' hng hngc hkp hop hM2 hwf hfn hfo
  rcases hcase with ⟨q0, hbg, hcuts⟩ | ⟨q0, hbg, rfl⟩
  all_goals
    go_enter Try.func14, Try.ntmps14
    go_wp2_with fail
    refine (awake21 _).mono ?_
    rintro e w1 ⟨rfl, hb1⟩
    go_wp2_with fail
    refine (new_live 16 w w1 hb1 (by omega) (by omega) 128 rfl).mono ?_
    rintro e w2 ⟨a, rfl, _, g1, _⟩
    have H1 := Lib.hid g1.held
    clear g1 hb1
    go_wp2_with fail
    refine (new_j w w2 w2 _ a (PM.fresh 16) 0 128 _ _ rfl rfl H1.out HMAY.out (by show 16 ≤ 1024; omega) (Clean.fresh 16).words.1 0 (PM.ok.fresh 16) (by omega)).mono ?_
    rw [newJ_fresh]
    rintro e w3 ⟨j, rfl, _, h3⟩
    have H3 : Hid (Jour w w2 w3 (fun _ => False) j a nwJ1 nwM1) := Lib.hid h3
    clear h3
    go_wp2_with fail
    refine (write_j w w2 w3 _ j a nwJ1 nwM1 U H3.out HG1.out.1.fit HG1.out.1.area HG1.out.1.start8 (by show U.size ≤ 2 * 128 - 64; omega) 20000 HG1.out.2.2 (by omega)).mono ?_
    rw [HM2.out]
    rintro e w4 ⟨rfl, h4⟩
    have H4 := Lib.hid h4
    clear h4
    go_wp2_with fail
    refine (copy_h H4.out.held).mono ?_
    rintro e w5 ⟨cc, rfl, h5⟩
    have H5 := Lib.hid h5.held
    clear h5
    go_wp2_with fail
    refine (new_j w4 w5 w5 _ cc M2 0 128 _ _ rfl rfl H5.out (by rw [HN2.out]; exact HMAY.out) (by rw [HN2.out]; omega) HG2.out.clean.words.1 40000 HOK2.out (by omega)).mono ?_
    rintro e w6 ⟨kj, rfl, _, h6⟩
    have H6 := Lib.hid h6
    clear h6
    go_wp2_with (go_at_call 22; refine (num21 _ _).mono ?_; rintro e w' ⟨rfl, rfl⟩)
    refine (read_j w6 kj cc _ ByteArray.empty rfl H6.out.blk).mono ?_
    rintro e w7 ⟨rfl, rfl⟩
    go_wp2_with fail
    refine (crash_h H6.out.held keep).mono ?_
    rintro e w7 ⟨rfl, h7⟩
    have H7 := Lib.hid h7
    clear h7
    have hnk : ((newM M2 0 128).crash keep).n = 16 := by rw [PM.crash_n, HNG.out.2]; exact HN2.out
    have HNK := Lib.hid hnk
    clear hnk
    go_wp2_with fail
    refine (open_j w4 w6 w7 _ cc ((newM M2 0 128).crash keep) 0 128 _ _ rfl rfl H7.out (by rw [HNK.out]; exact HMAY.out) (by rw [HNK.out]; omega) HNGC.out.clean.words.1 true (by rw [HOP.out])).mono ?_
    rw [HOP.out]
    rintro e w8 ⟨oj, rfl, _, h8⟩
    have H8 := Lib.hid h8
    clear h8
    go_wp2_with (go_at_call 22; refine (num21 _ _).mono ?_; rintro e w' ⟨rfl, rfl⟩)
    refine (read_j w8 oj cc _ ByteArray.empty rfl H8.out.blk).mono ?_
    rintro e w9 ⟨rfl, rfl⟩
    have HM8 := Lib.hid (H4.out.below H8.out.bel).held
    go_wp2_with fail
    refine (fuse_h HM8.out (c : Int)).mono ?_
    rintro e w9 ⟨rfl, h9⟩
    have H9 := Lib.hid h9
    clear h9
    go_wp2_with fail
    refine (new_j w w8 w9 _ a (M2.fused (c : Int)) 0 128 _ _ rfl rfl H9.out (by rw [HFN.out]; exact HMAY.out) (by rw [HFN.out]; omega) HWF.out 40000 HFO.out (by omega)).mono ?_
    rintro e wa ⟨nj, rfl, _, ha⟩
    have HA := Lib.hid ha.held
    clear ha
    go_wp2_with fail
    refine (crash_h HA.out keep).mono ?_
    rintro e wb ⟨rfl, hb⟩
    have HB := Lib.hid hb
    clear hb
    go_wp2_with fail
    refine (open_j w wa wb _ a _ 0 128 _ _ rfl rfl HB.out (by rw [HN'.out]; exact HMAY.out) (by rw [HN'.out]; omega) HWD.out true (by rw [HJ'.out])).mono ?_
    rw [HJ'.out]
    rintro e wc ⟨pj, rfl, _, hc9⟩
    have HC := Lib.hid hc9
    clear hc9
    go_wp2_with (go_at_call 22; refine (num21 _ _).mono ?_; rintro e w' ⟨rfl, rfl⟩)
    by_cases hX : J'.text = ByteArray.empty
    · refine (read_j wc pj a J' ByteArray.empty hX HC.out.blk).mono ?_
      rintro e wd ⟨rfl, rfl⟩
      clear hX
      go_wp2_with fail
      go_ret
      exact ⟨rfl, HC.out.bel⟩
    · have hXU : J'.text = U := (HTX.out).resolve_left hX
      have hne : U ≠ ByteArray.empty := fun e => hX (hXU.trans e)
      have hemp : U.toList.isEmpty = false := by
        rw [ByteArray.toList_eq]
        cases e : U.data.toList with
        | nil => exact absurd (ByteArray.ext (Array.toList_inj.1 e)) hne
        | cons a l => rfl
      have HXU := Lib.hid hXU
      clear hX hXU hne
      refine (read_j wc pj a J' U HXU.out HC.out.blk).mono ?_
      rintro e wd ⟨rfl, rfl⟩
      go_wp2_with fail
      refine (read_j wc pj a J' U HXU.out HC.out.blk).mono ?_
      rintro e wd ⟨rfl, rfl⟩
      go_wp2_with fail
      go_ret
      exact ⟨rfl, HC.out.bel⟩
end Go.Proofs.Ytbflennacniacaa
