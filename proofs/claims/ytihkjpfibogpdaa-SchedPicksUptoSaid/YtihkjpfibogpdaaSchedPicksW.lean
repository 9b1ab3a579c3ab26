/- The walk of the law SchedPicks. -/
import Derived.Test.YtihkjpfibogpdaaAwake3
import Derived.Test.YtihkjpfibogpdaaRefPicks
import Derived.Test.YtihkjpfibogpdaaRefTurns
import Derived.Test.YtihkjpfibogpdaaSameBools
namespace Go.Proofs.Ytihkjpfibogpdaa.Picks
open Go.RowKit
set_option linter.unusedVariables false
theorem infoBool : (Try.prog.info? 4).map (fun i => (i.zero, i.size, i.bytes)) = some (some (.bool false), 1, 1) := by kernel_rfl
set_option maxRecDepth 100000 in
set_option maxHeartbeats 2000000 in
theorem walk (W : World) (A : Option Addr) (n c : Nat) (bs : List Bool) (hx : Reads W A n (bs.map Value.bool)) (hn : n ≤ 1048576) (hA : A = none → c = 0) (p : Int) (hp : (Lit.int .i64 p).wf = true) (cores : Int) (hcw : (Lit.int .i64 cores).wf = true)
    (B : Option Addr) (m d : Nat) (ps : List Int) (hps : Reads W B m (ps.map (Value.int .i64))) (_hwf : ∀ x ∈ ps, (Lit.int .i64 x).wf = true) (hm : m ≤ 1048576) (hB : B = none → d = 0) :
    Calls Try.prog 14 #[.slice A n c, .int .i64 p, .int .i64 cores, .slice B m d] W fun e w' => e = .returned (.bool true) ∧ Below W.heap.size W w' := by
  have hcores : cores ≤ 9223372036854775807 := by
    have h : (decide (IntKind.i64.min ≤ cores) && decide (cores ≤ IntKind.i64.max)) = true := hcw
    rw [Bool.and_eq_true, decide_eq_true_eq, decide_eq_true_eq] at h
    have h2 : IntKind.i64.max = 9223372036854775807 := by decide
    have := h.2
    rw [h2] at this
    exact this
  obtain ⟨x, hpv⟩ : ∃ x, pickV bs p = x := ⟨_, rfl⟩
  obtain ⟨y, hpk⟩ : ∃ y, picks bs = y := ⟨_, rfl⟩
  have hlen : bs.length = n := by simpa using hx.1
  have hleni : ps.length = m := by simpa using hps.1
  have hmade := row_made W 4
  have hal : Below W.heap.size W (W.alloc (.cells #[] 4)) := (Below.refl _ _).alloc (Nat.le_refl _) _
  have HX := Lib.hid hx
  have HP := Lib.hid hps
  have HA := Lib.hid hA
  have HB := Lib.hid hB
  have HPV := Lib.hid hpv
  have HPK := Lib.hid hpk
  have HM := Lib.hid hmade
  have HAL := Lib.hid hal
  have HL := Lib.hid hlen
  have HLI := Lib.hid hleni
  clear hx hps hA hB hpv hpk hmade hal hp hcw hlen hleni
  go_enter Try.func14, Try.ntmps14
  go_wp2_with (at_builtin; refine wpList_append_reads rfl _ _ 38 4 (.bool false) 1 rfl Try.underlying38 infoBool rfl W.heap.size _ 0 [] rfl HM.out A n c _ rfl (HX.out.below HAL.out) HA.out (fun u hu => by obtain ⟨x, _, rfl⟩ := List.mem_map.1 hu; rfl) (by unfold maxLen; omega) (by omega) HAL.out.size ?_)
  intro v' w1 hown' hgrow hnn
  have hnv : v' ≠ .slice .none 0 0 := hnn
  have hbel : Below W.heap.size W w1 := HAL.out.grown hgrow HAL.out.size fun x hx => (HM.out.lt x hx).1
  obtain ⟨g, cap, rfl, hbg, hg, hnc, hcm, hcell⟩ := row_shape (by simpa using hown' : w1.ownsRow W.heap.size 4 1 v' n (bs.map Value.bool)) hnv
  have hread : Reads w1 (some ⟨g, 0, .none⟩) n (bs.map Value.bool) := ⟨by simpa using HL.out, fun _ => ⟨g, 0, rfl, hg, fun j hj => by rw [Nat.zero_add]; exact hcell j hj⟩⟩
  have HR := Lib.hid hread
  have HB1 := Lib.hid hbel
  clear hown' hgrow hnn hnv hbel hcell hread
  go_wp2_with fail
  refine (lendints_any B m d ps w1 (HP.out.below HB1.out) HB.out hm).mono ?_
  rintro e w2 ⟨g2, cap2, rfl, hcap2, hcm2, hl2, hb2⟩
  have HL2 := Lib.hid hl2
  have HB2 := Lib.hid hb2
  clear hl2 hb2
  go_wp2_with fail
  refine (pick_lit _ n cap bs p x y w2 (HR.out.below HB2.out) (by omega) HPV.out HPK.out).mono ?_
  rintro e w3 ⟨rfl, hb3⟩
  have HB3 := Lib.hid hb3
  clear hb3
  go_wp2_with fail
  refine (refpick_any A n c bs p w3 (((HX.out.below HB1.out).below HB2.out).below HB3.out) hn).mono ?_
  rintro e w4 ⟨rfl, hb4⟩
  rw [HPV.out, HPK.out]
  have HB4 := Lib.hid hb4
  clear hb4
  go_wp2_with fail
  refine (samebools_any _ A n n cap c bs bs w4 (((HR.out.below HB2.out).below HB3.out).below HB4.out) ((((HX.out.below HB1.out).below HB2.out).below HB3.out).below HB4.out) (by omega) (by omega)).mono ?_
  rintro e w5 ⟨rfl, hb5⟩
  rw [decide_eq_true rfl]
  have hl5 := ((HL2.out.below HB3.out).below HB4.out).below hb5
  have HL5 := Lib.hid hl5
  have HP5 := Lib.hid (((((HP.out.below HB1.out).below HB2.out).below HB3.out).below HB4.out).below hb5)
  have HB5 := Lib.hid (Cv.next (Cv.next (Cv.next (Cv.next HB1.out HB2.out) HB3.out) HB4.out) hb5)
  have hfr : Reads w5 (some ⟨g2, 0, .none⟩) m (ps.map (Value.int .i64)) := by
    rw [List.map_append] at hl5
    exact hl5.front (by simpa using HLI.out)
  have HF5 := Lib.hid hfr
  clear hl5 hb5 hfr
  go_wp2_with fail
  obtain ⟨ts, hts⟩ : ∃ ts, turnsL cores ps = ts := ⟨_, rfl⟩
  have htl : ts.length ≤ m := by
    rw [← hts]
    unfold turnsL
    split
    · simp
    · rw [List.length_map]; have := HLI.out; omega
  have HTS := Lib.hid hts
  clear hts
  refine (turns_lit _ m cap2 ps ts cores w5 HF5.out (by omega) hcores HTS.out).mono ?_
  rintro e w6 ⟨C6, cap6, rfl, hr6, hb6⟩
  have HR6 := Lib.hid hr6
  have HB6 := Lib.hid hb6
  clear hr6 hb6
  go_wp2_with fail
  refine (refturns_any B m d ps cores w6 (HP5.out.below HB6.out) (by omega) hcores).mono ?_
  rintro e w7 ⟨v7, rfl, ho7, hb7⟩
  rw [HTS.out] at ho7
  obtain ⟨C7, cap7, rfl, _, _, hr7⟩ := ho7.form
  have HR7 := Lib.hid hr7
  have HB7 := Lib.hid hb7
  clear hr7 hb7 ho7
  go_wp2_with fail
  refine (sameints_any C6 C7 ts.length ts.length cap6 cap7 ts ts w7 (HR6.out.below HB7.out) HR7.out (by omega) (by omega)).mono ?_
  rintro e w8 ⟨rfl, hb8⟩
  rw [decide_eq_true rfl]
  have HB8 := Lib.hid hb8
  clear hb8
  go_wp2_with fail
  refine (keptints_any B m d g2 cap2 ps w8 (((HP5.out.below HB6.out).below HB7.out).below HB8.out) (((HL5.out.below HB6.out).below HB7.out).below HB8.out) hm hcap2 hcm2).mono ?_
  rintro e w9 ⟨rfl, hb9⟩
  have HB9 := Lib.hid hb9
  clear hb9
  go_wp2_with fail
  refine (awake3 _).mono ?_
  rintro e w10 ⟨rfl, hb10⟩
  go_wp2_with fail
  go_ret
  exact ⟨rfl, Cv.next (Cv.next (Cv.next (Cv.next (Cv.next HB5.out HB6.out) HB7.out) HB8.out) HB9.out) hb10⟩
end Go.Proofs.Ytihkjpfibogpdaa.Picks
