/- do of the document, whatever the call: by its contract. Under way. -/
import Derived.Test.YthhceopnnappgaaGreatDoorFsNames
import Derived.Test.YthhceopnnappgaaGreatDoorFsLooks
import Derived.Test.YthhceopnnappgaaGreatDoorM30
import Derived.Test.YthhceopnnappgaaGreatDoorFsMayDoc
import Derived.Test.YthhceopnnappgaaGreatDoorFsDo
import Derived.Outline
import Derived.Deep.CutBlock
set_option linter.unusedVariables false
set_option linter.unusedSimpArgs false
namespace Go.Proofs.YthhceopnnappgaaGreatDoor
open Go.RowKit
theorem make1V_names (s : St) (c : Ca) : (make1V s c).2.names = [] := by unfold make1V; split; rfl; split; rfl; split <;> rfl
theorem openedV_names (s : St) (c : Ca) (want : Int) : (openedV s c want).2.1.names = [] := by unfold openedV; split; rfl; split; rfl; split; rfl; split; split <;> rfl; rfl
theorem byFdV_names (s : St) (c : Ca) : (byFdV s c).2.names = [] := by
 unfold byFdV
 split; rfl
 split; rfl
 split
 ·split <;> rfl
 split
 ·split; rfl
  split; rfl
  split <;> rfl
 split
 ·split <;> rfl
 split <;> rfl
theorem namesV_names (s : St) (c : Ca) : (namesV s c).2.names = [] := by
 unfold namesV
 split
 ·unfold linkV; split; rfl; split; rfl; split; rfl; split; rfl; split <;> rfl
 split; rfl
 split; rfl
 split
 ·unfold renameV; repeat (first | rfl | split)
 split; rfl
 split; rfl
 split <;> rfl
section
variable (s : St) (c : Ca) (want : Int) (hm : mayV s = true) (hc0 : 0 ≤ c.core) (hc1 : c.core < (s.made.length : Int))
include hm hc0 hc1
theorem doF_good (hk0 : 0 ≤ c.kind) (hk1 : c.kind ≤ 16) : ¬ (mayV s = false ∨ c.core < 0 ∨ (s.made.length : Int) ≤ c.core ∨ c.kind < 0 ∨ 16 < c.kind) := by
 rw [hm]
 rintro (h | h | h | h | h)
 ·cases h
 all_goals omega
theorem doF_make (hk0 : 0 ≤ c.kind) (hk1 : c.kind ≤ 1) : doF s c want = ((make1V s c).1, (make1V s c).2, true) := by
 unfold doF
 rw [if_neg (doF_good s c hm hc0 hc1 hk0 (by omega)), if_pos hk1]
theorem doF_open (hk : c.kind = 2) : doF s c want = openedV s c want := by
 unfold doF
 rw [if_neg (doF_good s c hm hc0 hc1 (by omega) (by omega)), if_neg (by omega), if_pos hk]
theorem doF_fd (hk : (3 ≤ c.kind ∧ c.kind ≤ 7) ∨ c.kind = 15) : doF s c want = ((byFdV s c).1, (byFdV s c).2, true) := by
 unfold doF
 rw [if_neg (doF_good s c hm hc0 hc1 (by omega) (by omega)), if_neg (by omega), if_neg (by omega), if_pos (by omega)]
theorem doF_names (hk0 : 8 ≤ c.kind) (hk1 : c.kind ≤ 11) : doF s c want = ((namesV s c).1, (namesV s c).2, true) := by
 unfold doF
 rw [if_neg (doF_good s c hm hc0 hc1 (by omega) (by omega)), if_neg (by omega), if_neg (by omega), if_neg (by omega), if_pos (by omega)]
theorem doF_looks (hk0 : 12 ≤ c.kind) (hk1 : c.kind ≤ 14) : doF s c want = (s, looksV s c, true) := by
 unfold doF
 rw [if_neg (doF_good s c hm hc0 hc1 (by omega) (by omega)), if_neg (by omega), if_neg (by omega), if_neg (by omega), if_neg (by omega), if_pos (by omega)]
theorem doF_none (hk : c.kind = 16) : doF s c want = (s, {}, true) := by
 unfold doF
 rw [if_neg (doF_good s c hm hc0 hc1 (by omega) (by omega)), if_neg (by omega), if_neg (by omega), if_neg (by omega), if_neg (by omega), if_neg (by omega)]
end
theorem make1V_same (s : St) (c : Ca) (h : (make1V s c).2.code ≠ 0) : (make1V s c).1 = s := by
 revert h
 unfold make1V
 repeat (first | (intro h; rfl) | (intro h; exact absurd rfl h) | split)
theorem openedV_same (s : St) (c : Ca) (want : Int) (h : (openedV s c want).2.1.code ≠ 0 ∨ (openedV s c want).2.2 = false) : (openedV s c want).1 = s := by
 revert h
 unfold openedV
 repeat (first | (intro h; rfl) | (intro h; rcases h with h | h; exact absurd rfl h; cases h) | split)
theorem byFdV_same (s : St) (c : Ca) (h : (byFdV s c).2.code ≠ 0) : (byFdV s c).1 = s := by
 revert h
 unfold byFdV
 repeat (first | (intro h; rfl) | (intro h; exact absurd rfl h) | split)
theorem namesV_same (s : St) (c : Ca) (h : (namesV s c).2.code ≠ 0) : (namesV s c).1 = s := by
 revert h
 unfold namesV linkV renameV
 repeat (first | (intro h; rfl) | (intro h; exact absurd rfl h) | split)
theorem doF_same (s : St) (c : Ca) (want : Int) (h : (doF s c want).2.1.code ≠ 0 ∨ (doF s c want).2.2 = false) : (doF s c want).1 = s := by
 revert h
 unfold doF
 split
 ·intro h; rfl
 split
 ·intro h
  rcases h with h | h
  ·exact make1V_same s c h
  ·cases h
 split
 ·exact openedV_same s c want
 split
 ·intro h
  rcases h with h | h
  ·exact byFdV_same s c h
  ·cases h
 split
 ·intro h
  rcases h with h | h
  ·exact namesV_same s c h
  ·cases h
 split <;> (intro h; rfl)
structure DoOk (s : St) (c : Ca) (want : Int) : Prop where
 whole : Whole s.inos
 pz : c.path.size ≤ 140737488355328
 pz2 : c.path2.size ≤ 140737488355328
 ns2 : (parentV s.inos c.path2).2.1.size ≤ 140737488355328
 deep : ∀ num, dirAt s.inos num = true → Deep s.inos (1 + s.inos.length) num
 sz : Sized (doF s c want).1
 mz : c.kind ≤ 1 → MakeSized s c
 m8 : s.made.length ≤ 8
 mrange : ∀ m ∈ s.made, 0 ≤ m ∧ m ≤ 32
structure Dk (a b d : Value) (s : St) (c : Ca) (w0 w : World) : Prop where
 box : OutAt w w0.heap.size a b d
 call : w.heap[w0.heap.size + 1]? = some (caRow c)
 outS : OutAt w (w0.heap.size + 2) (.slice none 0 0) (.slice none 0 0) (.slice none 0 0)
 outR : ResAt w (w0.heap.size + 3) (.int .i64 0) (.int .i64 0) (.int .i64 0) (.bool false) (.string ⟨#[]⟩) (.slice none 0 0)
 st : StAt none w (.agg #[a, b, d]) s
 bel : Below w0.heap.size w0 w
 size : w0.heap.size + 4 ≤ w.heap.size
theorem Dk.below {a b d : Value} {s : St} {c : Ca} {w0 w w' : World} (h : Dk a b d s c w0 w) (hb : Below w.heap.size w w') : Dk a b d s c w0 w' := by
 have hs := h.size
 exact ⟨(hb.block _ (by omega)).trans h.box, (hb.block _ (by omega)).trans h.call, (hb.block _ (by omega)).trans h.outS, (hb.block _ (by omega)).trans h.outR, h.st.below hb, h.bel.trans (hb.mono (by omega)), Nat.le_trans h.size hb.size⟩
theorem Dk.vals {a b d : Value} {s : St} {c : Ca} {w0 w : World} (h : Dk a b d s c w0 w) : w.cell? ⟨w0.heap.size, 0, none⟩ = some a ∧ w.cell? ⟨w0.heap.size, 1, none⟩ = some b ∧ w.cell? ⟨w0.heap.size, 2, none⟩ = some d ∧
  w.cell? ⟨w0.heap.size + 1, 0, none⟩ = some (.int .i64 c.kind) ∧ w.cell? ⟨w0.heap.size + 1, 1, none⟩ = some (.int .i64 c.core) ∧ w.cell? ⟨w0.heap.size + 1, 2, none⟩ = some (.int .i64 c.fd) ∧ w.cell? ⟨w0.heap.size + 1, 3, none⟩ = some (.int .i64 c.off) ∧ w.cell? ⟨w0.heap.size + 1, 4, none⟩ = some (.int .i64 c.num) ∧
  w.cell? ⟨w0.heap.size + 1, 5, none⟩ = some (.string c.path) ∧ w.cell? ⟨w0.heap.size + 1, 6, none⟩ = some (.string c.path2) ∧ w.cell? ⟨w0.heap.size + 1, 7, none⟩ = some (.string c.data) := by
 have hc := h.call
 unfold caRow at hc
 obtain ⟨b0, b1, b2, _⟩ := h.box.get
 refine ⟨b0, b1, b2, ?_, ?_, ?_, ?_, ?_, ?_, ?_, ?_⟩ <;> (rw [cell_of_row w (w0.heap.size + 1) _ _ _ (0, 0) hc]; rfl)
theorem Dk.start {w : World} {s : St} {A : Option Addr} {n cp : Nat} {E : Option Addr} {m d : Nat} {D : Option Addr} {k e : Nat} (h : StAt none w (.agg #[.slice A n cp, .slice E m d, .slice D k e]) s) (c : Ca) :
  ∃ W W2 W3 W4, w.alloc (.cells #[.slice A n cp, .slice E m d, .slice D k e] 26) = W ∧ W.alloc (.cells #[.int .i64 c.kind, .int .i64 c.core, .int .i64 c.fd, .int .i64 c.off, .int .i64 c.num, .string c.path, .string c.path2, .string c.data] 40) = W2 ∧
   W2.alloc (.cells #[.slice none 0 0, .slice none 0 0, .slice none 0 0] 26) = W3 ∧ W3.alloc (.cells #[.int .i64 0, .int .i64 0, .int .i64 0, .bool false, .string ⟨#[]⟩, .slice none 0 0] 44) = W4 ∧
   W.heap.size = w.heap.size + 1 ∧ W2.heap.size = w.heap.size + 2 ∧ W3.heap.size = w.heap.size + 3 ∧ Dk (.slice A n cp) (.slice E m d) (.slice D k e) s c w W4 := by
 have h1 : Below w.heap.size w (w.alloc (.cells #[.slice A n cp, .slice E m d, .slice D k e] 26)) := (Below.refl _ _).alloc (Nat.le_refl _) _
 obtain ⟨W2, hW2, hbc, hal, hsz⟩ := box_ca (w.alloc (.cells #[.slice A n cp, .slice E m d, .slice D k e] 26)) c
 have hs1 : (w.alloc (.cells #[.slice A n cp, .slice E m d, .slice D k e] 26)).heap.size = w.heap.size + 1 := by simp
 obtain ⟨W3, hW3⟩ : ∃ W3, W2.alloc (.cells #[.slice none 0 0, .slice none 0 0, .slice none 0 0] 26) = W3 := ⟨_, rfl⟩
 have hal3 : Below W2.heap.size W2 W3 := by rw [← hW3]; exact (Below.refl _ _).alloc (Nat.le_refl _) _
 have hs3 : W3.heap.size = W2.heap.size + 1 := by rw [← hW3]; simp
 have ho3 : W3.heap[W2.heap.size]? = some (.cells #[.slice none 0 0, .slice none 0 0, .slice none 0 0] 26 (0, 0)) := by rw [← hW3]; exact heap_alloc_new W2 _
 have hal4 : Below W3.heap.size W3 (W3.alloc (.cells #[.int .i64 0, .int .i64 0, .int .i64 0, .bool false, .string ⟨#[]⟩, .slice none 0 0] 44)) := (Below.refl _ _).alloc (Nat.le_refl _) _
 have hb34 := Cv.next hal3 hal4
 have hb24 := Cv.next hal hb34
 rw [hs1] at hbc hsz
 refine ⟨_, W2, W3, _, rfl, hW2, hW3, rfl, hs1, by omega, by omega, ?_, ?_, ?_, ?_, h.below (Cv.next h1 hb24), Cv.next h1 hb24, by simp; omega⟩
 ·exact (hb24.block _ (by omega)).trans (heap_alloc_new w _)
 ·exact (hb34.block _ (by omega)).trans hbc
 ·rw [show w.heap.size + 2 = W2.heap.size by omega]; exact (hal4.block _ (by omega)).trans ho3
 ·rw [show w.heap.size + 3 = W3.heap.size by omega]; exact heap_alloc_new W3 _
set_option maxRecDepth 100000 in
set_option maxHeartbeats 16000000 in
theorem do_any0 (v : Value) (s : St) (c : Ca) (want : Int) (w : World) (h : StAt none w v s) (hm : mayV s = true) (hc0 : 0 ≤ c.core) (hc1 : c.core < (s.made.length : Int)) (hk0 : 0 ≤ c.kind) (hk1 : c.kind ≤ 16) (hok : DoOk s c want) :
  Calls Tryz.prog 44 #[v, caV c, .int .i64 want] w fun e w' => ∃ v' rv, e = .returned (.tuple #[v', rv, .bool (doF s c want).2.2]) ∧ StAt (some w.heap.size) w' v' (doF s c want).1 ∧ ResIs (some w.heap.size) w' rv (doF s c want).2.1 ∧ Below w.heap.size w w' := by
 obtain ⟨A, n, cp, E, m, d, D, k, e, rfl, _, _, hM, _⟩ := h.at_
 have hkl : s.made.length = k := hM.1
 obtain ⟨W, W2, W3, W4, hW, hW2, hW3, hW4, hs1, hs2, hs3, hdk⟩ := Dk.start h c
 obtain ⟨x0, x1, x2, k0, k1, _⟩ := hdk.vals
 have HD := Lib.hid hdk
 have HM := Lib.hid hm
 have HOK := Lib.hid hok
 clear hok
 have g1 : decide (c.core < 0) = false := by rw [decide_eq_false_iff_not]; omega
 have g2 : decide ((k : Int) ≤ c.core) = false := by rw [decide_eq_false_iff_not]; omega
 obtain ⟨KD, hKD⟩ : ∃ KD, c.kind = KD := ⟨_, rfl⟩
 rw [hKD] at hk0 hk1 k0 hW2
 have HKD := Lib.hid hKD
 have g3 : decide (KD < 0) = false := by rw [decide_eq_false_iff_not]; omega
 have g4 : decide ((16 : Int) < KD) = false := by rw [decide_eq_false_iff_not]; omega
 have hsz := hdk.size
 clear hM hdk hm h
 obtain ⟨RV, hRV⟩ : ∃ RV, doF s c want = RV := ⟨_, rfl⟩
 have HDF := Lib.hid hRV
 rw [hRV]
 clear hRV
 unfold caV
 rw [hKD]
 clear hKD
 go_enter Tryz.func44, Tryz.ntmps44
 go_wp2_with fail
 clear hW hW2 hW3 hW4
 refine (may_doc _ s W4 HD.out.st).mono ?_
 rintro e5 w5 ⟨rfl, hb5⟩
 rw [HM.out]
 have HD5 := Lib.hid (HD.out.below hb5)
 have hsz5 := HD5.out.size
 clear hb5 x0 x1 x2 k0 k1
 obtain ⟨x0, x1, x2, k0, k1, _⟩ := HD5.out.vals
 rw [HKD.out] at k0
 go_wp2_with fail
 refine (copy_any _ s w5 HD5.out.st).mono ?_
 rintro e6 w6 ⟨v6, rfl, hst6, hb6⟩
 obtain ⟨A6, n6, c6, E6, m6, d6, D6, k6, e6, rfl, hI6, hD6, hM6, p5, p6, p7⟩ := hst6.at_
 have HD6 := Lib.hid (HD5.out.below hb6)
 clear x0 x1 x2 k0 k1
 go_upto_region 5 with fail
 obtain ⟨U1, hU1⟩ : ∃ U1, w6.alloc (.cells #[.slice A6 n6 c6, .slice E6 m6 d6, .slice D6 k6 e6] 26) = U1 := ⟨_, rfl⟩
 obtain ⟨U2, hU2⟩ : ∃ U2, U1.alloc (.cells #[.int .i64 0, .int .i64 0, .int .i64 0, .bool false, .string ⟨#[]⟩, .slice none 0 0] 44) = U2 := ⟨_, rfl⟩
 have hau1 : Below w6.heap.size w6 U1 := by rw [← hU1]; exact (Below.refl _ _).alloc (Nat.le_refl _) _
 have hau2 : Below U1.heap.size U1 U2 := by rw [← hU2]; exact (Below.refl _ _).alloc (Nat.le_refl _) _
 have hsu1 : U1.heap.size = w6.heap.size + 1 := by rw [← hU1]; simp
 have hau := Cv.next hau1 hau2
 have hru : ResAt U2 (w6.heap.size + 1) (.int .i64 0) (.int .i64 0) (.int .i64 0) (.bool false) (.string ⟨#[]⟩) (.slice none 0 0) := by rw [← hsu1, ← hU2]; exact heap_alloc_new U1 _
 have hpu : U1.heap[w6.heap.size]? = some (.cells #[.slice A6 n6 c6, .slice E6 m6 d6, .slice D6 k6 e6] 26 (0, 0)) := by rw [← hU1]; exact heap_alloc_new w6 _
 have hpu2 := (hau2.block w6.heap.size (by omega)).trans hpu
 have hs6 : w5.heap.size ≤ w6.heap.size := hb6.size
 have hown : Own w5.heap.size U2 w6.heap.size s := ⟨⟨A6, n6, c6, E6, m6, d6, D6, k6, e6, hs6, hpu2, hI6.below hau, hD6.below hau, hM6.below hau, p5, p6, p7⟩, hst6.sized⟩
 have HDU := Lib.hid (HD6.out.below hau)
 have HOU := Lib.hid hown
 have HRU := Lib.hid hru
 have HB5U := Lib.hid (Cv.next hb6 hau)
 have hsU : w6.heap.size + 2 ≤ U2.heap.size := by have := hau2.size; have := HRU.out.lt; omega
 obtain ⟨g0, g1', g2', g3, g4, g5, gf⟩ := hru.get
 obtain ⟨x0, x1, x2, k0, k1, k2, k3, k4, k5, k6', k7⟩ := HDU.out.vals
 rw [HKD.out] at k0
 rw [hU1, hU2]
 clear hU1 hU2 hst6 hb6 hI6 hD6 hM6 hau hau1 hau2 hsu1 hru hpu hpu2 hown p5 p6 p7
 go_upto_block 0 with fail
 go_cut [11] from 12 to 85 (fun okv wx => ∃ AN nN cN, okv = .bool RV.2.2 ∧ Own w5.heap.size wx w6.heap.size RV.1 ∧ ResAt wx (w6.heap.size + 1) (.int .i64 RV.2.1.code) (.int .i64 RV.2.1.fd) (.int .i64 RV.2.1.num) (.bool RV.2.1.dir) (.string RV.2.1.data) (.slice AN nN cN) ∧ SlOk AN nN cN ∧ NmsAt (some w5.heap.size) wx AN nN RV.2.1.names ∧ Below w5.heap.size w5 wx)
 case first =>
  have hkk : (KD = 0 ∨ KD = 1) ∨ (KD = 2) ∨ (KD = 3 ∨ KD = 4 ∨ KD = 5 ∨ KD = 6 ∨ KD = 7 ∨ KD = 15) ∨ (KD = 8 ∨ KD = 9 ∨ KD = 10 ∨ KD = 11) ∨ (KD = 12 ∨ KD = 13 ∨ KD = 14) ∨ (KD = 16) := by omega
  clear g1 g2 g3 g4 hk0 hk1
  rcases hkk with hkk | hkk | hkk | hkk | hkk | hkk
  ·rcases hkk with hkk | hkk
   all_goals
    subst hkk
    have hcl := make1_any w5.heap.size w6.heap.size s c U2 HOU.out (by omega) HOK.out.whole hc0 hc1 HOK.out.m8 HOK.out.pz HOK.out.mrange (HOK.out.mz (by rw [HKD.out]; decide)).2.2.2 (HOK.out.mz (by rw [HKD.out]; decide)).1 (HOK.out.mz (by rw [HKD.out]; decide)).2.1 (HOK.out.mz (by rw [HKD.out]; decide)).2.2.1
    unfold caV at hcl
    rw [HKD.out] at hcl
    have hdf := HDF.out
    rw [doF_make s c want HM.out hc0 hc1 (by rw [HKD.out]; decide) (by rw [HKD.out]; decide)] at hdf
    subst hdf
    go_wp2_with fail
    refine hcl.mono ?_
    clear hcl
    rintro e7 w7 ⟨rfl, hown7, hb7, ha7⟩
    have hrr : ResAt w7 (w6.heap.size + 1) (.int .i64 0) (.int .i64 0) (.int .i64 0) (.bool false) (.string ⟨#[]⟩) (.slice none 0 0) := (ha7.same _ _ _ HRU.out (by decide) (by decide) (by omega)).trans HRU.out
    obtain ⟨g0, g1', g2', g3, g4, g5, gf⟩ := hrr.get
    obtain ⟨U4, hU4, hr4, k4, b4, a4, s4⟩ := hrr.six (.int .i64 (make1V s c).2.code) (.int .i64 (make1V s c).2.fd) (.int .i64 (make1V s c).2.num) (.bool (make1V s c).2.dir) (.string (make1V s c).2.data) (.slice none 0 0)
    have HO4 := Lib.hid (hown7.keep k4)
    have HR4 := Lib.hid hr4
    have HB4 := Lib.hid (b4 w5.heap.size w5 (by omega) (HB5U.out.trans hb7))
    unfold resV
    clear hown7 hb7 ha7 hrr hr4 k4 b4 a4
    go_wp2_with fail
    go_meet
    exact ⟨none, 0, 0, rfl, HO4.out, HR4.out, ⟨by omega, fun _ => rfl⟩, by rw [make1V_names s c]; exact ⟨rfl, fun h => absurd h (by omega)⟩, HB4.out⟩
  ·subst hkk
   have hcl := opened_any w5.heap.size w6.heap.size s c want U2 HOU.out (by omega) HOK.out.whole HOK.out.pz (by have := HOK.out.sz; rw [doF_open s c want HM.out hc0 hc1 HKD.out] at this; exact this)
   unfold caV at hcl
   rw [HKD.out] at hcl
   have hdf := HDF.out
   rw [doF_open s c want HM.out hc0 hc1 HKD.out] at hdf
   subst hdf
   go_wp2_with fail
   refine hcl.mono ?_
   clear hcl
   rintro e7 w70 ⟨rfl, hown70, hb70, ha70⟩
   obtain ⟨w7, hV7⟩ : ∃ w7, w70.alloc (.cells #[.int .i64 (openedV s c want).2.1.code, .int .i64 (openedV s c want).2.1.fd, .int .i64 (openedV s c want).2.1.num, .bool (openedV s c want).2.1.dir, .string (openedV s c want).2.1.data, .slice none 0 0] 44) = w7 := ⟨_, rfl⟩
   have hb7x : Below w70.heap.size w70 w7 := by rw [← hV7]; exact (Below.refl _ _).alloc (Nat.le_refl _) _
   have hrx : ResAt w7 w70.heap.size (.int .i64 (openedV s c want).2.1.code) (.int .i64 (openedV s c want).2.1.fd) (.int .i64 (openedV s c want).2.1.num) (.bool (openedV s c want).2.1.dir) (.string (openedV s c want).2.1.data) (.slice none 0 0) := by rw [← hV7]; exact heap_alloc_new w70 _
   have hown7 := hown70.below hb7x
   have hz70 : U2.heap.size ≤ w70.heap.size := ha70.size
   have hb7 := hb70.trans (hb7x.mono (by omega))
   have ha7 := ha70.trans (Aside.below hb7x)
   obtain ⟨xx0, xx1, xx2, xx3, xx4, xx5, _⟩ := hrx.get
   have hV7b : w7.setCell ⟨w70.heap.size, 5, none⟩ (.slice none 0 0) = w7 := by
    rw [← hV7, World.setCell_alloc_new]
    rfl
   have hrr : ResAt w7 (w6.heap.size + 1) (.int .i64 0) (.int .i64 0) (.int .i64 0) (.bool false) (.string ⟨#[]⟩) (.slice none 0 0) := (ha7.same _ _ _ HRU.out (by decide) (by decide) (by omega)).trans HRU.out
   obtain ⟨g0, g1', g2', g3, g4, g5, gf⟩ := hrr.get
   obtain ⟨U4, hU4, hr4, k4, b4, a4, s4⟩ := hrr.six (.int .i64 (openedV s c want).2.1.code) (.int .i64 (openedV s c want).2.1.fd) (.int .i64 (openedV s c want).2.1.num) (.bool (openedV s c want).2.1.dir) (.string (openedV s c want).2.1.data) (.slice none 0 0)
   have HO4 := Lib.hid (hown7.keep k4)
   have HR4 := Lib.hid hr4
   have HB4 := Lib.hid (b4 w5.heap.size w5 (by omega) (HB5U.out.trans hb7))
   unfold resV
   clear hown7 hb7 ha7 hrr hr4 k4 b4 a4 hown70 hb70 ha70 hb7x hrx
   go_wp2_with fail
   go_meet
   exact ⟨none, 0, 0, rfl, HO4.out, HR4.out, ⟨by omega, fun _ => rfl⟩, by rw [openedV_names s c want]; exact ⟨rfl, fun h => absurd h (by omega)⟩, HB4.out⟩
  ·rcases hkk with hkk | hkk | hkk | hkk | hkk | hkk
   all_goals
    subst hkk
    have hcl := byfd_any w5.heap.size w6.heap.size s c U2 HOU.out (by omega) HM.out (by rw [HKD.out]; decide)
    unfold caV at hcl
    rw [HKD.out] at hcl
    have hdf := HDF.out
    rw [doF_fd s c want HM.out hc0 hc1 (by rw [HKD.out]; decide)] at hdf
    subst hdf
    go_wp2_with fail
    refine hcl.mono ?_
    clear hcl
    rintro e7 w7 ⟨rfl, hown7, hb7, ha7⟩
    have hrr : ResAt w7 (w6.heap.size + 1) (.int .i64 0) (.int .i64 0) (.int .i64 0) (.bool false) (.string ⟨#[]⟩) (.slice none 0 0) := (ha7.same _ _ _ HRU.out (by decide) (by decide) (by omega)).trans HRU.out
    obtain ⟨g0, g1', g2', g3, g4, g5, gf⟩ := hrr.get
    obtain ⟨U4, hU4, hr4, k4, b4, a4, s4⟩ := hrr.six (.int .i64 (byFdV s c).2.code) (.int .i64 (byFdV s c).2.fd) (.int .i64 (byFdV s c).2.num) (.bool (byFdV s c).2.dir) (.string (byFdV s c).2.data) (.slice none 0 0)
    have HO4 := Lib.hid (hown7.keep k4)
    have HR4 := Lib.hid hr4
    have HB4 := Lib.hid (b4 w5.heap.size w5 (by omega) (HB5U.out.trans hb7))
    unfold resV
    clear hown7 hb7 ha7 hrr hr4 k4 b4 a4
    go_wp2_with fail
    go_meet
    exact ⟨none, 0, 0, rfl, HO4.out, HR4.out, ⟨by omega, fun _ => rfl⟩, by rw [byFdV_names s c]; exact ⟨rfl, fun h => absurd h (by omega)⟩, HB4.out⟩
  ·rcases hkk with hkk | hkk | hkk | hkk
   all_goals
    subst hkk
    have hcl := names_any w5.heap.size w6.heap.size s c U2 HOU.out (by omega) HOK.out.whole HOK.out.pz HOK.out.pz2 HOK.out.ns2 HOK.out.deep (by have := HOK.out.sz; rw [doF_names s c want HM.out hc0 hc1 (by rw [HKD.out]; decide) (by rw [HKD.out]; decide)] at this; exact this) (by rw [HKD.out]; decide)
    unfold caV at hcl
    rw [HKD.out] at hcl
    have hdf := HDF.out
    rw [doF_names s c want HM.out hc0 hc1 (by rw [HKD.out]; decide) (by rw [HKD.out]; decide)] at hdf
    subst hdf
    go_wp2_with fail
    refine hcl.mono ?_
    clear hcl
    rintro e7 w7 ⟨rfl, hown7, hb7, ha7⟩
    have hrr : ResAt w7 (w6.heap.size + 1) (.int .i64 0) (.int .i64 0) (.int .i64 0) (.bool false) (.string ⟨#[]⟩) (.slice none 0 0) := (ha7.same _ _ _ HRU.out (by decide) (by decide) (by omega)).trans HRU.out
    obtain ⟨g0, g1', g2', g3, g4, g5, gf⟩ := hrr.get
    obtain ⟨U4, hU4, hr4, k4, b4, a4, s4⟩ := hrr.six (.int .i64 (namesV s c).2.code) (.int .i64 (namesV s c).2.fd) (.int .i64 (namesV s c).2.num) (.bool (namesV s c).2.dir) (.string (namesV s c).2.data) (.slice none 0 0)
    have HO4 := Lib.hid (hown7.keep k4)
    have HR4 := Lib.hid hr4
    have HB4 := Lib.hid (b4 w5.heap.size w5 (by omega) (HB5U.out.trans hb7))
    unfold resV
    clear hown7 hb7 ha7 hrr hr4 k4 b4 a4
    go_wp2_with fail
    go_meet
    exact ⟨none, 0, 0, rfl, HO4.out, HR4.out, ⟨by omega, fun _ => rfl⟩, by rw [namesV_names s c]; exact ⟨rfl, fun h => absurd h (by omega)⟩, HB4.out⟩
  ·rcases hkk with hkk | hkk | hkk
   all_goals
    subst hkk
    obtain ⟨A9, n9, cp9, E9, m9, d9, D9, k9, e9, hB9, hp9, p0, p1, p2, _, hst9, _, _, _⟩ := HOU.out.val
    have hcl := looks_any _ s c U2 hst9.weak HOK.out.whole HOK.out.pz (by rw [HKD.out]; decide)
    unfold caV at hcl
    rw [HKD.out] at hcl
    have hdf := HDF.out
    rw [doF_looks s c want HM.out hc0 hc1 (by rw [HKD.out]; decide) (by rw [HKD.out]; decide)] at hdf
    subst hdf
    go_wp2_with fail
    refine hcl.mono ?_
    clear hcl
    rintro e7 w7 ⟨rv, rfl, ⟨AN, nN, cN, rfl, hokN, hnN⟩, hb7⟩
    have hrr : ResAt w7 (w6.heap.size + 1) (.int .i64 0) (.int .i64 0) (.int .i64 0) (.bool false) (.string ⟨#[]⟩) (.slice none 0 0) := (hb7.block _ (by omega)).trans HRU.out
    obtain ⟨g0, g1', g2', g3, g4, g5, gf⟩ := hrr.get
    obtain ⟨U4, hU4, hr4, k4, b4, a4, s4⟩ := hrr.six (.int .i64 (looksV s c).code) (.int .i64 (looksV s c).fd) (.int .i64 (looksV s c).num) (.bool (looksV s c).dir) (.string (looksV s c).data) (.slice AN nN cN)
    have HO4 := Lib.hid ((HOU.out.below hb7).keep k4)
    have HR4 := Lib.hid hr4
    have HB4 := Lib.hid (b4 w5.heap.size w5 (by omega) (HB5U.out.trans (hb7.mono (by omega))))
    have HN4 := Lib.hid ((hnN.lower (B' := w5.heap.size) (by omega)).keep (k4 _ (by decide)))
    clear hb7 hrr hr4 k4 b4 a4 hnN p0 p1 p2
    go_wp2_with fail
    go_meet
    exact ⟨AN, nN, cN, rfl, HO4.out, HR4.out, hokN, HN4.out, HB4.out⟩
  ·subst hkk
   have hdf := HDF.out
   rw [doF_none s c want HM.out hc0 hc1 HKD.out] at hdf
   subst hdf
   go_wp2_with fail
   go_meet
   exact ⟨none, 0, 0, rfl, HOU.out, HRU.out, ⟨by omega, fun _ => rfl⟩, ⟨rfl, fun h => absurd h (by omega)⟩, HB5U.out⟩
 case rest =>
  obtain ⟨AN, nN, cN, rfl, hown, hres, hokN, hnm, hbl⟩ := hcut
  have HDc := Lib.hid (HD5.out.below hbl)
  have HOc := Lib.hid hown
  have HRc := Lib.hid hres
  have HNc := Lib.hid hnm
  have HBc := Lib.hid hbl
  have hszc : w6.heap.size + 1 < wc.heap.size := hres.lt
  obtain ⟨A8, n8, c8, E8, m8, d8, D8, k8, e8, hB8, hp8, q0, q1, q2, _, hst8, _, _, _⟩ := hown.val
  obtain ⟨j0, j1, j2, j3, j4, j5, jf⟩ := hres.get
  have hs65 : w5.heap.size ≤ w6.heap.size := hB8
  have hs5w : w.heap.size + 4 ≤ w5.heap.size := hsz5
  obtain ⟨t0, t1, t2, uf⟩ := HDc.out.outS.get
  obtain ⟨v0, v1, v2, v3, v4, v5, vf⟩ := HDc.out.outR.get
  have uf0 := uf 0
  have uf1 := uf 1
  have uf2 := uf 2
  have HST8 := Lib.hid hst8
  have n1 : w6.heap.size ≠ w.heap.size + 2 := by omega
  have n2 : w6.heap.size ≠ w.heap.size + 3 := by omega
  have n3 : w6.heap.size + 1 ≠ w.heap.size + 2 := by omega
  have n4 : w6.heap.size + 1 ≠ w.heap.size + 3 := by omega
  have n1' := Ne.symm n1
  have n2' := Ne.symm n2
  have n3' := Ne.symm n3
  have n4' := Ne.symm n4
  have n5 : w.heap.size ≠ w6.heap.size := by omega
  have n6' : w6.heap.size ≠ w.heap.size := by omega
  obtain ⟨CO, hCO⟩ : ∃ CO, RV.2.1.code = CO := ⟨_, rfl⟩
  obtain ⟨OKB, hOKB⟩ : ∃ OKB, RV.2.2 = OKB := ⟨_, rfl⟩
  have HCO := Lib.hid hCO
  have HOKB := Lib.hid hOKB
  rw [hCO] at j0
  rw [hOKB]
  obtain ⟨x0, x1, x2, _⟩ := HDc.out.vals
  clear k0 k1 k2 k3 k4 k5 k6' k7 hown hres hnm hbl hst8 hCO hOKB g0 g1' g2' g3 g4 g5 gf g1 g2
  by_cases hgood : CO = 0 ∧ OKB = true
  ·obtain ⟨hg1, hg2⟩ := hgood
   subst hg1 hg2
   go_wp2_with fail
   go_region_held3 (fun w' => w'.cell? ⟨w6.heap.size, 0, none⟩ = some (.slice A8 n8 c8) ∧ w'.cell? ⟨w6.heap.size, 1, none⟩ = some (.slice E8 m8 d8) ∧ w'.cell? ⟨w6.heap.size, 2, none⟩ = some (.slice D8 k8 e8) ∧ w'.cell? ⟨w6.heap.size + 1, 0, none⟩ = some (.int .i64 0) ∧ w'.cell? ⟨w6.heap.size + 1, 1, none⟩ = some (.int .i64 RV.2.1.fd) ∧ w'.cell? ⟨w6.heap.size + 1, 2, none⟩ = some (.int .i64 RV.2.1.num) ∧ w'.cell? ⟨w6.heap.size + 1, 3, none⟩ = some (.bool RV.2.1.dir) ∧ w'.cell? ⟨w6.heap.size + 1, 4, none⟩ = some (.string RV.2.1.data) ∧ w'.cell? ⟨w6.heap.size + 1, 5, none⟩ = some (.slice AN nN cN))
    (go_keep) (fail)
   obtain ⟨U5, hU5, ho5, k5, b5⟩ := HDc.out.outS.three (.slice A8 n8 c8) (.slice E8 m8 d8) (.slice D8 k8 e8)
   have hr5 : ResAt U5 (w.heap.size + 3) _ _ _ _ _ _ := ((k5 _ (by decide)).same (w.heap.size + 3) _ HDc.out.outR).trans HDc.out.outR
   obtain ⟨U6, hU6, hr6, k6, b6, a6, s6⟩ := hr5.six (.int .i64 0) (.int .i64 RV.2.1.fd) (.int .i64 RV.2.1.num) (.bool RV.2.1.dir) (.string RV.2.1.data) (.slice AN nN cN)
   have ho6 : OutAt U6 (w.heap.size + 2) _ _ _ := (a6 (w.heap.size + 2) (by omega)).trans ho5
   have hst6 := (HST8.out.keep3 (k5 _ (by decide)) (k5 _ (by decide)) (k5 _ (by decide)) (k5 _ (by decide))).keep3 (k6 _ (by decide)) (k6 _ (by decide)) (k6 _ (by decide)) (k6 _ (by decide))
   have hnm6 := (HNc.out.keep (k5 _ (by decide))).keep (k6 _ (by decide))
   have hbf := b6 w.heap.size w (by omega) (b5 w.heap.size w (by omega) HDc.out.bel)
   rw [hU5, hU6]
   have HO6f := Lib.hid ho6
   have HR6f := Lib.hid hr6
   have HSTf := Lib.hid ((hst6.lower (B' := w.heap.size) (by omega)).below (Below.drew (Below.refl _ _)))
   have HNf := Lib.hid ((hnm6.lower (B' := w.heap.size) (by omega)).below (Below.drew (Below.refl _ _)))
   have HBF := Lib.hid (Below.drew hbf)
   clear hU5 hU6 ho5 k5 b5 hr5 hr6 k6 b6 a6 s6 ho6 hst6 hnm6 hbf t0 t1 t2 v0 v1 v2 v3 v4 v5 uf0 uf1 uf2 uf vf j0 j1 j2 j3 j4 j5 jf q0 q1 q2
   go_wp2_with fail
   (try simp only [Exit.inBlock, Exit.then])
   refine bodyPost_ret (v := .tuple #[.agg #[.slice A8 n8 c8, .slice E8 m8 d8, .slice D8 k8 e8], .agg #[.int .i64 0, .int .i64 RV.2.1.fd, .int .i64 RV.2.1.num, .bool RV.2.1.dir, .string RV.2.1.data, .slice AN nN cN], .bool true]) ?_ rfl ?_
   ·rw [results_cells_tmp rfl]
    have hl1 := run_loadVar_row (P := Tryz.prog) U6.drew (w.heap.size + 2) _ 26 _ (0, 0) _ HO6f.out Tryz.underlying26 rfl (by kernel_rfl)
    have hl2 := run_loadVar_row (P := Tryz.prog) U6.drew (w.heap.size + 3) _ 44 _ (0, 0) _ HR6f.out Tryz.underlying44 rfl (by kernel_rfl)
    simp [asAddr, hl1, hl2, Result.andThen]
   ·exact ⟨_, _, by rw [HOKB.out], HSTf.out, ⟨AN, nN, cN, by rw [HCO.out], hokN, HNf.out⟩, HBF.out⟩
  ·have hbad : CO ≠ 0 ∨ OKB = false := by
    cases OKB
    ·exact .inr rfl
    ·exact .inl (fun h => hgood ⟨h, rfl⟩)
   have hsame : RV.1 = s := by
    have h9 := doF_same s c want (by rw [HDF.out, HCO.out, HOKB.out]; exact hbad)
    rw [HDF.out] at h9
    exact h9
   have HSAME := Lib.hid hsame
   clear hgood hsame
   by_cases hco : CO = 0
   ·subst hco
    have hok0 : OKB = false := by rcases hbad with h | h; exact absurd rfl h; exact h
    subst hok0
    clear hbad
    go_wp2_with fail
    go_region_held3 (fun w' => w'.cell? ⟨w.heap.size, 0, none⟩ = some (.slice A n cp) ∧ w'.cell? ⟨w.heap.size, 1, none⟩ = some (.slice E m d) ∧ w'.cell? ⟨w.heap.size, 2, none⟩ = some (.slice D k e) ∧ w'.cell? ⟨w6.heap.size + 1, 0, none⟩ = some (.int .i64 0) ∧ w'.cell? ⟨w6.heap.size + 1, 1, none⟩ = some (.int .i64 RV.2.1.fd) ∧ w'.cell? ⟨w6.heap.size + 1, 2, none⟩ = some (.int .i64 RV.2.1.num) ∧ w'.cell? ⟨w6.heap.size + 1, 3, none⟩ = some (.bool RV.2.1.dir) ∧ w'.cell? ⟨w6.heap.size + 1, 4, none⟩ = some (.string RV.2.1.data) ∧ w'.cell? ⟨w6.heap.size + 1, 5, none⟩ = some (.slice AN nN cN))
     (go_keep)
     ((go_at_call 64; refine (copy_any _ s _ (HDc.out.st.below (Below.drew (Below.refl _ _)))).mono ?_; rintro e9 w9 ⟨v9, rfl, hst9, hb9⟩; obtain ⟨A9, n9, c9, E9, m9, d9, D9, k9, e9, rfl, _⟩ := hst9.at_; have hb9' : Below wc.heap.size wc w9 := (Cv.next (Below.drew (Below.refl _ _)) hb9); have HD9 := Lib.hid (HDc.out.below hb9'); obtain ⟨tt0, tt1, tt2, uff⟩ := HD9.out.outS.get; obtain ⟨vv0, vv1, vv2, vv3, vv4, vv5, vff⟩ := HD9.out.outR.get; have uf09 := uff 0; have uf19 := uff 1; have uf29 := uff 2; have xx0 := (hb9'.cell (p := ⟨w.heap.size, 0, none⟩) (by show w.heap.size < _; omega)).trans x0; have xx1 := (hb9'.cell (p := ⟨w.heap.size, 1, none⟩) (by show w.heap.size < _; omega)).trans x1; have xx2 := (hb9'.cell (p := ⟨w.heap.size, 2, none⟩) (by show w.heap.size < _; omega)).trans x2; have jj0 := (hb9'.cell (p := ⟨w6.heap.size + 1, 0, none⟩) hszc).trans j0; have jj1 := (hb9'.cell (p := ⟨w6.heap.size + 1, 1, none⟩) hszc).trans j1; have jj2 := (hb9'.cell (p := ⟨w6.heap.size + 1, 2, none⟩) hszc).trans j2; have jj3 := (hb9'.cell (p := ⟨w6.heap.size + 1, 3, none⟩) hszc).trans j3; have jj4 := (hb9'.cell (p := ⟨w6.heap.size + 1, 4, none⟩) hszc).trans j4; have jj5 := (hb9'.cell (p := ⟨w6.heap.size + 1, 5, none⟩) hszc).trans j5; have HN9 := Lib.hid (HNc.out.below hb9'); have HST9 : Hid (StAt (some wc.heap.size) w9 _ s) := Lib.hid hst9; have hz9 := hb9'.size))
    obtain ⟨U5, hU5, ho5, k5, b5⟩ := HD9.out.outS.three (.slice A9 n9 c9) (.slice E9 m9 d9) (.slice D9 k9 e9)
    have hr5 : ResAt U5 (w.heap.size + 3) _ _ _ _ _ _ := ((k5 _ (by decide)).same (w.heap.size + 3) _ HD9.out.outR).trans HD9.out.outR
    obtain ⟨U6, hU6, hr6, k6, b6, a6, s6⟩ := hr5.six (.int .i64 0) (.int .i64 RV.2.1.fd) (.int .i64 RV.2.1.num) (.bool RV.2.1.dir) (.string RV.2.1.data) (.slice AN nN cN)
    have ho6 : OutAt U6 (w.heap.size + 2) _ _ _ := (a6 (w.heap.size + 2) (by omega)).trans ho5
    have hst6 := (HST9.out.keep3 (k5 _ (by decide)) (k5 _ (by decide)) (k5 _ (by decide)) (k5 _ (by decide))).keep3 (k6 _ (by decide)) (k6 _ (by decide)) (k6 _ (by decide)) (k6 _ (by decide))
    have hnm6 := (HN9.out.keep (k5 _ (by decide))).keep (k6 _ (by decide))
    have hbf := b6 w.heap.size w (by omega) (b5 w.heap.size w (by omega) HD9.out.bel)
    rw [hU5, hU6]
    have HO6f := Lib.hid ho6
    have HR6f := Lib.hid hr6
    have HSTf := Lib.hid (hst6.lower (B' := w.heap.size) (by omega))
    have HNf := Lib.hid (hnm6.lower (B' := w.heap.size) (by omega))
    have HBF := Lib.hid hbf
    clear hU5 hU6 ho5 k5 b5 hr5 hr6 k6 b6 a6 s6 ho6 hst6 hnm6 hbf t0 t1 t2 v0 v1 v2 v3 v4 v5 uf0 uf1 uf2 uf vf j0 j1 j2 j3 j4 j5 jf q0 q1 q2
    go_wp2_with fail
    (try simp only [Exit.inBlock, Exit.then])
    refine bodyPost_ret (v := .tuple #[.agg #[.slice A9 n9 c9, .slice E9 m9 d9, .slice D9 k9 e9], .agg #[.int .i64 0, .int .i64 RV.2.1.fd, .int .i64 RV.2.1.num, .bool RV.2.1.dir, .string RV.2.1.data, .slice AN nN cN], .bool false]) ?_ rfl ?_
    ·rw [results_cells_tmp rfl]
     have hl1 := run_loadVar_row (P := Tryz.prog) U6 (w.heap.size + 2) _ 26 _ (0, 0) _ HO6f.out Tryz.underlying26 rfl (by kernel_rfl)
     have hl2 := run_loadVar_row (P := Tryz.prog) U6 (w.heap.size + 3) _ 44 _ (0, 0) _ HR6f.out Tryz.underlying44 rfl (by kernel_rfl)
     simp [asAddr, hl1, hl2, Result.andThen]
    ·exact ⟨_, _, by rw [HOKB.out], by rw [HSAME.out]; exact HSTf.out, ⟨AN, nN, cN, by rw [HCO.out], hokN, HNf.out⟩, HBF.out⟩
   ·have qc : (CO != 0) = true := by rw [bne_iff_ne]; exact hco
    clear hco hbad
    go_wp2_with fail
    go_region_held3 (fun w' => w'.cell? ⟨w.heap.size, 0, none⟩ = some (.slice A n cp) ∧ w'.cell? ⟨w.heap.size, 1, none⟩ = some (.slice E m d) ∧ w'.cell? ⟨w.heap.size, 2, none⟩ = some (.slice D k e) ∧ w'.cell? ⟨w6.heap.size + 1, 0, none⟩ = some (.int .i64 CO) ∧ w'.cell? ⟨w6.heap.size + 1, 1, none⟩ = some (.int .i64 RV.2.1.fd) ∧ w'.cell? ⟨w6.heap.size + 1, 2, none⟩ = some (.int .i64 RV.2.1.num) ∧ w'.cell? ⟨w6.heap.size + 1, 3, none⟩ = some (.bool RV.2.1.dir) ∧ w'.cell? ⟨w6.heap.size + 1, 4, none⟩ = some (.string RV.2.1.data) ∧ w'.cell? ⟨w6.heap.size + 1, 5, none⟩ = some (.slice AN nN cN))
     (go_keep)
     ((go_at_call 64; refine (copy_any _ s _ (HDc.out.st.below (Below.drew (Below.refl _ _)))).mono ?_; rintro e9 w9 ⟨v9, rfl, hst9, hb9⟩; obtain ⟨A9, n9, c9, E9, m9, d9, D9, k9, e9, rfl, _⟩ := hst9.at_; have hb9' : Below wc.heap.size wc w9 := (Cv.next (Below.drew (Below.refl _ _)) hb9); have HD9 := Lib.hid (HDc.out.below hb9'); obtain ⟨tt0, tt1, tt2, uff⟩ := HD9.out.outS.get; obtain ⟨vv0, vv1, vv2, vv3, vv4, vv5, vff⟩ := HD9.out.outR.get; have uf09 := uff 0; have uf19 := uff 1; have uf29 := uff 2; have xx0 := (hb9'.cell (p := ⟨w.heap.size, 0, none⟩) (by show w.heap.size < _; omega)).trans x0; have xx1 := (hb9'.cell (p := ⟨w.heap.size, 1, none⟩) (by show w.heap.size < _; omega)).trans x1; have xx2 := (hb9'.cell (p := ⟨w.heap.size, 2, none⟩) (by show w.heap.size < _; omega)).trans x2; have jj0 := (hb9'.cell (p := ⟨w6.heap.size + 1, 0, none⟩) hszc).trans j0; have jj1 := (hb9'.cell (p := ⟨w6.heap.size + 1, 1, none⟩) hszc).trans j1; have jj2 := (hb9'.cell (p := ⟨w6.heap.size + 1, 2, none⟩) hszc).trans j2; have jj3 := (hb9'.cell (p := ⟨w6.heap.size + 1, 3, none⟩) hszc).trans j3; have jj4 := (hb9'.cell (p := ⟨w6.heap.size + 1, 4, none⟩) hszc).trans j4; have jj5 := (hb9'.cell (p := ⟨w6.heap.size + 1, 5, none⟩) hszc).trans j5; have HN9 := Lib.hid (HNc.out.below hb9'); have HST9 : Hid (StAt (some wc.heap.size) w9 _ s) := Lib.hid hst9; have hz9 := hb9'.size))
    obtain ⟨U5, hU5, ho5, k5, b5⟩ := HD9.out.outS.three (.slice A9 n9 c9) (.slice E9 m9 d9) (.slice D9 k9 e9)
    have hr5 : ResAt U5 (w.heap.size + 3) _ _ _ _ _ _ := ((k5 _ (by decide)).same (w.heap.size + 3) _ HD9.out.outR).trans HD9.out.outR
    obtain ⟨U6, hU6, hr6, k6, b6, a6, s6⟩ := hr5.six (.int .i64 CO) (.int .i64 RV.2.1.fd) (.int .i64 RV.2.1.num) (.bool RV.2.1.dir) (.string RV.2.1.data) (.slice AN nN cN)
    have ho6 : OutAt U6 (w.heap.size + 2) _ _ _ := (a6 (w.heap.size + 2) (by omega)).trans ho5
    have hst6 := (HST9.out.keep3 (k5 _ (by decide)) (k5 _ (by decide)) (k5 _ (by decide)) (k5 _ (by decide))).keep3 (k6 _ (by decide)) (k6 _ (by decide)) (k6 _ (by decide)) (k6 _ (by decide))
    have hnm6 := (HN9.out.keep (k5 _ (by decide))).keep (k6 _ (by decide))
    have hbf := b6 w.heap.size w (by omega) (b5 w.heap.size w (by omega) HD9.out.bel)
    rw [hU5, hU6]
    have HO6f := Lib.hid ho6
    have HR6f := Lib.hid hr6
    have HSTf := Lib.hid (hst6.lower (B' := w.heap.size) (by omega))
    have HNf := Lib.hid (hnm6.lower (B' := w.heap.size) (by omega))
    have HBF := Lib.hid hbf
    clear hU5 hU6 ho5 k5 b5 hr5 hr6 k6 b6 a6 s6 ho6 hst6 hnm6 hbf t0 t1 t2 v0 v1 v2 v3 v4 v5 uf0 uf1 uf2 uf vf j0 j1 j2 j3 j4 j5 jf q0 q1 q2
    go_wp2_with fail
    (try simp only [Exit.inBlock, Exit.then])
    refine bodyPost_ret (v := .tuple #[.agg #[.slice A9 n9 c9, .slice E9 m9 d9, .slice D9 k9 e9], .agg #[.int .i64 CO, .int .i64 RV.2.1.fd, .int .i64 RV.2.1.num, .bool RV.2.1.dir, .string RV.2.1.data, .slice AN nN cN], .bool OKB]) ?_ rfl ?_
    ·rw [results_cells_tmp rfl]
     have hl1 := run_loadVar_row (P := Tryz.prog) U6 (w.heap.size + 2) _ 26 _ (0, 0) _ HO6f.out Tryz.underlying26 rfl (by kernel_rfl)
     have hl2 := run_loadVar_row (P := Tryz.prog) U6 (w.heap.size + 3) _ 44 _ (0, 0) _ HR6f.out Tryz.underlying44 rfl (by kernel_rfl)
     simp [asAddr, hl1, hl2, Result.andThen]
    ·exact ⟨_, _, by rw [HOKB.out], by rw [HSAME.out]; exact HSTf.out, ⟨AN, nN, cN, by rw [HCO.out], hokN, HNf.out⟩, HBF.out⟩
end Go.Proofs.YthhceopnnappgaaGreatDoor
