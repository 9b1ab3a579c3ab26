/- What the laws of chapter 1 ask of every program: awake. -/
import Derived.Test.YtbflennacniacaaPmLive
namespace Go.Proofs.Ytbflennacniacaa
open Go.RowKit
set_option linter.unusedVariables false
def aw1 : PM := (PM.fresh 2).store 3 7
def aw2 : PM := aw1.flush 0
def aw3 : PM := aw2.store 4 8
def aw4 : PM := aw3.fence
def aw5 : PM := aw4.crash 0
theorem aw_ok : aw1.ok 1 ∧ aw2.ok 2 ∧ aw3.ok 3 := ⟨(PM.ok.fresh 2).store 3 7, ((PM.ok.fresh 2).store 3 7).flush 0, (((PM.ok.fresh 2).store 3 7).flush 0).store 4 8⟩
theorem aw_load : loadV aw5 3 = 7 ∧ loadV aw5 4 = 0 ∧ loadV aw5 16 = 0 ∧ placeV aw5.n 3 = 0 ∧ placeV aw5.n 4 = 0 ∧ placeV aw5.n 16 = 101 := by decide +kernel
theorem aw_place : placeV (PM.fresh 2).n 3 = 0 ∧ lineE aw1.n 0 = 0 ∧ placeV aw2.n 4 = 0 := by decide +kernel
theorem aw_words : ((aw5.n * 8 : Nat) : Int) = 16 := by decide +kernel
set_option maxRecDepth 100000 in
set_option maxHeartbeats 2000000 in
theorem awake1 (w : World) : Calls Try.prog 15 #[] w fun e w' => e = .returned (.bool true) ∧ Below w.heap.size w w' := by
  have HOK := Lib.hid aw_ok
  have HL := Lib.hid aw_load
  have HP := Lib.hid aw_place
  go_enter Try.func15, Try.ntmps15
  go_wp2_with fail
  refine (new_live 2 w _ (Below.refl _ _) (by omega) (by omega) 16 rfl).mono ?_
  rintro e w1 ⟨a, rfl, _, h1, _⟩
  have H1 := Lib.hid h1
  clear h1
  go_wp2_with fail
  refine (store_live H1.out 3 7 0 0 HP.out.1 (PM.ok.fresh 2) (by omega)).mono ?_
  rintro e w2 ⟨rfl, h2⟩
  have H2 : Hid (Live w w2 a aw1) := Lib.hid h2
  clear h2 H1
  go_wp2_with fail
  refine (flush_live H2.out 0 0 1 HP.out.2.1 HOK.out.1 (by omega)).mono ?_
  rintro e w3 ⟨rfl, h3⟩
  have H3 : Hid (Live w w3 a aw2) := Lib.hid h3
  clear h3 H2
  go_wp2_with fail
  refine (store_live H3.out 4 8 0 2 HP.out.2.2 HOK.out.2.1 (by omega)).mono ?_
  rintro e w4 ⟨rfl, h4⟩
  have H4 : Hid (Live w w4 a aw3) := Lib.hid h4
  clear h4 H3
  go_wp2_with fail
  refine (fence_live H4.out 3 HOK.out.2.2 (by omega)).mono ?_
  rintro e w5 ⟨rfl, h5⟩
  have H5 : Hid (Live w w5 a aw4) := Lib.hid h5
  clear h5 H4
  go_wp2_with fail
  refine (crash_live H5.out 0).mono ?_
  rintro e w6 ⟨rfl, h6⟩
  have H6 : Hid (Live w w6 a aw5) := Lib.hid h6
  clear h6 H5
  go_wp2_with fail
  refine (load_live H6.out 3 7 0 HL.out.1 HL.out.2.2.2.1).mono ?_
  rintro e w7 ⟨rfl, rfl⟩
  go_wp2_with fail
  refine (load_live H6.out 4 0 0 HL.out.2.1 HL.out.2.2.2.2.1).mono ?_
  rintro e w7 ⟨rfl, rfl⟩
  go_wp2_with fail
  refine (load_live H6.out 16 0 101 HL.out.2.2.1 HL.out.2.2.2.2.2).mono ?_
  rintro e w7 ⟨rfl, rfl⟩
  go_wp2_with fail
  refine (new_odd 9 _ (by omega) (by omega) (by omega)).mono ?_
  rintro e w7 ⟨rfl, rfl⟩
  go_wp2_with (go_at_call 22; refine (num1_any _ _).mono ?_; rintro e w' ⟨rfl, rfl⟩)
  refine (words_live H6.out 16 aw_words).mono ?_
  rintro e w7 ⟨rfl, rfl⟩
  go_wp2_with fail
  go_ret
  exact ⟨rfl, H6.out.bel⟩
end Go.Proofs.Ytbflennacniacaa
