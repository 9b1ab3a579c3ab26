/- The walk of the law PmemLast. -/
import Derived.Test.YtbflennacniacaaAwake1
import Derived.Test.YtbflennacniacaaPmCalm
namespace Go.Proofs.Ytbflennacniacaa
open Go.RowKit
set_option linter.unusedVariables false
def la1 (a : Int) : PM := (PM.fresh 1).store 2 a
def la2 (a : Int) : PM := (la1 a).flush 0
def la3 (a b : Int) : PM := (la2 a).store 2 b
def la4 (a b : Int) : PM := (la3 a b).flush 0
theorem la1_eq (a : Int) : la1 a = (PM.fresh 1).stepped.stored 2 a := store_calm (calm_fresh 1) 2 a (by decide)
theorem la2_eq (a : Int) : la2 a = (la1 a).stepped.flushed 0 := flush_calm (PM.calm.store (calm_fresh 1) 2 a) 0 (by rw [PM.store_n]; decide)
theorem la3_eq (a b : Int) : la3 a b = (la2 a).stepped.stored 2 b := store_calm (PM.calm.flush (PM.calm.store (calm_fresh 1) 2 a) 0) 2 b (by rw [PM.flush_n, PM.store_n]; decide)
theorem la4_eq (a b : Int) : la4 a b = (la3 a b).stepped.flushed 0 := flush_calm (PM.calm.store (PM.calm.flush (PM.calm.store (calm_fresh 1) 2 a) 0) 2 b) 0 (by rw [PM.store_n, PM.flush_n, PM.store_n]; decide)
theorem calm3 (a b : Int) : (la3 a b).calm := PM.calm.store (PM.calm.flush (PM.calm.store (calm_fresh 1) 2 a) 0) 2 b
theorem calm4 (a b : Int) : (la4 a b).calm := (calm3 a b).flush 0
theorem last_no (a b : Int) : loadV (la3 a b).fence 2 = b ∧ loadV ((la3 a b).fence.crash (-1)) 2 = a := by
  rw [fence_calm (calm3 a b), crash_drop _ (by omega), la3_eq, la2_eq, la1_eq]
  exact ⟨rfl, rfl⟩
theorem last_yes (a b : Int) : loadV (la4 a b).fence 2 = b ∧ loadV ((la4 a b).fence.crash (-1)) 2 = b := by
  rw [fence_calm (calm4 a b), crash_drop _ (by omega), la4_eq, la3_eq, la2_eq, la1_eq]
  exact ⟨rfl, rfl⟩
theorem last_n (a b : Int) : (la1 a).n = 1 ∧ (la2 a).n = 1 ∧ (la3 a b).n = 1 ∧ (la4 a b).n = 1 := by
  unfold la4 la3 la2 la1
  simp only [PM.flush_n, PM.store_n]
  exact ⟨rfl, rfl, rfl, rfl⟩
theorem last_stores (a b : Int) : ((((la3 a b).fence.crash (-1)).stores : Nat) : Int) = 2 ∧ ((((la4 a b).fence.crash (-1)).stores : Nat) : Int) = 2 := by
  rw [fence_calm (calm4 a b), fence_calm (calm3 a b), la4_eq, la3_eq, la2_eq, la1_eq]
  exact ⟨rfl, rfl⟩
theorem last_ok (a b : Int) : (la1 a).ok 1 ∧ (la2 a).ok 2 ∧ (la3 a b).ok 3 ∧ (la4 a b).ok 4 :=
  ⟨(PM.ok.fresh 1).store 2 a, ((PM.ok.fresh 1).store 2 a).flush 0, (((PM.ok.fresh 1).store 2 a).flush 0).store 2 b, ((((PM.ok.fresh 1).store 2 a).flush 0).store 2 b).flush 0⟩
theorem place_1 : placeV 1 2 = 0 ∧ lineE 1 0 = 0 := by decide +kernel
set_option maxRecDepth 100000 in
set_option maxHeartbeats 2000000 in
theorem pmemLast_walk (a0 : Int) (h0 : (Lit.int .i64 a0).wf = true) (b0 : Int) (h1 : (Lit.int .i64 b0).wf = true) (again : Bool) (w : World) :
    Calls Try.prog 6 #[.int .i64 a0, .int .i64 b0, .bool again] w fun e w' => e = .returned (.bool true) ∧ Below w.heap.size w w' := by
  obtain ⟨a, ha⟩ : ∃ x, IntKind.u64.wrap a0 = x := ⟨_, rfl⟩
  obtain ⟨b, hb⟩ : ∃ x, IntKind.u64.wrap b0 = x := ⟨_, rfl⟩
  have HOK := Lib.hid (last_ok a b)
  have HN := Lib.hid (last_n a b)
  have HP := Lib.hid place_1
  clear h0 h1
  cases again with
  | false =>
    have HV := Lib.hid (last_no a b)
    have HS := Lib.hid (last_stores a b).1
    go_enter Try.func6, Try.ntmps6
    go_wp2_with fail
    refine (awake1 _).mono ?_
    rintro e w1 ⟨rfl, hb1⟩
    go_wp2_with fail
    refine (new_live 1 w w1 hb1 (by omega) (by omega) 8 rfl).mono ?_
    rintro e w2 ⟨p, rfl, _, g1, _⟩
    have G1 := Lib.hid g1
    clear g1
    go_wp2_with fail
    refine (store_live G1.out 2 a 0 0 HP.out.1 (PM.ok.fresh 1) (by omega)).mono ?_
    rintro e w3 ⟨rfl, g2⟩
    have G2 : Hid (Live w w3 p (la1 a)) := Lib.hid g2
    clear g2
    go_wp2_with fail
    refine (flush_live G2.out 0 0 1 (by rw [HN.out.1]; exact HP.out.2) HOK.out.1 (by omega)).mono ?_
    rintro e w4 ⟨rfl, g3⟩
    have G3 : Hid (Live w w4 p (la2 a)) := Lib.hid g3
    clear g3
    go_wp2_with fail
    refine (store_live G3.out 2 b 0 2 (by rw [HN.out.2.1]; exact HP.out.1) HOK.out.2.1 (by omega)).mono ?_
    rintro e w5 ⟨rfl, g4⟩
    have G4 : Hid (Live w w5 p (la3 a b)) := Lib.hid g4
    clear g4
    go_wp2_with fail
    refine (fence_live G4.out 3 HOK.out.2.2.1 (by omega)).mono ?_
    rintro e w6 ⟨rfl, g5⟩
    have G5 := Lib.hid g5
    clear g5
    go_wp2_with fail
    refine (load_live G5.out 2 b 0 HV.out.1 (by rw [PM.fence_n, HN.out.2.2.1]; exact HP.out.1)).mono ?_
    rintro e w7 ⟨rfl, rfl⟩
    go_wp2_with fail
    refine (crash_live G5.out (-1)).mono ?_
    rintro e w7 ⟨rfl, g6⟩
    have G6 := Lib.hid g6
    clear g6
    go_wp2_with fail
    refine (load_live G6.out 2 a 0 HV.out.2 (by rw [PM.crash_n, PM.fence_n, HN.out.2.2.1]; exact HP.out.1)).mono ?_
    rintro e w8 ⟨rfl, rfl⟩
    go_wp2_with (go_at_call 22; refine (num1_any _ _).mono ?_; rintro e w' ⟨rfl, rfl⟩)
    refine (stores_live G6.out 2 HS.out).mono ?_
    rintro e w8 ⟨rfl, rfl⟩
    go_wp2_with fail
    go_ret
    exact ⟨rfl, G6.out.bel⟩
  | true =>
    have HV := Lib.hid (last_yes a b)
    have HS := Lib.hid (last_stores a b).2
    go_enter Try.func6, Try.ntmps6
    go_wp2_with fail
    refine (awake1 _).mono ?_
    rintro e w1 ⟨rfl, hb1⟩
    go_wp2_with fail
    refine (new_live 1 w w1 hb1 (by omega) (by omega) 8 rfl).mono ?_
    rintro e w2 ⟨p, rfl, _, g1, _⟩
    have G1 := Lib.hid g1
    clear g1
    go_wp2_with fail
    refine (store_live G1.out 2 a 0 0 HP.out.1 (PM.ok.fresh 1) (by omega)).mono ?_
    rintro e w3 ⟨rfl, g2⟩
    have G2 : Hid (Live w w3 p (la1 a)) := Lib.hid g2
    clear g2
    go_wp2_with fail
    refine (flush_live G2.out 0 0 1 (by rw [HN.out.1]; exact HP.out.2) HOK.out.1 (by omega)).mono ?_
    rintro e w4 ⟨rfl, g3⟩
    have G3 : Hid (Live w w4 p (la2 a)) := Lib.hid g3
    clear g3
    go_wp2_with fail
    refine (store_live G3.out 2 b 0 2 (by rw [HN.out.2.1]; exact HP.out.1) HOK.out.2.1 (by omega)).mono ?_
    rintro e w5 ⟨rfl, g4⟩
    have G4 : Hid (Live w w5 p (la3 a b)) := Lib.hid g4
    clear g4
    go_wp2_with fail
    refine (flush_live G4.out 0 0 3 (by rw [HN.out.2.2.1]; exact HP.out.2) HOK.out.2.2.1 (by omega)).mono ?_
    rintro e w5 ⟨rfl, g4⟩
    have G4b : Hid (Live w w5 p (la4 a b)) := Lib.hid g4
    clear g4
    go_wp2_with fail
    refine (fence_live G4b.out 4 HOK.out.2.2.2 (by omega)).mono ?_
    rintro e w6 ⟨rfl, g5⟩
    have G5 := Lib.hid g5
    clear g5
    go_wp2_with fail
    refine (load_live G5.out 2 b 0 HV.out.1 (by rw [PM.fence_n, HN.out.2.2.2]; exact HP.out.1)).mono ?_
    rintro e w7 ⟨rfl, rfl⟩
    go_wp2_with fail
    refine (crash_live G5.out (-1)).mono ?_
    rintro e w7 ⟨rfl, g6⟩
    have G6 := Lib.hid g6
    clear g6
    go_wp2_with fail
    refine (load_live G6.out 2 b 0 HV.out.2 (by rw [PM.crash_n, PM.fence_n, HN.out.2.2.2]; exact HP.out.1)).mono ?_
    rintro e w8 ⟨rfl, rfl⟩
    go_wp2_with (go_at_call 22; refine (num1_any _ _).mono ?_; rintro e w' ⟨rfl, rfl⟩)
    refine (stores_live G6.out 2 HS.out).mono ?_
    rintro e w8 ⟨rfl, rfl⟩
    go_wp2_with fail
    go_ret
    exact ⟨rfl, G6.out.bel⟩
end Go.Proofs.Ytbflennacniacaa
