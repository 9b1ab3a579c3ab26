/- Parts of the proof, side by side: MoRun, MoLinks, MoDelI. -/
import Derived.Test.YtilkhmhgjbhfnaaGreatDoorM23
import Derived.Test.YtilkhmhgjbhfnaaGreatDoorM08
import Derived.Test.YtilkhmhgjbhfnaaGreatDoorM11
import Derived.Test.YtilkhmhgjbhfnaaGreatDoorM03
set_option linter.unusedVariables false
set_option linter.unusedSimpArgs false
namespace Go.Proofs.YtilkhmhgjbhfnaaGreatDoor
open Go.RowKit
set_option maxRecDepth 100000 in
set_option maxHeartbeats 4000000 in
theorem mrun_0 (B q p : Nat) (s : St) (c : Ca) (zs : List (Ino × Value)) (vI vO vM : Value) (R : St × Re) (w : World) (hN : Now B q p s c zs vI vO vM w w) (hk : c.kind = 0) (h : Calls Tryz.prog 85 #[.pointer (some ⟨q, 0, .none⟩)] w (Ran B q p c R w)) :
  Calls Tryz.prog 65 #[.pointer (some ⟨q, 0, .none⟩)] w (Ran B q p c R w) := by
 have d1 := hN.doer.c1
 rw [hk] at d1
 clear hN hk
 go_enter Tryz.func65, Tryz.ntmps65
 go_wp2_with fail
 refine h.mono ?_
 rintro e1 w1 ⟨hb, ⟨hc, rfl⟩ | ⟨hc, rfl, ho, hd⟩⟩
 ·go_simp
  exact panic_end rfl ⟨hb, .inl ⟨hc, rfl⟩⟩
 ·have HX := Lib.hid (And.intro hb (And.intro hc (And.intro ho hd)))
  clear hb hc ho hd
  go_wp2_with fail
  go_returns
  exact ⟨HX.out.1, .inr ⟨HX.out.2.1, rfl, HX.out.2.2.1, HX.out.2.2.2⟩⟩
set_option maxRecDepth 100000 in
set_option maxHeartbeats 4000000 in
theorem mrun_1 (B q p : Nat) (s : St) (c : Ca) (zs : List (Ino × Value)) (vI vO vM : Value) (R : St × Re) (w : World) (hN : Now B q p s c zs vI vO vM w w) (hk : c.kind = 1) (h : Calls Tryz.prog 85 #[.pointer (some ⟨q, 0, .none⟩)] w (Ran B q p c R w)) :
  Calls Tryz.prog 65 #[.pointer (some ⟨q, 0, .none⟩)] w (Ran B q p c R w) := by
 have d1 := hN.doer.c1
 rw [hk] at d1
 clear hN hk
 go_enter Tryz.func65, Tryz.ntmps65
 go_wp2_with fail
 refine h.mono ?_
 rintro e1 w1 ⟨hb, ⟨hc, rfl⟩ | ⟨hc, rfl, ho, hd⟩⟩
 ·go_simp
  exact panic_end rfl ⟨hb, .inl ⟨hc, rfl⟩⟩
 ·have HX := Lib.hid (And.intro hb (And.intro hc (And.intro ho hd)))
  clear hb hc ho hd
  go_wp2_with fail
  go_returns
  exact ⟨HX.out.1, .inr ⟨HX.out.2.1, rfl, HX.out.2.2.1, HX.out.2.2.2⟩⟩
set_option maxRecDepth 100000 in
set_option maxHeartbeats 4000000 in
theorem mrun_2 (B q p : Nat) (s : St) (c : Ca) (zs : List (Ino × Value)) (vI vO vM : Value) (R : St × Re) (w : World) (hN : Now B q p s c zs vI vO vM w w) (hk : c.kind = 2) (h : Calls Tryz.prog 86 #[.pointer (some ⟨q, 0, .none⟩)] w (Ran B q p c R w)) :
  Calls Tryz.prog 65 #[.pointer (some ⟨q, 0, .none⟩)] w (Ran B q p c R w) := by
 have d1 := hN.doer.c1
 rw [hk] at d1
 clear hN hk
 go_enter Tryz.func65, Tryz.ntmps65
 go_wp2_with fail
 refine h.mono ?_
 rintro e1 w1 ⟨hb, ⟨hc, rfl⟩ | ⟨hc, rfl, ho, hd⟩⟩
 ·go_simp
  exact panic_end rfl ⟨hb, .inl ⟨hc, rfl⟩⟩
 ·have HX := Lib.hid (And.intro hb (And.intro hc (And.intro ho hd)))
  clear hb hc ho hd
  go_wp2_with fail
  go_returns
  exact ⟨HX.out.1, .inr ⟨HX.out.2.1, rfl, HX.out.2.2.1, HX.out.2.2.2⟩⟩
set_option maxRecDepth 100000 in
set_option maxHeartbeats 4000000 in
theorem mrun_4 (B q p : Nat) (s : St) (c : Ca) (zs : List (Ino × Value)) (vI vO vM : Value) (R : St × Re) (w : World) (hN : Now B q p s c zs vI vO vM w w) (hk : c.kind = 4) (h : Calls Tryz.prog 90 #[.pointer (some ⟨q, 0, .none⟩)] w (Ran B q p c R w)) :
  Calls Tryz.prog 65 #[.pointer (some ⟨q, 0, .none⟩)] w (Ran B q p c R w) := by
 have d1 := hN.doer.c1
 rw [hk] at d1
 clear hN hk
 go_enter Tryz.func65, Tryz.ntmps65
 go_wp2_with fail
 refine h.mono ?_
 rintro e1 w1 ⟨hb, ⟨hc, rfl⟩ | ⟨hc, rfl, ho, hd⟩⟩
 ·go_simp
  exact panic_end rfl ⟨hb, .inl ⟨hc, rfl⟩⟩
 ·have HX := Lib.hid (And.intro hb (And.intro hc (And.intro ho hd)))
  clear hb hc ho hd
  go_wp2_with fail
  go_returns
  exact ⟨HX.out.1, .inr ⟨HX.out.2.1, rfl, HX.out.2.2.1, HX.out.2.2.2⟩⟩
set_option maxRecDepth 100000 in
set_option maxHeartbeats 4000000 in
theorem mrun_5 (B q p : Nat) (s : St) (c : Ca) (zs : List (Ino × Value)) (vI vO vM : Value) (R : St × Re) (w : World) (hN : Now B q p s c zs vI vO vM w w) (hk : c.kind = 5) (h : Calls Tryz.prog 90 #[.pointer (some ⟨q, 0, .none⟩)] w (Ran B q p c R w)) :
  Calls Tryz.prog 65 #[.pointer (some ⟨q, 0, .none⟩)] w (Ran B q p c R w) := by
 have d1 := hN.doer.c1
 rw [hk] at d1
 clear hN hk
 go_enter Tryz.func65, Tryz.ntmps65
 go_wp2_with fail
 refine h.mono ?_
 rintro e1 w1 ⟨hb, ⟨hc, rfl⟩ | ⟨hc, rfl, ho, hd⟩⟩
 ·go_simp
  exact panic_end rfl ⟨hb, .inl ⟨hc, rfl⟩⟩
 ·have HX := Lib.hid (And.intro hb (And.intro hc (And.intro ho hd)))
  clear hb hc ho hd
  go_wp2_with fail
  go_returns
  exact ⟨HX.out.1, .inr ⟨HX.out.2.1, rfl, HX.out.2.2.1, HX.out.2.2.2⟩⟩
set_option maxRecDepth 100000 in
set_option maxHeartbeats 4000000 in
theorem mrun_6 (B q p : Nat) (s : St) (c : Ca) (zs : List (Ino × Value)) (vI vO vM : Value) (R : St × Re) (w : World) (hN : Now B q p s c zs vI vO vM w w) (hk : c.kind = 6) (h : Calls Tryz.prog 90 #[.pointer (some ⟨q, 0, .none⟩)] w (Ran B q p c R w)) :
  Calls Tryz.prog 65 #[.pointer (some ⟨q, 0, .none⟩)] w (Ran B q p c R w) := by
 have d1 := hN.doer.c1
 rw [hk] at d1
 clear hN hk
 go_enter Tryz.func65, Tryz.ntmps65
 go_wp2_with fail
 refine h.mono ?_
 rintro e1 w1 ⟨hb, ⟨hc, rfl⟩ | ⟨hc, rfl, ho, hd⟩⟩
 ·go_simp
  exact panic_end rfl ⟨hb, .inl ⟨hc, rfl⟩⟩
 ·have HX := Lib.hid (And.intro hb (And.intro hc (And.intro ho hd)))
  clear hb hc ho hd
  go_wp2_with fail
  go_returns
  exact ⟨HX.out.1, .inr ⟨HX.out.2.1, rfl, HX.out.2.2.1, HX.out.2.2.2⟩⟩
set_option maxRecDepth 100000 in
set_option maxHeartbeats 4000000 in
theorem mrun_7 (B q p : Nat) (s : St) (c : Ca) (zs : List (Ino × Value)) (vI vO vM : Value) (R : St × Re) (w : World) (hN : Now B q p s c zs vI vO vM w w) (hk : c.kind = 7) (h : Calls Tryz.prog 90 #[.pointer (some ⟨q, 0, .none⟩)] w (Ran B q p c R w)) :
  Calls Tryz.prog 65 #[.pointer (some ⟨q, 0, .none⟩)] w (Ran B q p c R w) := by
 have d1 := hN.doer.c1
 rw [hk] at d1
 clear hN hk
 go_enter Tryz.func65, Tryz.ntmps65
 go_wp2_with fail
 refine h.mono ?_
 rintro e1 w1 ⟨hb, ⟨hc, rfl⟩ | ⟨hc, rfl, ho, hd⟩⟩
 ·go_simp
  exact panic_end rfl ⟨hb, .inl ⟨hc, rfl⟩⟩
 ·have HX := Lib.hid (And.intro hb (And.intro hc (And.intro ho hd)))
  clear hb hc ho hd
  go_wp2_with fail
  go_returns
  exact ⟨HX.out.1, .inr ⟨HX.out.2.1, rfl, HX.out.2.2.1, HX.out.2.2.2⟩⟩
set_option maxRecDepth 100000 in
set_option maxHeartbeats 4000000 in
theorem mrun_8 (B q p : Nat) (s : St) (c : Ca) (zs : List (Ino × Value)) (vI vO vM : Value) (R : St × Re) (w : World) (hN : Now B q p s c zs vI vO vM w w) (hk : c.kind = 8) (h : Calls Tryz.prog 91 #[.pointer (some ⟨q, 0, .none⟩)] w (Ran B q p c R w)) :
  Calls Tryz.prog 65 #[.pointer (some ⟨q, 0, .none⟩)] w (Ran B q p c R w) := by
 have d1 := hN.doer.c1
 rw [hk] at d1
 clear hN hk
 go_enter Tryz.func65, Tryz.ntmps65
 go_wp2_with fail
 refine h.mono ?_
 rintro e1 w1 ⟨hb, ⟨hc, rfl⟩ | ⟨hc, rfl, ho, hd⟩⟩
 ·go_simp
  exact panic_end rfl ⟨hb, .inl ⟨hc, rfl⟩⟩
 ·have HX := Lib.hid (And.intro hb (And.intro hc (And.intro ho hd)))
  clear hb hc ho hd
  go_wp2_with fail
  go_returns
  exact ⟨HX.out.1, .inr ⟨HX.out.2.1, rfl, HX.out.2.2.1, HX.out.2.2.2⟩⟩
set_option maxRecDepth 100000 in
set_option maxHeartbeats 4000000 in
theorem mrun_9 (B q p : Nat) (s : St) (c : Ca) (zs : List (Ino × Value)) (vI vO vM : Value) (R : St × Re) (w : World) (hN : Now B q p s c zs vI vO vM w w) (hk : c.kind = 9) (h : Calls Tryz.prog 92 #[.pointer (some ⟨q, 0, .none⟩)] w (Ran B q p c R w)) :
  Calls Tryz.prog 65 #[.pointer (some ⟨q, 0, .none⟩)] w (Ran B q p c R w) := by
 have d1 := hN.doer.c1
 rw [hk] at d1
 clear hN hk
 go_enter Tryz.func65, Tryz.ntmps65
 go_wp2_with fail
 refine h.mono ?_
 rintro e1 w1 ⟨hb, ⟨hc, rfl⟩ | ⟨hc, rfl, ho, hd⟩⟩
 ·go_simp
  exact panic_end rfl ⟨hb, .inl ⟨hc, rfl⟩⟩
 ·have HX := Lib.hid (And.intro hb (And.intro hc (And.intro ho hd)))
  clear hb hc ho hd
  go_wp2_with fail
  go_returns
  exact ⟨HX.out.1, .inr ⟨HX.out.2.1, rfl, HX.out.2.2.1, HX.out.2.2.2⟩⟩
set_option maxRecDepth 100000 in
set_option maxHeartbeats 4000000 in
theorem mrun_10 (B q p : Nat) (s : St) (c : Ca) (zs : List (Ino × Value)) (vI vO vM : Value) (R : St × Re) (w : World) (hN : Now B q p s c zs vI vO vM w w) (hk : c.kind = 10) (h : Calls Tryz.prog 92 #[.pointer (some ⟨q, 0, .none⟩)] w (Ran B q p c R w)) :
  Calls Tryz.prog 65 #[.pointer (some ⟨q, 0, .none⟩)] w (Ran B q p c R w) := by
 have d1 := hN.doer.c1
 rw [hk] at d1
 clear hN hk
 go_enter Tryz.func65, Tryz.ntmps65
 go_wp2_with fail
 refine h.mono ?_
 rintro e1 w1 ⟨hb, ⟨hc, rfl⟩ | ⟨hc, rfl, ho, hd⟩⟩
 ·go_simp
  exact panic_end rfl ⟨hb, .inl ⟨hc, rfl⟩⟩
 ·have HX := Lib.hid (And.intro hb (And.intro hc (And.intro ho hd)))
  clear hb hc ho hd
  go_wp2_with fail
  go_returns
  exact ⟨HX.out.1, .inr ⟨HX.out.2.1, rfl, HX.out.2.2.1, HX.out.2.2.2⟩⟩
set_option maxRecDepth 100000 in
set_option maxHeartbeats 4000000 in
theorem mrun_11 (B q p : Nat) (s : St) (c : Ca) (zs : List (Ino × Value)) (vI vO vM : Value) (R : St × Re) (w : World) (hN : Now B q p s c zs vI vO vM w w) (hk : c.kind = 11) (h : Calls Tryz.prog 93 #[.pointer (some ⟨q, 0, .none⟩)] w (Ran B q p c R w)) :
  Calls Tryz.prog 65 #[.pointer (some ⟨q, 0, .none⟩)] w (Ran B q p c R w) := by
 have d1 := hN.doer.c1
 rw [hk] at d1
 clear hN hk
 go_enter Tryz.func65, Tryz.ntmps65
 go_wp2_with fail
 refine h.mono ?_
 rintro e1 w1 ⟨hb, ⟨hc, rfl⟩ | ⟨hc, rfl, ho, hd⟩⟩
 ·go_simp
  exact panic_end rfl ⟨hb, .inl ⟨hc, rfl⟩⟩
 ·have HX := Lib.hid (And.intro hb (And.intro hc (And.intro ho hd)))
  clear hb hc ho hd
  go_wp2_with fail
  go_returns
  exact ⟨HX.out.1, .inr ⟨HX.out.2.1, rfl, HX.out.2.2.1, HX.out.2.2.2⟩⟩
set_option maxRecDepth 100000 in
set_option maxHeartbeats 4000000 in
theorem mrun_12 (B q p : Nat) (s : St) (c : Ca) (zs : List (Ino × Value)) (vI vO vM : Value) (R : St × Re) (w : World) (hN : Now B q p s c zs vI vO vM w w) (hk : c.kind = 12) (h : Calls Tryz.prog 94 #[.pointer (some ⟨q, 0, .none⟩)] w (Ran B q p c R w)) :
  Calls Tryz.prog 65 #[.pointer (some ⟨q, 0, .none⟩)] w (Ran B q p c R w) := by
 have d1 := hN.doer.c1
 rw [hk] at d1
 clear hN hk
 go_enter Tryz.func65, Tryz.ntmps65
 go_wp2_with fail
 refine h.mono ?_
 rintro e1 w1 ⟨hb, ⟨hc, rfl⟩ | ⟨hc, rfl, ho, hd⟩⟩
 ·go_simp
  exact panic_end rfl ⟨hb, .inl ⟨hc, rfl⟩⟩
 ·have HX := Lib.hid (And.intro hb (And.intro hc (And.intro ho hd)))
  clear hb hc ho hd
  go_wp2_with fail
  go_returns
  exact ⟨HX.out.1, .inr ⟨HX.out.2.1, rfl, HX.out.2.2.1, HX.out.2.2.2⟩⟩
set_option maxRecDepth 100000 in
set_option maxHeartbeats 4000000 in
theorem mrun_13 (B q p : Nat) (s : St) (c : Ca) (zs : List (Ino × Value)) (vI vO vM : Value) (R : St × Re) (w : World) (hN : Now B q p s c zs vI vO vM w w) (hk : c.kind = 13) (h : Calls Tryz.prog 94 #[.pointer (some ⟨q, 0, .none⟩)] w (Ran B q p c R w)) :
  Calls Tryz.prog 65 #[.pointer (some ⟨q, 0, .none⟩)] w (Ran B q p c R w) := by
 have d1 := hN.doer.c1
 rw [hk] at d1
 clear hN hk
 go_enter Tryz.func65, Tryz.ntmps65
 go_wp2_with fail
 refine h.mono ?_
 rintro e1 w1 ⟨hb, ⟨hc, rfl⟩ | ⟨hc, rfl, ho, hd⟩⟩
 ·go_simp
  exact panic_end rfl ⟨hb, .inl ⟨hc, rfl⟩⟩
 ·have HX := Lib.hid (And.intro hb (And.intro hc (And.intro ho hd)))
  clear hb hc ho hd
  go_wp2_with fail
  go_returns
  exact ⟨HX.out.1, .inr ⟨HX.out.2.1, rfl, HX.out.2.2.1, HX.out.2.2.2⟩⟩
set_option maxRecDepth 100000 in
set_option maxHeartbeats 4000000 in
theorem mrun_14 (B q p : Nat) (s : St) (c : Ca) (zs : List (Ino × Value)) (vI vO vM : Value) (R : St × Re) (w : World) (hN : Now B q p s c zs vI vO vM w w) (hk : c.kind = 14) (h : Calls Tryz.prog 94 #[.pointer (some ⟨q, 0, .none⟩)] w (Ran B q p c R w)) :
  Calls Tryz.prog 65 #[.pointer (some ⟨q, 0, .none⟩)] w (Ran B q p c R w) := by
 have d1 := hN.doer.c1
 rw [hk] at d1
 clear hN hk
 go_enter Tryz.func65, Tryz.ntmps65
 go_wp2_with fail
 refine h.mono ?_
 rintro e1 w1 ⟨hb, ⟨hc, rfl⟩ | ⟨hc, rfl, ho, hd⟩⟩
 ·go_simp
  exact panic_end rfl ⟨hb, .inl ⟨hc, rfl⟩⟩
 ·have HX := Lib.hid (And.intro hb (And.intro hc (And.intro ho hd)))
  clear hb hc ho hd
  go_wp2_with fail
  go_returns
  exact ⟨HX.out.1, .inr ⟨HX.out.2.1, rfl, HX.out.2.2.1, HX.out.2.2.2⟩⟩
set_option maxRecDepth 100000 in
set_option maxHeartbeats 4000000 in
theorem mrun_16 (B q p : Nat) (s : St) (c : Ca) (zs : List (Ino × Value)) (vI vO vM : Value) (w : World) (hN : Now B q p s c zs vI vO vM w w) (hk : c.kind = 16) :
  Calls Tryz.prog 65 #[.pointer (some ⟨q, 0, .none⟩)] w (Ran B q p c (s, {}) w) := by
 have d1 := hN.doer.c1
 rw [hk] at d1
 have HN := Lib.hid hN
 clear hN hk
 go_enter Tryz.func65, Tryz.ntmps65
 go_wp2_with fail
 go_returns
 exact ⟨HN.out.low, .inr ⟨rfl, rfl, ⟨zs, vI, vO, vM, HN.out.own⟩, .slice none 0 0, HN.out.doer, ⟨rfl, .inl ⟨none, rfl, rfl⟩⟩⟩⟩
set_option maxRecDepth 100000 in
set_option maxHeartbeats 4000000 in
theorem mrun_15 (B q p : Nat) (s : St) (c : Ca) (zs : List (Ino × Value)) (vI vO vM : Value) (w : World) (hN : Now B q p s c zs vI vO vM w w) (hg : Good s) (hk : c.kind = 15) :
  Calls Tryz.prog 65 #[.pointer (some ⟨q, 0, .none⟩)] w (Ran B q p c (byFdV s c) w) := by
 obtain ⟨R, hR⟩ : ∃ R, byFdV s c = R := ⟨_, rfl⟩
 rw [hR]
 unfold byFdV at hR
 have d1 := hN.doer.c1
 rw [hk] at d1
 have HN := Lib.hid hN
 have HR := Lib.hid hR
 have HG := Lib.hid hg
 have HK := Lib.hid hk
 clear hN hk hR hg
 go_enter Tryz.func65, Tryz.ntmps65
 go_wp2_with fail
 refine (mfile_any B q p s c 0 0 false ⟨#[]⟩ (.slice none 0 0) zs vI vO vM w HN.out.doer HN.out.own HG.out).mono ?_
 rintro e1 w1 ⟨hb1, ⟨h0, rfl⟩ | ⟨h0, g, n, d, i, x, k, hvI, hx, hxn, hxd, hfp, rfl⟩⟩
 ·have hr := HR.out
  rw [if_pos h0] at hr
  go_simp
  exact panic_end rfl ((HN.out.step hb1).fail (by rw [← hr]; simp) (by rw [← hr]))
 have hr := HR.out
 have hk := HK.out
 rw [if_neg h0, if_neg (by omega), if_neg (by omega), if_neg (by omega), if_neg (by omega), if_neg (by omega)] at hr
 have HN1 := Lib.hid (HN.out.step hb1)
 have HRF := Lib.hid hr
 clear hr hb1 hvI hx hxn hfp h0 hk
 go_wp2_with fail
 go_returns
 exact ⟨HN1.out.low, .inr ⟨by rw [← HRF.out], rfl, ⟨zs, vI, vO, vM, by rw [← HRF.out]; exact HN1.out.own⟩, .slice none 0 0, by rw [← HRF.out]; exact HN1.out.doer, by rw [← HRF.out]; exact ⟨rfl, .inl ⟨none, rfl, rfl⟩⟩⟩⟩
end Go.Proofs.YtilkhmhgjbhfnaaGreatDoor
namespace Go.Proofs.YtilkhmhgjbhfnaaGreatDoor
open Go.RowKit
theorem linkE_drop (es : List En) (q : Nat) (e : En) (num : Int) (h : es[q]? = some e) : linkE (es.drop q) num = (if e.num = num then 1 else 0) + linkE (es.drop (q + 1)) num := by
 obtain ⟨h1, h2⟩ := List.getElem?_eq_some_iff.1 h
 rw [List.drop_eq_getElem_cons h1, h2, linkE]
theorem linkI_drop (is : List Ino) (q : Nat) (x : Ino) (num : Int) (h : is[q]? = some x) : linkI (is.drop q) num = (if x.dir then linkE x.ents num else 0) + linkI (is.drop (q + 1)) num := by
 obtain ⟨h1, h2⟩ := List.getElem?_eq_some_iff.1 h
 rw [List.drop_eq_getElem_cons h1, h2, linkI]
set_option maxRecDepth 100000 in
set_option maxHeartbeats 8000000 in
theorem mlinks_any (v : Value) (s : St) (num : Int) (w : World) (h : StAt none w v s) :
  Calls Tryz.prog 56 #[v, .int .i64 num] w fun e w' => e = .returned (.int .i64 (linkI s.inos num : Nat)) ∧ Below w.heap.size w w' := by
 obtain ⟨⟨A, n, c, B, m, d, D, k, e, rfl, hI, hD, hM, h5, h6, h7⟩, hz⟩ := h
 obtain ⟨W, hW, b0, b1, b2, hal, hlt0⟩ := box_st w A n c B m d D k e
 have hbig := hz.big
 obtain ⟨R, hR⟩ : ∃ R, linkI s.inos num = R := ⟨_, rfl⟩
 have hRb : R ≤ 1099511627776 := by
  have := linkI_le s.inos num
  omega
 have hn : n ≤ 1099511627776 := by have := hI.1; omega
 have hbe : bulkE s.inos ≤ 1099511627776 := by omega
 rw [hR]
 have HR := Lib.hid hR
 have HI := Lib.hid hI
 have HAL := Lib.hid hal
 clear hI hD hM hz hbig hR hal h5 h6 h7
 go_enter Tryz.func56, Tryz.ntmps56
 go_wp2_with fail
 clear hW
 go_loopw [5, 13] (fun v3 i wr => ∃ q cnt : Nat, i = .int .i64 q ∧ v3 = .int .i64 cnt ∧ q ≤ n ∧ Below w.heap.size w wr ∧ cnt + linkI (s.inos.drop q) num = R) (fun _ i _ => n - (intOf i).toNat)
 case atStart => exact ⟨0, 0, rfl, rfl, by omega, HAL.out, by have := HR.out; simpa using this⟩
 case round =>
  obtain ⟨q, cnt, rfl, rfl, hq, hbel, hc⟩ := hrel
  have HB := Lib.hid hbel
  have hcb : cnt ≤ R := by omega
  have HIr := Lib.hid (HI.out.below hbel)
  clear hbel
  by_cases hlt : q < n
  ·obtain ⟨g, off, x, E3, m3, d3, rfl, hg, hx, hd, hmem, e0, e1, e2, hok, hE, e3⟩ := HIr.out.get q hlt
   have k0 : (0 : Int) ≤ (q : Int) := by omega
   have k1 : (q : Int) < (n : Int) := by omega
   obtain ⟨V1, hV1, u0, u1, u2, u3, hal, hlt1⟩ := box_ino wr x.num x.dir E3 m3 d3 x.data
   rw [linkI_drop _ _ _ _ hx] at hc
   have HC := Lib.hid hc
   have HEV := Lib.hid (hE.below hal)
   have HBV := Lib.hid (Cv.next HB.out hal)
   have hm3 : m3 ≤ 1099511627776 := by have := hE.1; have := bulkE_le hx; omega
   obtain ⟨DX, hDX⟩ : ∃ DX, x.dir = DX := ⟨_, rfl⟩
   have HDX := Lib.hid hDX
   rw [hDX] at e1 u1 hV1
   have hcell : ∀ wz, Below V1.heap.size V1 wz → wz.cell? ⟨wr.heap.size, 1, .none⟩ = some (.bool DX) := fun wz h => (h.cell (p := ⟨wr.heap.size, 1, .none⟩) hlt1).trans u1
   have HCE := Lib.hid hcell
   clear hd hmem hE hx hal hc hDX hcell
   go_wp2_with fail
   clear hV1 e0 e1 e2 e3
   go_loopw [5, 20] (fun v3 i wz => ∃ r c2 : Nat, i = .int .i64 r ∧ v3 = .int .i64 c2 ∧ r ≤ m3 ∧ Below V1.heap.size V1 wz ∧ c2 + ((if DX then linkE (x.ents.drop r) num else 0) + linkI (s.inos.drop (q + 1)) num) = R) (fun _ i _ => m3 - (intOf i).toNat)
   case atStart => exact ⟨0, cnt, rfl, rfl, by omega, Below.refl _ _, by have := HC.out; rw [HDX.out] at this; simpa using this⟩
   case round =>
    obtain ⟨r, c2, rfl, rfl, hr, hbel, hc⟩ := hrel
    have HBz := Lib.hid hbel
    have HEz := Lib.hid (HEV.out.below hbel)
    have z1 := HCE.out _ hbel
    have hcb2 : c2 ≤ R := by omega
    clear hbel
    by_cases hlt2 : r < m3
    ·obtain ⟨g3, off3, e, rfl, hg3, he, hd3, hmem3, f0, f1⟩ := HEz.out.get r hlt2
     have r0 : (0 : Int) ≤ (r : Int) := by omega
     have r1 : (r : Int) < (m3 : Int) := by omega
     obtain ⟨V2, hV2, v0, v1, hal, hlt3⟩ := box_en wr e.name e.num
     have z2 := HCE.out _ (Cv.next HBz.out hal)
     have HB4 := Lib.hid (Cv.next HBz.out hal)
     rw [linkE_drop _ _ _ _ he] at hc
     obtain ⟨NX, hNX⟩ : ∃ NX, (e.num == num) = NX := ⟨_, rfl⟩
     have hif : (if e.num = num then 1 else 0) = (if NX then 1 else 0) := by
      rw [← hNX]
      by_cases h : e.num = num <;> simp [h]
     rw [hif] at hc
     have HC2 := Lib.hid hc
     have cw : IntKind.i64.wrap ((c2 : Int) + 1) = (c2 : Int) + 1 := by rw [IntKind.wrap_i64]; omega
     clear hc hd3 hmem3 he hal hif
     cases DX
     ·go_wp2_with fail
      go_roundw
      case rel => exact ⟨r + 1, c2, by go_num, rfl, by omega, HB4.out, by have := HC2.out; simpa using this⟩
      case measure => simp [intOf]; omega
     ·cases NX
      ·go_wp2_with fail
       go_roundw
       case rel => exact ⟨r + 1, c2, by go_num, rfl, by omega, HB4.out, by have := HC2.out; simp at this ⊢; omega⟩
       case measure => simp [intOf]; omega
      ·go_wp2_with fail
       go_roundw
       case rel => exact ⟨r + 1, c2 + 1, by go_num, by go_num, by omega, HB4.out, by have := HC2.out; simp at this ⊢; omega⟩
       case measure => simp [intOf]; omega
    ·have q9 : decide ((r : Int) < (m3 : Int)) = false := by rw [decide_eq_false_iff_not]; omega
     have hnil : x.ents.drop r = [] := List.drop_eq_nil_of_le (by have := HEz.out.1; omega)
     rw [hnil] at hc
     have HC2 := Lib.hid hc
     clear hc hnil
     go_wp2_with fail
     go_roundw
     case rel => exact ⟨q + 1, c2, by go_num, rfl, by omega, Cv.next HBV.out HBz.out, by have := HC2.out; simpa [linkE] using this⟩
     case measure => simp [intOf]; omega
  ·have hnil : s.inos.drop q = [] := List.drop_eq_nil_of_le (by have := HIr.out.1; omega)
   rw [hnil, linkI] at hc
   have hcr : cnt = R := by omega
   have HC := Lib.hid hcr
   have q9 : decide ((q : Int) < (n : Int)) = false := by rw [decide_eq_false_iff_not]; omega
   clear hc hnil hcr
   go_wp2_with fail
   go_ret
   exact ⟨by have h := HC.out; rw [h]; rfl, HB.out⟩
set_option maxHeartbeats 4000000 in
set_option maxRecDepth 100000 in
theorem delI_row (g c i m : Nat) (cur : Array Value) (xs seg zs : List Value) (w : World) (hg : w.heap[g]? = some (.cells cur 65 (0, 0))) (hsz : cur.size = c * 4) (hnc : i + m + 1 ≤ c) (hcm : c ≤ maxLen)
  (hxs : cur.toList.take ((i + m + 1) * 4) = xs) (h1c : ∀ v ∈ xs, v.oneCell' = true) (hseg : seg = xs.drop ((i + 1) * 4)) (hzs : zs = (Value.agg #[.int .i64 0, .bool false, .slice none 0 0, .string ⟨#[]⟩]).cells.toList) :
  Calls Tryz.prog 141 #[.slice (some ⟨g, 0, none⟩) (i + m + 1) c, .int .i64 i, .int .i64 ((i : Int) + 1)] w fun e w' =>
   e = .returned (.slice (some ⟨g, 0, none⟩) (i + m) c) ∧ w' = w.drew.setRow g (layV (layV cur.toList (i * 4) seg) ((i + m) * 4) zs).toArray := by
 obtain ⟨i0, hi0, hz0, hz1, hz2⟩ := info_parts infoIno
 have hc63 : c ≤ 9223372036854775807 := by unfold maxLen at hcm; omega
 have hzl : zs.length = 4 := by rw [hzs]; rfl
 have hzo : ∀ v ∈ zs, v.oneCell' = true := by rw [hzs]; intro v hv; simp [Value.cells] at hv; rcases hv with rfl | rfl | rfl | rfl <;> rfl
 have hxl : xs.length = (i + m + 1) * 4 := by rw [← hxs, List.length_take, Array.length_toList, hsz]; omega
 have hsl : seg.length = m * 4 := by rw [hseg, List.length_drop, hxl]; omega
 obtain ⟨A, hA, hsrc⟩ : ∃ A : Addr, (if c = i + 1 then some (⟨g, 0, none⟩ : Addr) else some ⟨g, (i + 1) * 4, none⟩) = some A ∧ ∀ j u, seg[j]? = some u → w.drew.cell? (A.add j) = some u := by
  by_cases h : c = i + 1
  ·refine ⟨⟨g, 0, none⟩, by rw [if_pos h], fun j u hu => ?_⟩
   have h0 : seg.length = 0 := by rw [hsl]; omega
   rw [List.length_eq_zero_iff.1 h0] at hu
   simp at hu
  ·refine ⟨⟨g, (i + 1) * 4, none⟩, by rw [if_neg h], row_cells (w := w.drew) hg _ _ (fun j v hj => ?_)⟩
   rw [hseg, ← hxs, List.getElem?_drop, List.getElem?_take] at hj
   split at hj
   ·simpa using hj
   ·cases hj
 have hap : ∀ ty sc, (Builtin.append_ #[27, 27] ty #[.slice (some ⟨g, 0, none⟩) i c, .slice (some A) m sc]).run Tryz.prog w.drew = .ok (.slice (some ⟨g, 0, none⟩) (i + m) c) (w.drew.setRow g (layV cur.toList (i * 4) seg).toArray) := fun ty sc => by
  have h := run_append_room (P := Tryz.prog) w.drew 27 ty 65 i0 Tryz.underlying27 hi0 g i c cur hg A m sc seg (by rw [hsl, hz1]) hsrc (fun v hv => h1c v (by rw [hseg] at hv; exact List.mem_of_mem_drop hv)) (by omega) (by rw [hz1, hsl, hsz]; omega)
  rw [hz1] at h
  exact h
 obtain ⟨C1, hC1⟩ : ∃ C1, C1 = (layV cur.toList (i * 4) seg).toArray := ⟨_, rfl⟩
 have hC1s : C1.size = c * 4 := by rw [hC1, layV_size (by rw [hsl, hsz]; omega), hsz]
 have hC1l : layV cur.toList (i * 4) seg = C1.toList := by rw [hC1]
 rw [← hC1] at hap
 rw [hC1l]
 obtain ⟨W1, hW1⟩ : ∃ W1, W1 = w.drew.setRow g C1 := ⟨_, rfl⟩
 have hg1 : W1.heap[g]? = some (.cells C1 65 (0, 0)) := by rw [hW1]; exact setRow_heap w.drew g cur _ _ _ hg
 rw [← hW1] at hap
 have hcl : ∀ ty cc, (Builtin.clear_ #[27] ty #[.slice (some ⟨g, (i + m) * 4, none⟩) 1 cc]).run Tryz.prog W1 = .ok (.tuple #[]) (W1.setRow g (layV C1.toList ((i + m) * 4) zs).toArray) := fun ty cc =>
  run_clear_rowK W1 27 65 ty (Value.agg #[.int .i64 0, .bool false, .slice none 0 0, .string ⟨#[]⟩]) zs Tryz.underlying27 (fun w => by simp [zeroValue, typeInfo, hi0, hz0]) hzs.symm g ((i + m) * 4) cc C1 65 hg1 (by rw [hzl, hC1s]; omega) hzo
 have hfin : W1.setRow g (layV C1.toList ((i + m) * 4) zs).toArray = w.drew.setRow g (layV C1.toList ((i + m) * 4) zs).toArray := by rw [hW1, setRow_setRow]
 have mixed : Tryz.prog.follows Departure.mixedOrders = true := by kernel_rfl
 have hic : i ≤ c := by omega
 have hjc : i + 1 ≤ c := by omega
 have hi1 : i ≤ i + m + 1 := by omega
 have hi2 : i + 1 ≤ i + m + 1 := by omega
 have hp0 : ¬ ((i : Int) = (i : Int) + 1) := by omega
 have hp1 : (0 : Int) ≤ (i : Int) + 1 := by omega
 have hp2 : (i : Int) + 1 ≤ (i : Int) + (m : Int) + 1 := by omega
 have hp3 : (i : Int) ≤ (i : Int) + 1 := by omega
 have hp4 : (i : Int) + 1 ≤ (c : Int) := by omega
 have hp5 : (i : Int) + (m : Int) ≤ (c : Int) := by omega
 have hp6 : (i : Int) + (m : Int) + 1 ≤ (c : Int) := by omega
 have hp7 : ¬ (c = i + m) := by omega
 have hp8 : i + m ≤ c := by omega
 have HA := Lib.hid hA
 have HAP := Lib.hid hap
 have HCL := Lib.hid hcl
 have HF := Lib.hid hfin
 clear hA hsrc hap hcl hfin hg1 hW1 hC1l hC1s hC1 hsl hxl hzo hzl hg hsz hcm hxs h1c hseg hzs
 go_enter Tryz.func141, Tryz.ntmps141
 go_wp2_with fail
 go_region_law_o (refine step_append_runI rfl (.tmp 22) (.tmp 25) 27 rfl (.slice (some ⟨g, 0, none⟩) i c) (.slice (some A) m (c - (i + 1))) (by simp [Act.eval, Act.put]) (by simp [Act.eval, Act.put, HA.out]) (HAP.out 27 _) ?_)
 go_wp2_with (simp only [HCL.out])
 all_goals (go_ret; exact ⟨rfl, HF.out⟩)
theorem delI_any (B n i : Nat) (v : Value) (xs : List Value) (w : World) (h : RowAt B w 65 4 v n xs) (hi : i < n) (h1 : ∀ u ∈ xs, u.oneCell' = true) :
  Calls Tryz.prog 141 #[v, .int .i64 i, .int .i64 ((i : Int) + 1)] w fun e w' => ∃ v', e = .returned v' ∧ RowAt B w' 65 4 v' (n - 1) (xs.take (i * 4) ++ xs.drop ((i + 1) * 4)) ∧ w.grownBy w' (rowBlk v) ∧ rowBlk v' = rowBlk v := by
 obtain ⟨m, rfl⟩ : ∃ m, n = i + m + 1 := ⟨n - (i + 1), by omega⟩
 rcases h.2 with ⟨A, rfl, h0⟩ | ⟨g, cap, cur, rfl, hc, hBg, hg, hnc, hcm, hcs, htk⟩
 ·omega
 ·have hb : rowBlk (.slice (some ⟨g, 0, none⟩) (i + m + 1) cap) = some g := by simp [rowBlk, Nat.ne_of_gt hc]
  have hl : (xs.drop ((i + 1) * 4)).length = m * 4 := by rw [List.length_drop, h.1]; omega
  have hlen : (xs.take (i * 4) ++ xs.drop ((i + 1) * 4)).length = (i + m) * 4 := by
   rw [List.length_append, hl, List.length_take, h.1]
   omega
  rw [hb, Nat.add_sub_cancel]
  refine (delI_row g cap i m cur xs (xs.drop ((i + 1) * 4)) _ w hg hcs hnc hcm htk h1 rfl rfl).mono ?_
  rintro e w' ⟨rfl, rfl⟩
  have s1 := layV_size (cur := cur) (o := i * 4) (vs := xs.drop ((i + 1) * 4)) (by rw [hl, hcs]; omega)
  have s2 : (layV cur.toList (i * 4) (xs.drop ((i + 1) * 4))).length = cap * 4 := by rw [List.size_toArray] at s1; rw [s1, hcs]
  refine ⟨_, rfl, ⟨hlen, .inr ⟨g, cap, _, rfl, hc, hBg, setRow_heap w.drew g cur _ _ _ hg, by omega, hcm, ?_, ?_⟩⟩, rw_drew rw_setRow, by simp [rowBlk, Nat.ne_of_gt hc]⟩
  ·rw [List.size_toArray, layV_len, s2]
   rw [s2]
   show (i + m) * 4 + 4 ≤ _
   omega
  ·show (layV (layV cur.toList (i * 4) (xs.drop ((i + 1) * 4))) ((i + m) * 4) _).take ((i + m) * 4) = _
   rw [layV_before (by rw [s2]; omega), show (i + m) * 4 = i * 4 + (xs.drop ((i + 1) * 4)).length by rw [hl]; omega, layV_take (by rw [Array.length_toList, hcs]; omega), ← htk, List.take_take, Nat.min_eq_left (by omega)]
end Go.Proofs.YtilkhmhgjbhfnaaGreatDoor
