/- Parts of the proof, side by side: MoFile2, MoRun, MoLinks. -/
import Derived.Test.YtndcloohcfhejaaGreatM19
import Derived.Test.YtndcloohcfhejaaGreatMoReached
set_option linter.unusedVariables false
set_option linter.unusedSimpArgs false
namespace Go.Proofs.YtndcloohcfhejaaGreat
open Go.RowKit
set_option maxRecDepth 100000 in
set_option maxHeartbeats 8000000 in
theorem mfile_any (B q p : Nat) (s : St) (c : Ca) (fd num : Int) (dir : Bool) (data : ByteArray) (nv : Value) (zs : List (Ino × Value)) (vI vO vM : Value) (w : World) (hD : DoerAt w q p c fd num dir data nv) (hO : Own2 B w p s zs vI vO vM) (hg : Good s) :
  Calls Tryz.prog 59 #[.pointer (some ⟨q, 0, .none⟩)] w fun e w' => Below w.heap.size w w' ∧ ((fdV s.opn c.core c.fd = 0 ∧ e = .panicked (faultP 4)) ∨ (fdV s.opn c.core c.fd ≠ 0 ∧ ∃ g n d i x k, vI = .slice (some ⟨g, 0, none⟩) n d ∧ s.inos[i]? = some x ∧ x.num = fdV s.opn c.core c.fd ∧ x.dir = false ∧ fdP s.opn c.core c.fd = some k ∧ e = .returned (.tuple #[.pointer (some ⟨g, i * 4, none⟩), .int .i64 (k : Nat)]))) := by
 obtain ⟨W, hW⟩ : ∃ W, w.alloc (.cells #[.pointer (some ⟨q, 0, none⟩)] 70) = W := ⟨_, rfl⟩
 have hal : Below w.heap.size w W := by rw [← hW]; exact (Below.refl _ _).alloc (Nat.le_refl _) _
 have hsz : W.heap.size = w.heap.size + 1 := by rw [← hW]; simp
 have bc : W.cell? ⟨w.heap.size, 0, .none⟩ = some (.pointer (some ⟨q, 0, none⟩)) := by rw [← hW]; exact World.cell?_alloc_mark w _ _ (0, 0) _
 have hlt : w.heap.size < W.heap.size := by omega
 have hOW := hO.below hal
 have hDW := hD.below hal
 have d0 := hDW.c0
 have s1 := hOW.s1
 obtain ⟨E, cE, hvO, hEok, hED⟩ := hOW.rowO.descs
 rw [hvO] at s1
 have hol : s.opn.length ≤ 32 := hg.opn_len
 have HO := Lib.hid hOW
 have HD := Lib.hid hDW
 have HG := Lib.hid hg
 have HED := Lib.hid hED
 have HAL := Lib.hid hal
 obtain ⟨m, hm⟩ : ∃ m, s.opn.length = m := ⟨_, rfl⟩
 rw [hm] at s1 hED hol
 have HMM := Lib.hid hm
 have HED := Lib.hid hED
 obtain ⟨NU, hNU⟩ : ∃ NU, fdV s.opn c.core c.fd = NU := ⟨_, rfl⟩
 rw [hNU]
 have HNU := Lib.hid hNU
 have hq := hDW.lt
 have hp := hOW.lt
 clear hO hD hg hal hsz hOW hDW hED hEok hvO hm hNU
 go_enter Tryz.func59, Tryz.ntmps59
 go_wp2_with fail
 refine (indexfile_any q p c fd num dir data nv s.opn E m cE w.heap.size W HED.out (by omega) bc hlt HD.out).mono ?_
 rintro e1 w1 ⟨rfl, hb1⟩
 have HB1 := Lib.hid hb1
 have bc1 := (hb1.cell (p := ⟨w.heap.size, 0, .none⟩) hlt).trans bc
 have d1 := (hb1.cell (p := ⟨q, 0, .none⟩) hq).trans d0
 have s11 := (hb1.cell (p := ⟨p, 1, .none⟩) hp).trans s1
 have HO1 := Lib.hid (HO.out.below hb1)
 have HED1 := Lib.hid (HED.out.below hb1)
 clear hb1 bc d0 s1 hW
 unfold fdI
 cases hP : fdP s.opn c.core c.fd with
 | none =>
  have h0 := (fdP_none _ _ _ hP).1
  rw [HNU.out] at h0
  subst h0
  have HPP := Lib.hid hP
  clear hP
  go_wp2_with fail
  refine (throw_yes _ _).mono ?_
  rintro e3 w3 ⟨rfl, rfl⟩
  go_wp2_with fail
  first | exact panic_end rfl ⟨Cv.next HAL.out HB1.out, .inl ⟨rfl, rfl⟩⟩ | exact panic_end rfl ⟨Cv.next HAL.out HB1.out, rfl⟩
 | some k =>
  obtain ⟨y, hy, _, _, hyn⟩ := fdP_some _ _ _ _ hP
  rw [HNU.out] at hyn
  obtain ⟨_, _, _, _, i, x, hat, hx, hxn, hxd⟩ := HG.out.opens y (List.mem_of_getElem? hy)
  have hkm : k < m := by have := (List.getElem?_eq_some_iff.1 hy).1; have := HMM.out; omega
  obtain ⟨ge, oe, y', hEE, hge, hy', _, _, f0, f1, f2⟩ := HED1.out.get k hkm
  have ex : y = y' := by rw [hy] at hy'; exact Option.some.inj hy'
  subst ex
  subst hEE
  obtain ⟨g, cc, E2, m2, d2, hv, _, hgl, _, hil, _⟩ := HO1.out.at_ hx
  have p1 := HO1.out.s0
  rw [hv] at p1
  have hne : NU ≠ 0 := by
   have := (HG.out.num_range (num := y.num) (by omega)).1
   omega
  have HAT := Lib.hid hat
  have HX := Lib.hid hx
  have HXN := Lib.hid (hxn.trans hyn.symm)
  have HPP := Lib.hid hP
  have k0 : (0 : Int) ≤ (k : Int) := by omega
  have k1 : (k : Int) < (m : Int) := by omega
  have k2 : decide ((k : Int) < 0) = false := by rw [decide_eq_false_iff_not]; omega
  have i0 : (0 : Int) ≤ (i : Int) := by omega
  have i1 : (i : Int) < (s.inos.length : Int) := by omega
  have HV := Lib.hid hv
  have HXD := Lib.hid hxd
  have HNE := Lib.hid hne
  obtain ⟨yn, hynn⟩ : ∃ yn, y.num = yn := ⟨_, rfl⟩
  rw [hynn] at f2
  have HATN : Hid (atV s.inos yn = (i : Int)) := by rw [← hynn]; exact hat
  clear hat hx hxn hyn hP hy hy' hv hne hynn hxd
  go_wp2_with fail
  refine (throw_no _ _).mono ?_
  rintro e3 w3 ⟨rfl, rfl⟩
  have hX2 : ∀ (Y : Ext w1) (p : Addr), (w1.cell? p).isSome = true → Y.w.cell? p = w1.cell? p := fun Y p h => Y.cell p h
  have hfind : ∀ Y : Ext w1, Calls Tryz.prog 68 #[.pointer (some ⟨p, 0, .none⟩), .int .i64 yn] Y.w fun e w' => e = .returned (.int .i64 (i : Int)) ∧ Below Y.w.heap.size Y.w w' := fun Y => by
   have h := mfind_any p s yn Y.w (HO1.out.ptr.below Y.bel) HG.out.riseI
   rw [HATN.out] at h
   exact h
  have HF := Lib.hid hfind
  clear hfind
  go_wp2_with fail
  refine wp_region_ext (by kernel_rfl) (by kernel_rfl) ?_
  repeat (go_big_quiet_step (first | (go_at_call 68; rename_i Y; exact Calls.ext_of (HF.out Y))))
  refine wpQuiet_nil ?_
  rintro w7 ⟨Y, rfl⟩
  have HBY := Lib.hid (Cv.next HAL.out (Cv.next HB1.out Y.bel))
  generalize hZe : Y.w = Z at *
  clear hX2
  go_wp2_with fail
  go_ret2
  first | exact ⟨HBY.out, .inr ⟨HNE.out, g, _, cc, i, x, k, HV.out, HX.out, HXN.out, HXD.out, HPP.out, rfl⟩⟩ | trace_state
end Go.Proofs.YtndcloohcfhejaaGreat
namespace Go.Proofs.YtndcloohcfhejaaGreat
open Go.RowKit
set_option maxRecDepth 100000 in
set_option maxHeartbeats 4000000 in
theorem mrun_0 (B q p : Nat) (s : St) (c : Ca) (zs : List (Ino × Value)) (vI vO vM : Value) (R : St × Re) (w : World) (hN : Now B q p s c zs vI vO vM w w) (hk : c.kind = 0) (h : Calls Tryz.prog 57 #[.pointer (some ⟨q, 0, .none⟩)] w (Ran B q p c R w)) :
  Calls Tryz.prog 34 #[.pointer (some ⟨q, 0, .none⟩)] w (Ran B q p c R w) := by
 have d1 := hN.doer.c1
 rw [hk] at d1
 clear hN hk
 go_enter Tryz.func34, Tryz.ntmps34
 go_wp2_with fail
 refine h.mono ?_
 rintro e1 w1 ⟨hb, ⟨hc, rfl⟩ | ⟨hc, rfl, ho, hd⟩⟩
 ·go_simp
  exact panic_end rfl ⟨hb, .inl ⟨hc, rfl⟩⟩
 ·have HX := Lib.hid (And.intro hb (And.intro hc (And.intro ho hd)))
  clear hb hc ho hd
  go_wp2_with fail
  go_returns
  exact ⟨HX.out.1, .inr ⟨HX.out.2.1, rfl, HX.out.2.2.1, HX.out.2.2.2⟩⟩
set_option maxRecDepth 100000 in
set_option maxHeartbeats 4000000 in
theorem mrun_1 (B q p : Nat) (s : St) (c : Ca) (zs : List (Ino × Value)) (vI vO vM : Value) (R : St × Re) (w : World) (hN : Now B q p s c zs vI vO vM w w) (hk : c.kind = 1) (h : Calls Tryz.prog 57 #[.pointer (some ⟨q, 0, .none⟩)] w (Ran B q p c R w)) :
  Calls Tryz.prog 34 #[.pointer (some ⟨q, 0, .none⟩)] w (Ran B q p c R w) := by
 have d1 := hN.doer.c1
 rw [hk] at d1
 clear hN hk
 go_enter Tryz.func34, Tryz.ntmps34
 go_wp2_with fail
 refine h.mono ?_
 rintro e1 w1 ⟨hb, ⟨hc, rfl⟩ | ⟨hc, rfl, ho, hd⟩⟩
 ·go_simp
  exact panic_end rfl ⟨hb, .inl ⟨hc, rfl⟩⟩
 ·have HX := Lib.hid (And.intro hb (And.intro hc (And.intro ho hd)))
  clear hb hc ho hd
  go_wp2_with fail
  go_returns
  exact ⟨HX.out.1, .inr ⟨HX.out.2.1, rfl, HX.out.2.2.1, HX.out.2.2.2⟩⟩
set_option maxRecDepth 100000 in
set_option maxHeartbeats 4000000 in
theorem mrun_2 (B q p : Nat) (s : St) (c : Ca) (zs : List (Ino × Value)) (vI vO vM : Value) (R : St × Re) (w : World) (hN : Now B q p s c zs vI vO vM w w) (hk : c.kind = 2) (h : Calls Tryz.prog 58 #[.pointer (some ⟨q, 0, .none⟩)] w (Ran B q p c R w)) :
  Calls Tryz.prog 34 #[.pointer (some ⟨q, 0, .none⟩)] w (Ran B q p c R w) := by
 have d1 := hN.doer.c1
 rw [hk] at d1
 clear hN hk
 go_enter Tryz.func34, Tryz.ntmps34
 go_wp2_with fail
 refine h.mono ?_
 rintro e1 w1 ⟨hb, ⟨hc, rfl⟩ | ⟨hc, rfl, ho, hd⟩⟩
 ·go_simp
  exact panic_end rfl ⟨hb, .inl ⟨hc, rfl⟩⟩
 ·have HX := Lib.hid (And.intro hb (And.intro hc (And.intro ho hd)))
  clear hb hc ho hd
  go_wp2_with fail
  go_returns
  exact ⟨HX.out.1, .inr ⟨HX.out.2.1, rfl, HX.out.2.2.1, HX.out.2.2.2⟩⟩
set_option maxRecDepth 100000 in
set_option maxHeartbeats 4000000 in
theorem mrun_4 (B q p : Nat) (s : St) (c : Ca) (zs : List (Ino × Value)) (vI vO vM : Value) (R : St × Re) (w : World) (hN : Now B q p s c zs vI vO vM w w) (hk : c.kind = 4) (h : Calls Tryz.prog 61 #[.pointer (some ⟨q, 0, .none⟩)] w (Ran B q p c R w)) :
  Calls Tryz.prog 34 #[.pointer (some ⟨q, 0, .none⟩)] w (Ran B q p c R w) := by
 have d1 := hN.doer.c1
 rw [hk] at d1
 clear hN hk
 go_enter Tryz.func34, Tryz.ntmps34
 go_wp2_with fail
 refine h.mono ?_
 rintro e1 w1 ⟨hb, ⟨hc, rfl⟩ | ⟨hc, rfl, ho, hd⟩⟩
 ·go_simp
  exact panic_end rfl ⟨hb, .inl ⟨hc, rfl⟩⟩
 ·have HX := Lib.hid (And.intro hb (And.intro hc (And.intro ho hd)))
  clear hb hc ho hd
  go_wp2_with fail
  go_returns
  exact ⟨HX.out.1, .inr ⟨HX.out.2.1, rfl, HX.out.2.2.1, HX.out.2.2.2⟩⟩
set_option maxRecDepth 100000 in
set_option maxHeartbeats 4000000 in
theorem mrun_5 (B q p : Nat) (s : St) (c : Ca) (zs : List (Ino × Value)) (vI vO vM : Value) (R : St × Re) (w : World) (hN : Now B q p s c zs vI vO vM w w) (hk : c.kind = 5) (h : Calls Tryz.prog 61 #[.pointer (some ⟨q, 0, .none⟩)] w (Ran B q p c R w)) :
  Calls Tryz.prog 34 #[.pointer (some ⟨q, 0, .none⟩)] w (Ran B q p c R w) := by
 have d1 := hN.doer.c1
 rw [hk] at d1
 clear hN hk
 go_enter Tryz.func34, Tryz.ntmps34
 go_wp2_with fail
 refine h.mono ?_
 rintro e1 w1 ⟨hb, ⟨hc, rfl⟩ | ⟨hc, rfl, ho, hd⟩⟩
 ·go_simp
  exact panic_end rfl ⟨hb, .inl ⟨hc, rfl⟩⟩
 ·have HX := Lib.hid (And.intro hb (And.intro hc (And.intro ho hd)))
  clear hb hc ho hd
  go_wp2_with fail
  go_returns
  exact ⟨HX.out.1, .inr ⟨HX.out.2.1, rfl, HX.out.2.2.1, HX.out.2.2.2⟩⟩
set_option maxRecDepth 100000 in
set_option maxHeartbeats 4000000 in
theorem mrun_6 (B q p : Nat) (s : St) (c : Ca) (zs : List (Ino × Value)) (vI vO vM : Value) (R : St × Re) (w : World) (hN : Now B q p s c zs vI vO vM w w) (hk : c.kind = 6) (h : Calls Tryz.prog 61 #[.pointer (some ⟨q, 0, .none⟩)] w (Ran B q p c R w)) :
  Calls Tryz.prog 34 #[.pointer (some ⟨q, 0, .none⟩)] w (Ran B q p c R w) := by
 have d1 := hN.doer.c1
 rw [hk] at d1
 clear hN hk
 go_enter Tryz.func34, Tryz.ntmps34
 go_wp2_with fail
 refine h.mono ?_
 rintro e1 w1 ⟨hb, ⟨hc, rfl⟩ | ⟨hc, rfl, ho, hd⟩⟩
 ·go_simp
  exact panic_end rfl ⟨hb, .inl ⟨hc, rfl⟩⟩
 ·have HX := Lib.hid (And.intro hb (And.intro hc (And.intro ho hd)))
  clear hb hc ho hd
  go_wp2_with fail
  go_returns
  exact ⟨HX.out.1, .inr ⟨HX.out.2.1, rfl, HX.out.2.2.1, HX.out.2.2.2⟩⟩
set_option maxRecDepth 100000 in
set_option maxHeartbeats 4000000 in
theorem mrun_7 (B q p : Nat) (s : St) (c : Ca) (zs : List (Ino × Value)) (vI vO vM : Value) (R : St × Re) (w : World) (hN : Now B q p s c zs vI vO vM w w) (hk : c.kind = 7) (h : Calls Tryz.prog 61 #[.pointer (some ⟨q, 0, .none⟩)] w (Ran B q p c R w)) :
  Calls Tryz.prog 34 #[.pointer (some ⟨q, 0, .none⟩)] w (Ran B q p c R w) := by
 have d1 := hN.doer.c1
 rw [hk] at d1
 clear hN hk
 go_enter Tryz.func34, Tryz.ntmps34
 go_wp2_with fail
 refine h.mono ?_
 rintro e1 w1 ⟨hb, ⟨hc, rfl⟩ | ⟨hc, rfl, ho, hd⟩⟩
 ·go_simp
  exact panic_end rfl ⟨hb, .inl ⟨hc, rfl⟩⟩
 ·have HX := Lib.hid (And.intro hb (And.intro hc (And.intro ho hd)))
  clear hb hc ho hd
  go_wp2_with fail
  go_returns
  exact ⟨HX.out.1, .inr ⟨HX.out.2.1, rfl, HX.out.2.2.1, HX.out.2.2.2⟩⟩
set_option maxRecDepth 100000 in
set_option maxHeartbeats 4000000 in
theorem mrun_8 (B q p : Nat) (s : St) (c : Ca) (zs : List (Ino × Value)) (vI vO vM : Value) (R : St × Re) (w : World) (hN : Now B q p s c zs vI vO vM w w) (hk : c.kind = 8) (h : Calls Tryz.prog 62 #[.pointer (some ⟨q, 0, .none⟩)] w (Ran B q p c R w)) :
  Calls Tryz.prog 34 #[.pointer (some ⟨q, 0, .none⟩)] w (Ran B q p c R w) := by
 have d1 := hN.doer.c1
 rw [hk] at d1
 clear hN hk
 go_enter Tryz.func34, Tryz.ntmps34
 go_wp2_with fail
 refine h.mono ?_
 rintro e1 w1 ⟨hb, ⟨hc, rfl⟩ | ⟨hc, rfl, ho, hd⟩⟩
 ·go_simp
  exact panic_end rfl ⟨hb, .inl ⟨hc, rfl⟩⟩
 ·have HX := Lib.hid (And.intro hb (And.intro hc (And.intro ho hd)))
  clear hb hc ho hd
  go_wp2_with fail
  go_returns
  exact ⟨HX.out.1, .inr ⟨HX.out.2.1, rfl, HX.out.2.2.1, HX.out.2.2.2⟩⟩
set_option maxRecDepth 100000 in
set_option maxHeartbeats 4000000 in
theorem mrun_9 (B q p : Nat) (s : St) (c : Ca) (zs : List (Ino × Value)) (vI vO vM : Value) (R : St × Re) (w : World) (hN : Now B q p s c zs vI vO vM w w) (hk : c.kind = 9) (h : Calls Tryz.prog 63 #[.pointer (some ⟨q, 0, .none⟩)] w (Ran B q p c R w)) :
  Calls Tryz.prog 34 #[.pointer (some ⟨q, 0, .none⟩)] w (Ran B q p c R w) := by
 have d1 := hN.doer.c1
 rw [hk] at d1
 clear hN hk
 go_enter Tryz.func34, Tryz.ntmps34
 go_wp2_with fail
 refine h.mono ?_
 rintro e1 w1 ⟨hb, ⟨hc, rfl⟩ | ⟨hc, rfl, ho, hd⟩⟩
 ·go_simp
  exact panic_end rfl ⟨hb, .inl ⟨hc, rfl⟩⟩
 ·have HX := Lib.hid (And.intro hb (And.intro hc (And.intro ho hd)))
  clear hb hc ho hd
  go_wp2_with fail
  go_returns
  exact ⟨HX.out.1, .inr ⟨HX.out.2.1, rfl, HX.out.2.2.1, HX.out.2.2.2⟩⟩
set_option maxRecDepth 100000 in
set_option maxHeartbeats 4000000 in
theorem mrun_10 (B q p : Nat) (s : St) (c : Ca) (zs : List (Ino × Value)) (vI vO vM : Value) (R : St × Re) (w : World) (hN : Now B q p s c zs vI vO vM w w) (hk : c.kind = 10) (h : Calls Tryz.prog 63 #[.pointer (some ⟨q, 0, .none⟩)] w (Ran B q p c R w)) :
  Calls Tryz.prog 34 #[.pointer (some ⟨q, 0, .none⟩)] w (Ran B q p c R w) := by
 have d1 := hN.doer.c1
 rw [hk] at d1
 clear hN hk
 go_enter Tryz.func34, Tryz.ntmps34
 go_wp2_with fail
 refine h.mono ?_
 rintro e1 w1 ⟨hb, ⟨hc, rfl⟩ | ⟨hc, rfl, ho, hd⟩⟩
 ·go_simp
  exact panic_end rfl ⟨hb, .inl ⟨hc, rfl⟩⟩
 ·have HX := Lib.hid (And.intro hb (And.intro hc (And.intro ho hd)))
  clear hb hc ho hd
  go_wp2_with fail
  go_returns
  exact ⟨HX.out.1, .inr ⟨HX.out.2.1, rfl, HX.out.2.2.1, HX.out.2.2.2⟩⟩
set_option maxRecDepth 100000 in
set_option maxHeartbeats 4000000 in
theorem mrun_11 (B q p : Nat) (s : St) (c : Ca) (zs : List (Ino × Value)) (vI vO vM : Value) (R : St × Re) (w : World) (hN : Now B q p s c zs vI vO vM w w) (hk : c.kind = 11) (h : Calls Tryz.prog 64 #[.pointer (some ⟨q, 0, .none⟩)] w (Ran B q p c R w)) :
  Calls Tryz.prog 34 #[.pointer (some ⟨q, 0, .none⟩)] w (Ran B q p c R w) := by
 have d1 := hN.doer.c1
 rw [hk] at d1
 clear hN hk
 go_enter Tryz.func34, Tryz.ntmps34
 go_wp2_with fail
 refine h.mono ?_
 rintro e1 w1 ⟨hb, ⟨hc, rfl⟩ | ⟨hc, rfl, ho, hd⟩⟩
 ·go_simp
  exact panic_end rfl ⟨hb, .inl ⟨hc, rfl⟩⟩
 ·have HX := Lib.hid (And.intro hb (And.intro hc (And.intro ho hd)))
  clear hb hc ho hd
  go_wp2_with fail
  go_returns
  exact ⟨HX.out.1, .inr ⟨HX.out.2.1, rfl, HX.out.2.2.1, HX.out.2.2.2⟩⟩
set_option maxRecDepth 100000 in
set_option maxHeartbeats 4000000 in
theorem mrun_12 (B q p : Nat) (s : St) (c : Ca) (zs : List (Ino × Value)) (vI vO vM : Value) (R : St × Re) (w : World) (hN : Now B q p s c zs vI vO vM w w) (hk : c.kind = 12) (h : Calls Tryz.prog 65 #[.pointer (some ⟨q, 0, .none⟩)] w (Ran B q p c R w)) :
  Calls Tryz.prog 34 #[.pointer (some ⟨q, 0, .none⟩)] w (Ran B q p c R w) := by
 have d1 := hN.doer.c1
 rw [hk] at d1
 clear hN hk
 go_enter Tryz.func34, Tryz.ntmps34
 go_wp2_with fail
 refine h.mono ?_
 rintro e1 w1 ⟨hb, ⟨hc, rfl⟩ | ⟨hc, rfl, ho, hd⟩⟩
 ·go_simp
  exact panic_end rfl ⟨hb, .inl ⟨hc, rfl⟩⟩
 ·have HX := Lib.hid (And.intro hb (And.intro hc (And.intro ho hd)))
  clear hb hc ho hd
  go_wp2_with fail
  go_returns
  exact ⟨HX.out.1, .inr ⟨HX.out.2.1, rfl, HX.out.2.2.1, HX.out.2.2.2⟩⟩
set_option maxRecDepth 100000 in
set_option maxHeartbeats 4000000 in
theorem mrun_13 (B q p : Nat) (s : St) (c : Ca) (zs : List (Ino × Value)) (vI vO vM : Value) (R : St × Re) (w : World) (hN : Now B q p s c zs vI vO vM w w) (hk : c.kind = 13) (h : Calls Tryz.prog 65 #[.pointer (some ⟨q, 0, .none⟩)] w (Ran B q p c R w)) :
  Calls Tryz.prog 34 #[.pointer (some ⟨q, 0, .none⟩)] w (Ran B q p c R w) := by
 have d1 := hN.doer.c1
 rw [hk] at d1
 clear hN hk
 go_enter Tryz.func34, Tryz.ntmps34
 go_wp2_with fail
 refine h.mono ?_
 rintro e1 w1 ⟨hb, ⟨hc, rfl⟩ | ⟨hc, rfl, ho, hd⟩⟩
 ·go_simp
  exact panic_end rfl ⟨hb, .inl ⟨hc, rfl⟩⟩
 ·have HX := Lib.hid (And.intro hb (And.intro hc (And.intro ho hd)))
  clear hb hc ho hd
  go_wp2_with fail
  go_returns
  exact ⟨HX.out.1, .inr ⟨HX.out.2.1, rfl, HX.out.2.2.1, HX.out.2.2.2⟩⟩
set_option maxRecDepth 100000 in
set_option maxHeartbeats 4000000 in
theorem mrun_14 (B q p : Nat) (s : St) (c : Ca) (zs : List (Ino × Value)) (vI vO vM : Value) (R : St × Re) (w : World) (hN : Now B q p s c zs vI vO vM w w) (hk : c.kind = 14) (h : Calls Tryz.prog 65 #[.pointer (some ⟨q, 0, .none⟩)] w (Ran B q p c R w)) :
  Calls Tryz.prog 34 #[.pointer (some ⟨q, 0, .none⟩)] w (Ran B q p c R w) := by
 have d1 := hN.doer.c1
 rw [hk] at d1
 clear hN hk
 go_enter Tryz.func34, Tryz.ntmps34
 go_wp2_with fail
 refine h.mono ?_
 rintro e1 w1 ⟨hb, ⟨hc, rfl⟩ | ⟨hc, rfl, ho, hd⟩⟩
 ·go_simp
  exact panic_end rfl ⟨hb, .inl ⟨hc, rfl⟩⟩
 ·have HX := Lib.hid (And.intro hb (And.intro hc (And.intro ho hd)))
  clear hb hc ho hd
  go_wp2_with fail
  go_returns
  exact ⟨HX.out.1, .inr ⟨HX.out.2.1, rfl, HX.out.2.2.1, HX.out.2.2.2⟩⟩
set_option maxRecDepth 100000 in
set_option maxHeartbeats 4000000 in
theorem mrun_16 (B q p : Nat) (s : St) (c : Ca) (zs : List (Ino × Value)) (vI vO vM : Value) (w : World) (hN : Now B q p s c zs vI vO vM w w) (hk : c.kind = 16) :
  Calls Tryz.prog 34 #[.pointer (some ⟨q, 0, .none⟩)] w (Ran B q p c (s, {}) w) := by
 have d1 := hN.doer.c1
 rw [hk] at d1
 have HN := Lib.hid hN
 clear hN hk
 go_enter Tryz.func34, Tryz.ntmps34
 go_wp2_with fail
 go_returns
 exact ⟨HN.out.low, .inr ⟨rfl, rfl, ⟨zs, vI, vO, vM, HN.out.own⟩, .slice none 0 0, HN.out.doer, ⟨rfl, .inl ⟨none, rfl, rfl⟩⟩⟩⟩
set_option maxRecDepth 100000 in
set_option maxHeartbeats 4000000 in
theorem mrun_15 (B q p : Nat) (s : St) (c : Ca) (zs : List (Ino × Value)) (vI vO vM : Value) (w : World) (hN : Now B q p s c zs vI vO vM w w) (hg : Good s) (hk : c.kind = 15) :
  Calls Tryz.prog 34 #[.pointer (some ⟨q, 0, .none⟩)] w (Ran B q p c (byFdV s c) w) := by
 obtain ⟨R, hR⟩ : ∃ R, byFdV s c = R := ⟨_, rfl⟩
 rw [hR]
 unfold byFdV at hR
 have d1 := hN.doer.c1
 rw [hk] at d1
 have HN := Lib.hid hN
 have HR := Lib.hid hR
 have HG := Lib.hid hg
 have HK := Lib.hid hk
 clear hN hk hR hg
 go_enter Tryz.func34, Tryz.ntmps34
 go_wp2_with fail
 refine (mfile_any B q p s c 0 0 false ⟨#[]⟩ (.slice none 0 0) zs vI vO vM w HN.out.doer HN.out.own HG.out).mono ?_
 rintro e1 w1 ⟨hb1, ⟨h0, rfl⟩ | ⟨h0, g, n, d, i, x, k, hvI, hx, hxn, hxd, hfp, rfl⟩⟩
 ·have hr := HR.out
  rw [if_pos h0] at hr
  go_simp
  exact panic_end rfl ((HN.out.step hb1).fail (by rw [← hr]; simp) (by rw [← hr]))
 have hr := HR.out
 have hk := HK.out
 rw [if_neg h0, if_neg (by omega), if_neg (by omega), if_neg (by omega), if_neg (by omega), if_neg (by omega)] at hr
 have HN1 := Lib.hid (HN.out.step hb1)
 have HRF := Lib.hid hr
 clear hr hb1 hvI hx hxn hfp h0 hk
 go_wp2_with fail
 go_returns
 exact ⟨HN1.out.low, .inr ⟨by rw [← HRF.out], rfl, ⟨zs, vI, vO, vM, by rw [← HRF.out]; exact HN1.out.own⟩, .slice none 0 0, by rw [← HRF.out]; exact HN1.out.doer, by rw [← HRF.out]; exact ⟨rfl, .inl ⟨none, rfl, rfl⟩⟩⟩⟩
end Go.Proofs.YtndcloohcfhejaaGreat
namespace Go.Proofs.YtndcloohcfhejaaGreat
open Go.RowKit
theorem linkE_drop (es : List En) (q : Nat) (e : En) (num : Int) (h : es[q]? = some e) : linkE (es.drop q) num = (if e.num = num then 1 else 0) + linkE (es.drop (q + 1)) num := by
 obtain ⟨h1, h2⟩ := List.getElem?_eq_some_iff.1 h
 rw [List.drop_eq_getElem_cons h1, h2, linkE]
theorem linkI_drop (is : List Ino) (q : Nat) (x : Ino) (num : Int) (h : is[q]? = some x) : linkI (is.drop q) num = (if x.dir then linkE x.ents num else 0) + linkI (is.drop (q + 1)) num := by
 obtain ⟨h1, h2⟩ := List.getElem?_eq_some_iff.1 h
 rw [List.drop_eq_getElem_cons h1, h2, linkI]
set_option maxRecDepth 100000 in
set_option maxHeartbeats 8000000 in
theorem mlinks_any (v : Value) (s : St) (num : Int) (w : World) (h : StAt none w v s) :
  Calls Tryz.prog 29 #[v, .int .i64 num] w fun e w' => e = .returned (.int .i64 (linkI s.inos num : Nat)) ∧ Below w.heap.size w w' := by
 obtain ⟨⟨A, n, c, B, m, d, D, k, e, rfl, hI, hD, hM, h5, h6, h7⟩, hz⟩ := h
 obtain ⟨W, hW, b0, b1, b2, hal, hlt0⟩ := box_st w A n c B m d D k e
 have hbig := hz.big
 obtain ⟨R, hR⟩ : ∃ R, linkI s.inos num = R := ⟨_, rfl⟩
 have hRb : R ≤ 1099511627776 := by
  have := linkI_le s.inos num
  omega
 have hn : n ≤ 1099511627776 := by have := hI.1; omega
 have hbe : bulkE s.inos ≤ 1099511627776 := by omega
 rw [hR]
 have HR := Lib.hid hR
 have HI := Lib.hid hI
 have HAL := Lib.hid hal
 clear hI hD hM hz hbig hR hal h5 h6 h7
 go_enter Tryz.func29, Tryz.ntmps29
 go_wp2_with fail
 clear hW
 go_loopw [5, 13] (fun v3 i wr => ∃ q cnt : Nat, i = .int .i64 q ∧ v3 = .int .i64 cnt ∧ q ≤ n ∧ Below w.heap.size w wr ∧ cnt + linkI (s.inos.drop q) num = R) (fun _ i _ => n - (intOf i).toNat)
 case atStart => exact ⟨0, 0, rfl, rfl, by omega, HAL.out, by have := HR.out; simpa using this⟩
 case round =>
  obtain ⟨q, cnt, rfl, rfl, hq, hbel, hc⟩ := hrel
  have HB := Lib.hid hbel
  have hcb : cnt ≤ R := by omega
  have HIr := Lib.hid (HI.out.below hbel)
  clear hbel
  by_cases hlt : q < n
  ·obtain ⟨g, off, x, E3, m3, d3, rfl, hg, hx, hd, hmem, e0, e1, e2, hok, hE, e3⟩ := HIr.out.get q hlt
   have k0 : (0 : Int) ≤ (q : Int) := by omega
   have k1 : (q : Int) < (n : Int) := by omega
   obtain ⟨V1, hV1, u0, u1, u2, u3, hal, hlt1⟩ := box_ino wr x.num x.dir E3 m3 d3 x.data
   rw [linkI_drop _ _ _ _ hx] at hc
   have HC := Lib.hid hc
   have HEV := Lib.hid (hE.below hal)
   have HBV := Lib.hid (Cv.next HB.out hal)
   have hm3 : m3 ≤ 1099511627776 := by have := hE.1; have := bulkE_le hx; omega
   obtain ⟨DX, hDX⟩ : ∃ DX, x.dir = DX := ⟨_, rfl⟩
   have HDX := Lib.hid hDX
   rw [hDX] at e1 u1 hV1
   have hcell : ∀ wz, Below V1.heap.size V1 wz → wz.cell? ⟨wr.heap.size, 1, .none⟩ = some (.bool DX) := fun wz h => (h.cell (p := ⟨wr.heap.size, 1, .none⟩) hlt1).trans u1
   have HCE := Lib.hid hcell
   clear hd hmem hE hx hal hc hDX hcell
   go_wp2_with fail
   clear hV1 e0 e1 e2 e3
   go_loopw [5, 20] (fun v3 i wz => ∃ r c2 : Nat, i = .int .i64 r ∧ v3 = .int .i64 c2 ∧ r ≤ m3 ∧ Below V1.heap.size V1 wz ∧ c2 + ((if DX then linkE (x.ents.drop r) num else 0) + linkI (s.inos.drop (q + 1)) num) = R) (fun _ i _ => m3 - (intOf i).toNat)
   case atStart => exact ⟨0, cnt, rfl, rfl, by omega, Below.refl _ _, by have := HC.out; rw [HDX.out] at this; simpa using this⟩
   case round =>
    obtain ⟨r, c2, rfl, rfl, hr, hbel, hc⟩ := hrel
    have HBz := Lib.hid hbel
    have HEz := Lib.hid (HEV.out.below hbel)
    have z1 := HCE.out _ hbel
    have hcb2 : c2 ≤ R := by omega
    clear hbel
    by_cases hlt2 : r < m3
    ·obtain ⟨g3, off3, e, rfl, hg3, he, hd3, hmem3, f0, f1⟩ := HEz.out.get r hlt2
     have r0 : (0 : Int) ≤ (r : Int) := by omega
     have r1 : (r : Int) < (m3 : Int) := by omega
     obtain ⟨V2, hV2, v0, v1, hal, hlt3⟩ := box_en wr e.name e.num
     have z2 := HCE.out _ (Cv.next HBz.out hal)
     have HB4 := Lib.hid (Cv.next HBz.out hal)
     rw [linkE_drop _ _ _ _ he] at hc
     obtain ⟨NX, hNX⟩ : ∃ NX, (e.num == num) = NX := ⟨_, rfl⟩
     have hif : (if e.num = num then 1 else 0) = (if NX then 1 else 0) := by
      rw [← hNX]
      by_cases h : e.num = num <;> simp [h]
     rw [hif] at hc
     have HC2 := Lib.hid hc
     have cw : IntKind.i64.wrap ((c2 : Int) + 1) = (c2 : Int) + 1 := by rw [IntKind.wrap_i64]; omega
     clear hc hd3 hmem3 he hal hif
     cases DX
     ·go_wp2_with fail
      go_roundw
      case rel => exact ⟨r + 1, c2, by go_num, rfl, by omega, HB4.out, by have := HC2.out; simpa using this⟩
      case measure => simp [intOf]; omega
     ·cases NX
      ·go_wp2_with fail
       go_roundw
       case rel => exact ⟨r + 1, c2, by go_num, rfl, by omega, HB4.out, by have := HC2.out; simp at this ⊢; omega⟩
       case measure => simp [intOf]; omega
      ·go_wp2_with fail
       go_roundw
       case rel => exact ⟨r + 1, c2 + 1, by go_num, by go_num, by omega, HB4.out, by have := HC2.out; simp at this ⊢; omega⟩
       case measure => simp [intOf]; omega
    ·have q9 : decide ((r : Int) < (m3 : Int)) = false := by rw [decide_eq_false_iff_not]; omega
     have hnil : x.ents.drop r = [] := List.drop_eq_nil_of_le (by have := HEz.out.1; omega)
     rw [hnil] at hc
     have HC2 := Lib.hid hc
     clear hc hnil
     go_wp2_with fail
     go_roundw
     case rel => exact ⟨q + 1, c2, by go_num, rfl, by omega, Cv.next HBV.out HBz.out, by have := HC2.out; simpa [linkE] using this⟩
     case measure => simp [intOf]; omega
  ·have hnil : s.inos.drop q = [] := List.drop_eq_nil_of_le (by have := HIr.out.1; omega)
   rw [hnil, linkI] at hc
   have hcr : cnt = R := by omega
   have HC := Lib.hid hcr
   have q9 : decide ((q : Int) < (n : Int)) = false := by rw [decide_eq_false_iff_not]; omega
   clear hc hnil hcr
   go_wp2_with fail
   go_ret
   exact ⟨by have h := HC.out; rw [h]; rfl, HB.out⟩
end Go.Proofs.YtndcloohcfhejaaGreat
