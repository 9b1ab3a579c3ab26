/- Parts of the proof, side by side: Held2, MoOpenD. -/
import Derived.Test.YtilkhmhgjbhfnaaGreatDoorM26
import Derived.OrdersHeld
import Derived.Test.YtilkhmhgjbhfnaaGreatDoorM23
import Derived.Test.YtilkhmhgjbhfnaaGreatDoorM14
set_option linter.unusedVariables false
set_option linter.unusedSimpArgs false
namespace Go.Proofs.YtilkhmhgjbhfnaaGreatDoor
open Go.RowKit
section
variable {P : Program} {md : Region.Mode} {ops : Array Oper} {Q : Exit → Act → World → Prop} {S : World → Prop}
def wpAnyH2 (P : Program) (md : Region.Mode) (ops : Array Oper) (Q : Exit → Act → World → Prop) (S : World → Prop) (n : Nat) : Nat → Array Bool → Act → World → Prop
 | 0, bs, a, w => Region.ready md ops bs = [] ∧ Q .normal a w
 | f + 1, bs, a, w => (Region.ready md ops bs = [] → Q .normal a w) ∧ ∀ i ∈ Region.ready md ops bs, wpOp P ops Q i (fun a' w' => (i = n ∨ S w') ∧ wpAnyH2 P md ops Q S n f (bs.setIfInBounds i true) a' w') a w
theorem wpAny_of_held2 {n : Nat} : ∀ (f : Nat) (bs : Array Bool) (a : Act) (w : World), wpAnyH2 P md ops Q S n f bs a w → wpAny P md ops Q f bs a w
 | 0, _, _, _, h => h
 | f + 1, _, _, _, h => ⟨h.1, fun i hi => wpOp_mono (fun a' w' h' => wpAny_of_held2 f _ a' w' h'.2) (h.2 i hi)⟩
theorem held2_first {n i : Nat} {oi : Oper} {v : Value} (hi : ops[i]? = some oi) (hin : i < n) (hn : n < ops.size) (hsel : ∀ (j : Nat) (o : Oper) cs b, ops[j]? = some o → o.op ≠ .select cs b)
  (hs : Region.sinkB md ops n = true) (hc : Region.chainB md ops n = true) (hlast : n + 1 = ops.size) (hQ : ∀ c a w, Q (.panic c) (a.put oi.dst v) w → Q (.panic c) a w) :
  ∀ (f : Nat) (bs : Array Bool) (a : Act) (w : World), HeadInv md ops n bs →
   (∀ j oj, ops[j]? = some oj → j ≠ i → bs.getD j true = false → (∀ e ∈ oj.after, Region.binds md e = true → e.on ≠ i) → oi.apart ops oj = true) →
   i ∈ Region.ready md ops bs → YieldsIf P ops S oi v a → S w →
   wpAnyH2 P md ops Q S n f (bs.setIfInBounds i true) (a.put oi.dst v) w → wpAnyH2 P md ops Q S n (f + 1) bs a w := by
 intro f
 induction f with
 | zero =>
  intro bs a w inv _ hr hy hS H
  refine ⟨fun h => (by rw [h] at hr; cases hr), fun j hj => ?_⟩
  by_cases e : j = i
  ·subst e; exact hy.wpOp hi hS ⟨.inr hS, H⟩
  ·have := ready_mono hj e
   rw [H.1] at this
   cases this
 | succ f ih =>
  intro bs a w inv hfree hr hy hS H
  have hun := (mem_ready.1 hr).1
  refine ⟨fun h => (by rw [h] at hr; cases hr), fun j hj => ?_⟩
  have hjn : j < n := by
   apply Classical.byContradiction
   intro h
   exact tail_waits hs hc hn inv _ i rfl hin hun j (by omega) hj
  by_cases e : j = i
  ·subst e; exact hy.wpOp hi hS ⟨.inr hS, H⟩
  ·have h1 := H.2 j (ready_mono hj e)
   obtain ⟨hjun, oj, hoj, hall⟩ := mem_ready.1 hj
   have hnot : ∀ e ∈ oj.after, Region.binds md e = true → e.on ≠ i := fun e he hb heq => by
    have h1 := hall e he hb
    rw [heq, getD_both hun] at h1
    cases h1
   have h2 := wpOp_putIf hoj (hfree j oj hoj e hjun hnot) (fun cs b => hsel i oi cs b hi) (fun cs b => hsel j oj cs b hoj) hQ hy h1
   have hfree' : ∀ k ok, ops[k]? = some ok → k ≠ i → (bs.setIfInBounds j true).getD k true = false →
     (∀ e ∈ ok.after, Region.binds md e = true → e.on ≠ i) → oi.apart ops ok = true := fun k ok hk hki hku hkno => by
    refine hfree k ok hk hki ?_ hkno
    by_cases h : j = k
    ·subst h; exact hjun
    ·rw [getD_set_ne true h] at hku; exact hku
   refine wpOp_mono (fun a' w' h3 => ?_) h2
   have hSw : S w' := h3.2.1.resolve_left (by omega)
   refine ⟨.inr hSw, ih (bs.setIfInBounds j true) a' w' (inv.set hj hjn) hfree' (ready_mono hr (Ne.symm e)) h3.1 hSw ?_⟩
   rw [Array.setIfInBounds_comm _ _ e]
   exact h3.2.2
def Region.held2B (md : Region.Mode) (ops : Array Oper) (n : Nat) : Bool := Region.noSelect ops && Region.sinkB md ops n && Region.chainB md ops n && decide (n + 1 = ops.size)
structure Held2 (md : Region.Mode) (ops : Array Oper) (n : Nat) (bs : Array Bool) : Prop where
 inv : HeadInv md ops n bs
 text : Region.held2B md ops n = true
theorem Held2.at_ {n : Nat} {bs : Array Bool} (h : Held2 md ops n bs) : Region.noSelect ops = true ∧ Region.sinkB md ops n = true ∧ Region.chainB md ops n = true ∧ n + 1 = ops.size := by
 have h1 := h.text
 unfold Region.held2B at h1
 simp only [Bool.and_eq_true, decide_eq_true_eq] at h1
 exact ⟨h1.1.1.1, h1.1.1.2, h1.1.2, h1.2⟩
theorem held2_take {n i : Nat} {oi : Oper} {v : Value} {f : Nat} {bs : Array Bool} {a : Act} {w : World} (hh : Held2 md ops n bs) (hi : ops[i]? = some oi) (hin : i < n)
  (hf : Region.free md ops bs i = true) (hr : (Region.ready md ops bs).contains i = true)
  (hQ : ∀ c a w, Q (.panic c) (a.put oi.dst v) w → Q (.panic c) a w) (hy : YieldsIf P ops S oi v a) (hS : S w)
  (h : Held2 md ops n (bs.setIfInBounds i true) → wpAnyH2 P md ops Q S n f (bs.setIfInBounds i true) (a.put oi.dst v) w) : wpAnyH2 P md ops Q S n (f + 1) bs a w := by
 obtain ⟨h1, h2, h3, h4⟩ := hh.at_
 have hr' : i ∈ Region.ready md ops bs := by simpa using hr
 exact held2_first hi hin (by omega) (Region.noSelect_spec h1) h2 h3 h4 hQ f bs a w hh.inv (Region.free_spec hi hf) hr' hy hS (h ⟨hh.inv.set hr' hin, hh.text⟩)
def Nx (P : Program) (md : Region.Mode) (ops : Array Oper) (Q : Exit → Act → World → Prop) (S : World → Prop) (n f : Nat) (bs : Array Bool) : Exit → Act → World → Prop
 | .normal, a, w => S w ∧ (Held2 md ops n bs → wpAnyH2 P md ops Q S n f bs a w)
 | e, a, w => Q e a w
theorem held2_turn {n i : Nat} {oi : Oper} {f : Nat} {bs : Array Bool} {a : Act} {w : World} (hh : Held2 md ops n bs) (hi : ops[i]? = some oi) (hin : i < n) (hr : Region.ready md ops bs = [i]) (hg : oi.guard = none)
  (h : Oper.wp P oi a w (fun a' w' => Nx P md ops Q S n f (bs.setIfInBounds i true) .normal a' w') Q) : wpAnyH2 P md ops Q S n (f + 1) bs a w := by
 refine ⟨fun h0 => (by rw [hr] at h0; cases h0), fun j hj => ?_⟩
 rw [hr] at hj
 have hji : j = i := by simpa using hj
 subst hji
 have hr' : j ∈ Region.ready md ops bs := by rw [hr]; simp
 have hh2 : Held2 md ops n (bs.setIfInBounds j true) := ⟨hh.inv.set hr' hin, hh.text⟩
 unfold wpOp
 simp only [hi]
 rw [if_pos (by simp [Region.wanted, hg])]
 exact .inl (Oper.wp_mono (fun a' w' h' => ⟨.inr h'.1, h'.2 hh2⟩) h)
theorem held2_end {n : Nat} {oi : Oper} {bs : Array Bool} {a : Act} {w : World} (hi : ops[n]? = some oi) (hr : Region.ready md ops bs = [n]) (hr2 : Region.ready md ops (bs.setIfInBounds n true) = []) (hg : oi.guard = none)
  (h : Oper.wp P oi a w (fun a' w' => Q .normal a' w') Q) : wpAnyH2 P md ops Q S n 1 bs a w := by
 refine ⟨fun h0 => (by rw [hr] at h0; cases h0), fun j hj => ?_⟩
 rw [hr] at hj
 have hjn : j = n := by simpa using hj
 subst hjn
 unfold wpOp
 simp only [hi]
 rw [if_pos (by simp [Region.wanted, hg])]
 exact .inl (Oper.wp_mono (fun a' w' h' => ⟨.inl (by trivial), hr2, h'⟩) h)
theorem wp_region_held2 {id : Nat} {a : Act} {w : World} (n : Nat) (hm : P.follows .mixedOrders = true) (hB : Region.held2B .any ops n = true)
  (h : Held2 .any ops n (Array.replicate ops.size false) → wpAnyH2 P .any ops Q S n ops.size (Array.replicate ops.size false) a w.drew) : (Code.region id ops true).wp P Q a w := by
 have inv0 : HeadInv .any ops n (Array.replicate ops.size false) :=
  ⟨by simp, fun j oj _ h0 => (by rw [getD_replicate_false] at h0; cases h0), fun t _ ht => getD_in (by simpa using ht) (getD_replicate_false _ _)⟩
 exact wp_region_any hm (wpAny_of_held2 _ _ _ _ (h ⟨inv0, hB⟩))
end
theorem one_ds (ds : List Ds) : ∀ u ∈ ds.flatMap dsV, u.oneCell' = true := by
 intro u hu
 obtain ⟨e, _, h⟩ := List.mem_flatMap.1 hu
 simp [dsV] at h
 rcases h with rfl | rfl | rfl <;> rfl
set_option maxRecDepth 100000 in
set_option maxHeartbeats 16000000 in
theorem mopen_any (B q p : Nat) (s : St) (c : Ca) (zs : List (Ino × Value)) (vI vO vM : Value) (w : World) (hN : Now B q p s c zs vI vO vM w w) (hg : Good s) (hp1 : c.path.size ≤ 140737488355328) :
  Calls Tryz.prog 86 #[.pointer (some ⟨q, 0, .none⟩)] w (Ran B q p c ((openedV s c (-1)).1, (openedV s c (-1)).2.1) w) := by
 obtain ⟨R, hR⟩ : ∃ R, openedV s c (-1) = R := ⟨_, rfl⟩
 have hsz := open_sized hg c (-1)
 rw [hR] at hsz ⊢
 unfold openedV at hR
 rw [if_neg (show ¬ ((0 : Int) ≤ -1) by omega)] at hR
 have HR := Lib.hid hR
 have HSZ := Lib.hid hsz
 have HN0 := Lib.hid hN
 have HG := Lib.hid hg
 have d6 := hN.doer.c6
 clear hR hN hg hsz
 go_enter Tryz.func86, Tryz.ntmps86
 go_wp2_with fail
 refine (mat_any B q p s c 0 0 false ⟨#[]⟩ (.slice none 0 0) zs vI vO vM c.path w HN0.out.doer HN0.out.own HG.out hp1).mono ?_
 rintro e1 w1 ⟨hb1, ⟨hc, rfl⟩ | ⟨hc, g, n, d, i, x, hvI, hx, hxn, rfl⟩⟩
 ·have hr := HR.out
  rw [if_pos hc] at hr
  go_simp
  exact panic_end rfl ((HN0.out.step hb1).fail (by rw [← hr]; exact hc) (by rw [← hr]))
 have hr := HR.out
 rw [if_neg (by rw [hc]; simp)] at hr
 have HN1 := Lib.hid (HN0.out.step hb1)
 have hat := HG.out.at_ hx hxn
 rw [dirAt_at hat hx, ← hxn] at hr
 have HR1 := Lib.hid hr
 obtain ⟨E, m, e, x0, x1, x2, x3, hE, hgl, hm⟩ := HN1.out.ino hvI hx
 have HX := Lib.hid hx
 have HVI := Lib.hid hvI
 clear hr hb1 d6 hE hx hxn hvI hat HR hm hc
 cases hd : x.dir
 rotate_left
 ·have hr := HR1.out
  rw [if_pos hd] at hr
  rw [hd] at x1
  go_wp2_with fail
  refine (throw_yes _ _).mono ?_
  rintro e3 w3 ⟨rfl, rfl⟩
  go_wp2_with fail
  exact panic_end rfl (HN1.out.fail (by rw [← hr]; simp) (by rw [← hr]))
 have hr := HR1.out
 rw [if_neg (by rw [hd]; simp)] at hr
 have HR2 := Lib.hid hr
 rw [hd] at x1
 have d0 := HN1.out.doer.c0
 have d2 := HN1.out.doer.c2
 have s1 := HN1.out.own.s1
 obtain ⟨AO, cO, hvO, hokO, hOD⟩ := HN1.out.own.rowO.descs
 rw [hvO] at s1
 obtain ⟨ML, hML⟩ : ∃ ML, s.opn.length = ML := ⟨_, rfl⟩
 rw [hML] at s1 hOD hokO
 have hml : ML ≤ 32 := by rw [← hML]; exact HG.out.opn_len
 have HML := Lib.hid hML
 have HOD := Lib.hid hOD
 have HVO := Lib.hid hvO
 have HOK := Lib.hid hokO
 have hq1 := HN1.out.doer.lt
 have hp1' := HN1.out.own.lt
 obtain ⟨CO, hCO⟩ : ∃ CO, c.core = CO := ⟨_, rfl⟩
 rw [hCO] at d2
 have HCO := Lib.hid hCO
 clear hr HR1 hd hML hOD hvO hokO hCO
 go_wp2_with fail
 refine (throw_no _ _).mono ?_
 rintro e3 w3 ⟨rfl, rfl⟩
 go_wp2_with fail
 go_loopw [3, 4, 27] (fun a b j wr => ∃ (r fd at_ : Nat), j = .int .i64 r ∧ a = .int .i64 fd ∧ b = .int .i64 at_ ∧ r ≤ ML ∧ fd ≤ r ∧ Below w1.heap.size w1 wr ∧ Scan s.opn CO r fd at_) (fun _ _ j _ => ML - (intOf j).toNat)
 case atStart => exact ⟨0, 0, 0, rfl, rfl, rfl, by omega, by omega, Below.refl _ _, Scan.start _ _⟩
 case round =>
  obtain ⟨r, fd, at_, rfl, rfl, rfl, hrm, hfr, hbel, hsc⟩ := hrel
  have HB := Lib.hid hbel
  have HSC := Lib.hid hsc
  have HNr := Lib.hid (HN1.out.step hbel)
  have HODr := Lib.hid (HOD.out.below hbel)
  have d0r := (hbel.cell (p := ⟨q, 0, none⟩) hq1).trans d0
  have d2r := (hbel.cell (p := ⟨q, 2, none⟩) hq1).trans d2
  have hqr : q < wr.heap.size := Nat.lt_of_lt_of_le hq1 hbel.size
  have fw : IntKind.i64.wrap ((fd : Int) + 1) = (fd : Int) + 1 := by rw [IntKind.wrap_i64]; omega
  have rw_ : IntKind.i64.wrap ((r : Int) + 1) = (r : Int) + 1 := by rw [IntKind.wrap_i64]; omega
  clear hbel hsc
  by_cases hlt : r < ML
  ·obtain ⟨go, oo, o, rfl, hgo, hoo, _, hmem, e0, e1, e2⟩ := HODr.out.get r hlt
   have hst := HSC.out.step HG.out.riseD (fun d hd => (HG.out.opens d hd).2.2.1) hoo
   have HST := Lib.hid hst
   obtain ⟨V, hV, v0, v1, v2, hal, hlt4⟩ := box_ds wr o.core o.fd o.num
   have d2v := (hal.cell (p := ⟨q, 2, none⟩) hqr).trans d2r
   have HBV := Lib.hid (Cv.next HB.out hal)
   have k0 : (0 : Int) ≤ (r : Int) := by omega
   have k1 : (r : Int) < (ML : Int) := by omega
   clear hst hal hmem hoo
   by_cases hA : o.core < CO
   ·have qa : decide (o.core < CO) = true := decide_eq_true hA
    have qb : (o.core == CO) = false := by rw [beq_eq_false_iff_ne]; omega
    have HNX := Lib.hid (HST.out.1 hA)
    clear hA
    go_wp2_with fail
    go_quiet (fail)
    go_wp2_with fail
    go_quiet (fail)
    go_wp2_with fail
    go_roundw
    case rel => exact ⟨r + 1, fd, r + 1, by go_num, rfl, by go_num, by omega, by omega, Cv.next HBV.out ((Cv.drewN_below (Below.refl _ _) _)), HNX.out⟩
    case measure => simp [intOf]; omega
   ·by_cases hB2 : o.core = CO ∧ o.fd = (fd : Int)
    ·skip
     have qa : decide (o.core < CO) = false := decide_eq_false hA
     have qb : (o.core == CO) = true := by rw [beq_iff_eq]; exact hB2.1
     have qc : (o.fd == (fd : Int)) = true := by rw [beq_iff_eq]; exact hB2.2
     have HNX := Lib.hid (HST.out.2.1 hA hB2.1 hB2.2)
     clear hA hB2
     go_wp2_with fail
     go_quiet (fail)
     go_wp2_with fail
     go_quiet (fail)
     go_wp2_with fail
     go_roundw
     case rel => exact ⟨r + 1, fd + 1, r + 1, by go_num, by first | rfl | go_num, by first | rfl | go_num, by omega, by omega, Cv.next HBV.out ((Cv.drewN_below (Below.refl _ _) _)), HNX.out⟩
     case measure => simp [intOf]; omega
    ·by_cases hC2 : o.core = CO
     ·skip
      have qa : decide (o.core < CO) = false := decide_eq_false hA
      have qb : (o.core == CO) = true := by rw [beq_iff_eq]; exact hC2
      have qc : (o.fd == (fd : Int)) = false := by rw [beq_eq_false_iff_ne]; exact fun h => hB2 ⟨hC2, h⟩
      have HNX := Lib.hid (HST.out.2.2 hA hB2)
      clear hA hB2 hC2
      go_wp2_with fail
      go_quiet (fail)
      go_wp2_with fail
      go_quiet (fail)
      go_wp2_with fail
      go_roundw
      case rel => exact ⟨r + 1, fd, at_, by go_num, by first | rfl | go_num, by first | rfl | go_num, by omega, by omega, Cv.next HBV.out ((Cv.drewN_below (Below.refl _ _) _)), HNX.out⟩
      case measure => simp [intOf]; omega
     ·skip
      have qa : decide (o.core < CO) = false := decide_eq_false hA
      have qb : (o.core == CO) = false := by rw [beq_eq_false_iff_ne]; exact hC2
      have HNX := Lib.hid (HST.out.2.2 hA hB2)
      clear hA hB2 hC2
      go_wp2_with fail
      go_quiet (fail)
      go_wp2_with fail
      go_quiet (fail)
      go_wp2_with fail
      go_roundw
      case rel => exact ⟨r + 1, fd, at_, by go_num, by first | rfl | go_num, by first | rfl | go_num, by omega, by omega, Cv.next HBV.out ((Cv.drewN_below (Below.refl _ _) _)), HNX.out⟩
      case measure => simp [intOf]; omega
  ·have hrl : r = ML := by omega
   subst hrl
   have hend := HG.out.scan (core := CO) (fd := fd) (at_ := at_) (by rw [HML.out]; exact HSC.out)
   obtain ⟨hf4, hff, hput⟩ := hend
   have hr := HR2.out
   rw [HCO.out, hff] at hr
   have HR3 := Lib.hid hr
   have HPUT := Lib.hid hput
   have hatl := HSC.out.le
   have q9 : decide ((r : Int) < (r : Int)) = false := by rw [decide_eq_false_iff_not]; omega
   clear hr hff hput
   by_cases h4 : fd = 4
   ·have hr := HR3.out
    rw [if_pos h4] at hr
    have q10 : decide ((4 : Int) ≤ (fd : Int)) = true := by rw [decide_eq_true_eq]; omega
    subst h4
    go_wp2_with fail
    refine (throw_yes _ _).mono ?_
    rintro e3 w3 ⟨rfl, rfl⟩
    go_wp2_with fail
    exact panic_end rfl (HNr.out.fail (by rw [← hr]; simp) (by rw [← hr]))
   have hr := HR3.out
   rw [if_neg h4] at hr
   have HR4 := Lib.hid hr
   have q10 : decide ((4 : Int) ≤ (fd : Int)) = false := by rw [decide_eq_false_iff_not]; omega
   have x0r := (HB.out.cell (p := ⟨g, i * 4, none⟩) hgl).trans x0
   have s1r := HNr.out.own.s1
   rw [HVO.out, HML.out] at s1r
   clear hr
   go_wp2_with fail
   refine (throw_no _ _).mono ?_
   rintro e3 w3 ⟨rfl, rfl⟩
   go_wp2_with fail
   obtain ⟨V, hV⟩ : ∃ V, wr.drew.alloc (.cells #[.int .i64 CO, .int .i64 (fd : Int), .int .i64 x.num] 97) = V := ⟨_, rfl⟩
   have hal : Below wr.heap.size wr V := by rw [← hV]; exact (Cv.drewN_below (Below.refl _ _) 1).alloc (Nat.le_refl _) _
   have hbv : V.heap[wr.heap.size]? = some (.cells #[.int .i64 CO, .int .i64 (fd : Int), .int .i64 x.num] 97 (0, 0)) := by rw [← hV]; exact Go.heap_alloc_new wr.drew _
   have hgr_ : g < wr.heap.size := Nat.lt_of_lt_of_le hgl HB.out.size
   have hOV := HNr.out.own.below hal
   have hDV := HNr.out.doer.below hal
   have e0V := hDV.c0
   have e2V := hDV.c2
   rw [HCO.out] at e2V
   have x0V := (hal.cell (p := ⟨g, i * 4, none⟩) hgr_).trans x0r
   have f1V := hOV.s1
   rw [HVO.out, HML.out] at f1V
   have fpV : V.frozen? ⟨p, 1, none⟩ = false := frozen_of_row V p 1 _ _ hOV.cell
   have hqV := hDV.lt
   have hpV := hOV.lt
   have hgV : g < V.heap.size := Nat.lt_of_lt_of_le hgr_ hal.size
   have hqp : q ≠ p := HNr.out.ne
   have hBV : B ≤ V.heap.size := Nat.le_trans HNr.out.hB' hal.size
   have hrow : RowAt B V 97 3 (.slice AO r cO) r (s.opn.flatMap dsV) := by
    have h := hOV.rowO
    rwa [HVO.out, HML.out] at h
   have hvb : rowBlk (.slice AO r cO) ≠ some wr.heap.size := fun e => by
    have h := HNr.out.own.rowO
    rw [HVO.out, HML.out] at h
    have := (h.blk _ e).2.1
    omega
   have hnQ : some q ≠ rowBlk (.slice AO r cO) := fun e => by
    obtain ⟨_, _, c1, h1⟩ := hrow.blk q e.symm
    exact blk_ne hDV.cell h1 (by decide) rfl
   have hnP : some p ≠ rowBlk (.slice AO r cO) := fun e => by
    obtain ⟨_, _, c1, h1⟩ := hrow.blk p e.symm
    exact blk_ne hOV.cell h1 (by decide) rfl
   obtain ⟨c9', hc9⟩ : ∃ c1, V.heap[g]? = some (.cells c1 65 (0, 0)) := by
    obtain ⟨gg, _, cur, hvv, _, _, _, hgc, _⟩ := hOV.rowI.open_ (by
     have h1 := (List.getElem?_eq_some_iff.1 HX.out).1
     have h2 := congrArg List.length hOV.inos
     rw [List.length_map] at h2
     omega)
    rw [HVI.out] at hvv
    injection hvv with e1 _ _
    injection e1 with e1
    injection e1 with e1
    subst e1
    exact ⟨cur, hgc⟩
   have hnG : some g ≠ rowBlk (.slice AO r cO) := fun e => by
    obtain ⟨_, _, c1, h1⟩ := hrow.blk g e.symm
    exact blk_ne hc9 h1 (by decide) rfl
   have hgp : g ≠ p := blk_ne hc9 hOV.cell (by decide)
   have h1x : ∀ v ∈ [Value.int .i64 CO, .int .i64 (fd : Int), .int .i64 x.num], v.oneCell' = true := by intro v hv; simp at hv; rcases hv with rfl | rfl | rfl <;> rfl
   have hflat : (s.opn.flatMap dsV).take (at_ * 3) ++ [.int .i64 CO, .int .i64 (fd : Int), .int .i64 x.num] ++ (s.opn.flatMap dsV).drop (at_ * 3) = (putD s.opn ⟨CO, (fd : Int), x.num⟩).flatMap dsV := by
    rw [HPUT.out, flat_take dsV 3 (fun _ => rfl), flat_drop dsV 3 (fun _ => rfl), List.flatMap_append, List.flatMap_append]
    rfl
   have hpl : (putD s.opn ⟨CO, (fd : Int), x.num⟩).length = r + 1 := by rw [HPUT.out, List.length_append, List.length_append, List.length_take, List.length_drop, HML.out]; simp; omega
   have hsF : Sized { s with opn := putD s.opn ⟨CO, (fd : Int), x.num⟩ } := by
    have h := HSZ.out
    rw [← HR4.out] at h
    exact h
   have hR1 : R = ({ s with opn := putD s.opn ⟨CO, (fd : Int), x.num⟩ }, { fd := (fd : Int) }, true) := HR4.out.symm
   have HFL := Lib.hid hflat
   have HPL := Lib.hid hpl
   have HSF := Lib.hid hsF
   have HRF := Lib.hid hR1
   have HROW := Lib.hid hrow
   have HOV := Lib.hid hOV
   have HDV := Lib.hid hDV
   have HAL := Lib.hid hal
   have HBV := Lib.hid hbv
   have HVB := Lib.hid hvb
   have H1X := Lib.hid h1x
   clear hrow hOV hDV hal hbv hvb h1x hflat hpl hsF hR1 hc9 x0 x1 x2 x3 d0 d2 s1
   refine wp_region_held2 (S := (fun w' => w'.cell? ⟨q, 0, none⟩ = some (.pointer (some ⟨p, 0, none⟩)) ∧ w'.cell? ⟨q, 2, none⟩ = some (.int .i64 CO) ∧ w'.cell? ⟨p, 1, none⟩ = some (.slice AO r cO) ∧ w'.cell? ⟨g, i * 4, none⟩ = some (.int .i64 x.num))) 27 (by kernel_rfl) (by kernel_rfl) ?_
   have hHeld := (⟨HNr.out.doer.c0, HNr.out.doer.c2.trans (by rw [HCO.out]), s1r, x0r⟩ : (fun w' => w'.cell? ⟨q, 0, none⟩ = some (.pointer (some ⟨p, 0, none⟩)) ∧ w'.cell? ⟨q, 2, none⟩ = some (.int .i64 CO) ∧ w'.cell? ⟨p, 1, none⟩ = some (.slice AO r cO) ∧ w'.cell? ⟨g, i * 4, none⟩ = some (.int .i64 x.num)) wr.drew)
   intro hh
   try simp only [List.size_toArray, List.length_cons, List.length_nil, Nat.zero_add, Nat.reduceAdd, Array.replicate, List.replicate]
   refine held2_take hh (i := 0) (oi := _) (v := ?tv0) rfl (by decide) (by kernel_rfl) (by kernel_rfl) (fun _ _ _ h => h) (Or.inl ⟨by kernel_rfl, ?ty0⟩) hHeld ?tr0
   case ty0 => (intro w7 hS7; obtain ⟨s0, s1, s2, s3⟩ := hS7; go_simp; try (with_reducible rfl))
   clear hh; intro hh
   try simp only [Act.put, List.setIfInBounds_toArray, List.set_cons_zero, List.set_cons_succ]
   refine held2_take hh (i := 1) (oi := _) (v := ?tv1) rfl (by decide) (by kernel_rfl) (by kernel_rfl) (fun _ _ _ h => h) (Or.inl ⟨by kernel_rfl, ?ty1⟩) hHeld ?tr1
   case ty1 => (intro w7 hS7; obtain ⟨s0, s1, s2, s3⟩ := hS7; go_simp; try (with_reducible rfl))
   clear hh; intro hh
   try simp only [Act.put, List.setIfInBounds_toArray, List.set_cons_zero, List.set_cons_succ]
   refine held2_take hh (i := 2) (oi := _) (v := ?tv2) rfl (by decide) (by kernel_rfl) (by kernel_rfl) (fun _ _ _ h => h) (Or.inl ⟨by kernel_rfl, ?ty2⟩) hHeld ?tr2
   case ty2 => (intro w7 hS7; obtain ⟨s0, s1, s2, s3⟩ := hS7; go_simp; try (with_reducible rfl))
   clear hh; intro hh
   try simp only [Act.put, List.setIfInBounds_toArray, List.set_cons_zero, List.set_cons_succ]
   refine held2_take hh (i := 3) (oi := _) (v := ?tv3) rfl (by decide) (by kernel_rfl) (by kernel_rfl) (fun _ _ _ h => h) (Or.inl ⟨by kernel_rfl, ?ty3⟩) hHeld ?tr3
   case ty3 => (intro w7 hS7; obtain ⟨s0, s1, s2, s3⟩ := hS7; go_simp; try (with_reducible rfl))
   clear hh; intro hh
   try simp only [Act.put, List.setIfInBounds_toArray, List.set_cons_zero, List.set_cons_succ]
   refine held2_take hh (i := 4) (oi := _) (v := ?tv4) rfl (by decide) (by kernel_rfl) (by kernel_rfl) (fun _ _ _ h => h) (Or.inl ⟨by kernel_rfl, ?ty4⟩) hHeld ?tr4
   case ty4 => (intro w7 hS7; obtain ⟨s0, s1, s2, s3⟩ := hS7; go_simp; try (with_reducible rfl))
   clear hh; intro hh
   try simp only [Act.put, List.setIfInBounds_toArray, List.set_cons_zero, List.set_cons_succ]
   refine held2_take hh (i := 5) (oi := _) (v := ?tv5) rfl (by decide) (by kernel_rfl) (by kernel_rfl) (fun _ _ _ h => h) (Or.inl ⟨by kernel_rfl, ?ty5⟩) hHeld ?tr5
   case ty5 => (intro w7 hS7; obtain ⟨s0, s1, s2, s3⟩ := hS7; go_simp; try (with_reducible rfl))
   clear hh; intro hh
   try simp only [Act.put, List.setIfInBounds_toArray, List.set_cons_zero, List.set_cons_succ]
   refine held2_take hh (i := 6) (oi := _) (v := ?tv6) rfl (by decide) (by kernel_rfl) (by kernel_rfl) (fun _ _ _ h => h) (Or.inl ⟨by kernel_rfl, ?ty6⟩) hHeld ?tr6
   case ty6 => (intro w7 hS7; obtain ⟨s0, s1, s2, s3⟩ := hS7; go_simp; try (with_reducible rfl))
   clear hh; intro hh
   try simp only [Act.put, List.setIfInBounds_toArray, List.set_cons_zero, List.set_cons_succ]
   refine held2_take hh (i := 7) (oi := _) (v := ?tv7) rfl (by decide) (by kernel_rfl) (by kernel_rfl) (fun _ _ _ h => h) (Or.inl ⟨by kernel_rfl, ?ty7⟩) hHeld ?tr7
   case ty7 => (intro w7 hS7; obtain ⟨s0, s1, s2, s3⟩ := hS7; go_simp; try (with_reducible rfl))
   clear hh; intro hh
   try simp only [Act.put, List.setIfInBounds_toArray, List.set_cons_zero, List.set_cons_succ]
   refine held2_take hh (i := 8) (oi := _) (v := ?tv8) rfl (by decide) (by kernel_rfl) (by kernel_rfl) (fun _ _ _ h => h) (Or.inl ⟨by kernel_rfl, ?ty8⟩) hHeld ?tr8
   case ty8 => (intro w7 hS7; obtain ⟨s0, s1, s2, s3⟩ := hS7; go_simp; try (with_reducible rfl))
   clear hh; intro hh
   try simp only [Act.put, List.setIfInBounds_toArray, List.set_cons_zero, List.set_cons_succ]
   refine held2_take hh (i := 9) (oi := _) (v := ?tv9) rfl (by decide) (by kernel_rfl) (by kernel_rfl) (fun _ _ _ h => h) (Or.inl ⟨by kernel_rfl, ?ty9⟩) hHeld ?tr9
   case ty9 => (intro w7 hS7; obtain ⟨s0, s1, s2, s3⟩ := hS7; go_simp; try (with_reducible rfl))
   clear hh; intro hh
   try simp only [Act.put, List.setIfInBounds_toArray, List.set_cons_zero, List.set_cons_succ]
   refine held2_take hh (i := 10) (oi := _) (v := ?tv10) rfl (by decide) (by kernel_rfl) (by kernel_rfl) (fun _ _ _ h => h) (Or.inl ⟨by kernel_rfl, ?ty10⟩) hHeld ?tr10
   case ty10 => (intro w7 hS7; obtain ⟨s0, s1, s2, s3⟩ := hS7; go_simp; try (with_reducible rfl))
   clear hh; intro hh
   try simp only [Act.put, List.setIfInBounds_toArray, List.set_cons_zero, List.set_cons_succ]
   refine held2_take hh (i := 11) (oi := _) (v := ?tv11) rfl (by decide) (by kernel_rfl) (by kernel_rfl) (fun _ _ _ h => h) (Or.inl ⟨by kernel_rfl, ?ty11⟩) hHeld ?tr11
   case ty11 => (intro w7 hS7; obtain ⟨s0, s1, s2, s3⟩ := hS7; go_simp; try (with_reducible rfl))
   clear hh; intro hh
   try simp only [Act.put, List.setIfInBounds_toArray, List.set_cons_zero, List.set_cons_succ]
   refine held2_take hh (i := 12) (oi := _) (v := ?tv12) rfl (by decide) (by kernel_rfl) (by kernel_rfl) (fun _ _ _ h => h) (Or.inl ⟨by kernel_rfl, ?ty12⟩) hHeld ?tr12
   case ty12 => (intro w7 hS7; obtain ⟨s0, s1, s2, s3⟩ := hS7; go_simp; try (with_reducible rfl))
   clear hh; intro hh
   try simp only [Act.put, List.setIfInBounds_toArray, List.set_cons_zero, List.set_cons_succ]
   refine held2_take hh (i := 13) (oi := _) (v := ?tv13) rfl (by decide) (by kernel_rfl) (by kernel_rfl) (fun _ _ _ h => h) (Or.inl ⟨by kernel_rfl, ?ty13⟩) hHeld ?tr13
   case ty13 => (intro w7 hS7; obtain ⟨s0, s1, s2, s3⟩ := hS7; go_simp; try (with_reducible rfl))
   clear hh; intro hh
   try simp only [Act.put, List.setIfInBounds_toArray, List.set_cons_zero, List.set_cons_succ]
   refine held2_take hh (i := 14) (oi := _) (v := ?tv14) rfl (by decide) (by kernel_rfl) (by kernel_rfl) (fun _ _ _ h => h) (Or.inl ⟨by kernel_rfl, ?ty14⟩) hHeld ?tr14
   case ty14 => (intro w7 hS7; obtain ⟨s0, s1, s2, s3⟩ := hS7; go_simp; try (with_reducible rfl))
   clear hh; intro hh
   try simp only [Act.put, List.setIfInBounds_toArray, List.set_cons_zero, List.set_cons_succ]
   refine held2_take hh (i := 15) (oi := _) (v := ?tv15) rfl (by decide) (by kernel_rfl) (by kernel_rfl) (fun _ _ _ h => h) (Or.inl ⟨by kernel_rfl, ?ty15⟩) hHeld ?tr15
   case ty15 => (intro w7 hS7; obtain ⟨s0, s1, s2, s3⟩ := hS7; go_simp; try (with_reducible rfl))
   clear hh; intro hh
   try simp only [Act.put, List.setIfInBounds_toArray, List.set_cons_zero, List.set_cons_succ]
   refine held2_take hh (i := 16) (oi := _) (v := ?tv16) rfl (by decide) (by kernel_rfl) (by kernel_rfl) (fun _ _ _ h => h) (Or.inl ⟨by kernel_rfl, ?ty16⟩) hHeld ?tr16
   case ty16 => (intro w7 hS7; obtain ⟨s0, s1, s2, s3⟩ := hS7; go_simp; try (with_reducible rfl))
   clear hh; intro hh
   try simp only [Act.put, List.setIfInBounds_toArray, List.set_cons_zero, List.set_cons_succ]
   refine held2_take hh (i := 17) (oi := _) (v := ?tv17) rfl (by decide) (by kernel_rfl) (by kernel_rfl) (fun _ _ _ h => h) (Or.inl ⟨by kernel_rfl, ?ty17⟩) hHeld ?tr17
   case ty17 => (intro w7 hS7; obtain ⟨s0, s1, s2, s3⟩ := hS7; go_simp; try (with_reducible rfl))
   clear hh; intro hh
   try simp only [Act.put, List.setIfInBounds_toArray, List.set_cons_zero, List.set_cons_succ]
   refine held2_take hh (i := 18) (oi := _) (v := ?tv18) rfl (by decide) (by kernel_rfl) (by kernel_rfl) (fun _ _ _ h => h) (Or.inl ⟨by kernel_rfl, ?ty18⟩) hHeld ?tr18
   case ty18 => (intro w7 hS7; obtain ⟨s0, s1, s2, s3⟩ := hS7; go_simp; try (with_reducible rfl))
   clear hh; intro hh
   try simp only [Act.put, List.setIfInBounds_toArray, List.set_cons_zero, List.set_cons_succ]
   refine held2_take hh (i := 19) (oi := _) (v := ?tv19) rfl (by decide) (by kernel_rfl) (by kernel_rfl) (fun _ _ _ h => h) (Or.inl ⟨by kernel_rfl, ?ty19⟩) hHeld ?tr19
   case ty19 => (intro w7 hS7; obtain ⟨s0, s1, s2, s3⟩ := hS7; go_simp; try (with_reducible rfl))
   clear hh; intro hh
   try simp only [Act.put, List.setIfInBounds_toArray, List.set_cons_zero, List.set_cons_succ]
   refine held2_take hh (i := 20) (oi := _) (v := ?tv20) rfl (by decide) (by kernel_rfl) (by kernel_rfl) (fun _ _ _ h => h) (Or.inl ⟨by kernel_rfl, ?ty20⟩) hHeld ?tr20
   case ty20 => (intro w7 hS7; obtain ⟨s0, s1, s2, s3⟩ := hS7; go_simp; try (with_reducible rfl))
   clear hh; intro hh
   try simp only [Act.put, List.setIfInBounds_toArray, List.set_cons_zero, List.set_cons_succ]
   refine held2_take hh (i := 21) (oi := _) (v := ?tv21) rfl (by decide) (by kernel_rfl) (by kernel_rfl) (fun _ _ _ h => h) (Or.inl ⟨by kernel_rfl, ?ty21⟩) hHeld ?tr21
   case ty21 => (intro w7 hS7; obtain ⟨s0, s1, s2, s3⟩ := hS7; go_simp; try (with_reducible rfl))
   clear hh; intro hh
   try simp only [Act.put, List.setIfInBounds_toArray, List.set_cons_zero, List.set_cons_succ]
   refine held2_take hh (i := 22) (oi := _) (v := ?tv22) rfl (by decide) (by kernel_rfl) (by kernel_rfl) (fun _ _ _ h => h) (Or.inl ⟨by kernel_rfl, ?ty22⟩) hHeld ?tr22
   case ty22 => (intro w7 hS7; obtain ⟨s0, s1, s2, s3⟩ := hS7; go_simp; try (with_reducible rfl))
   clear hh; intro hh
   try simp only [Act.put, List.setIfInBounds_toArray, List.set_cons_zero, List.set_cons_succ]
   refine held2_turn hh (i := 23) (oi := _) rfl (by decide) (by kernel_rfl) rfl ?_
   clear hh
   go_simp
   refine ⟨⟨e0V, e2V, f1V, x0V⟩, fun hh => ?_⟩
   try clear hHeld
   try simp only [Act.put, List.setIfInBounds_toArray, List.set_cons_zero, List.set_cons_succ]
   refine held2_turn hh (i := 24) (oi := _) rfl (by decide) (by kernel_rfl) rfl ?_
   clear hh
   go_simp
   go_at_call 137
   (refine (insD_any B r at_ wr.heap.size (.slice AO r cO) (s.opn.flatMap dsV) [.int .i64 CO, .int .i64 (fd : Int), .int .i64 x.num] V HROW.out hBV hatl (by omega) rfl HBV.out HVB.out H1X.out (one_ds _)).mono ?_; rintro e11 w11 ⟨v', rfl, hrow', hgr, hbl⟩; obtain ⟨A', c9, rfl, hok'⟩ := hrow'.slice; have q6 : w11.cell? ⟨q, 0, none⟩ = some (.pointer (some ⟨p, 0, none⟩)) := (World.cell?_of_block (a := ⟨q, 0, none⟩) (hgr.block q hqV hnQ)).trans e0V; have q7 : w11.cell? ⟨q, 2, none⟩ = some (.int .i64 CO) := (World.cell?_of_block (a := ⟨q, 2, none⟩) (hgr.block q hqV hnQ)).trans e2V; have q8 : w11.cell? ⟨g, i * 4, none⟩ = some (.int .i64 x.num) := (World.cell?_of_block (a := ⟨g, i * 4, none⟩) (hgr.block g hgV hnG)).trans x0V; have p6 : w11.cell? ⟨p, 1, none⟩ = some (.slice AO r cO) := (World.cell?_of_block (a := ⟨p, 1, none⟩) (hgr.block p hpV hnP)).trans f1V; have f6 : w11.frozen? ⟨p, 1, none⟩ = false := (World.frozen?_of_block (a := ⟨p, 1, none⟩) (hgr.block p hpV hnP)).trans fpV)
   refine ⟨⟨q6, q7, p6, q8⟩, fun hh => ?_⟩
   try clear hHeld
   have hHeld : (fun w' => w'.cell? ⟨q, 0, none⟩ = some (.pointer (some ⟨p, 0, none⟩)) ∧ w'.cell? ⟨q, 2, none⟩ = some (.int .i64 CO) ∧ w'.cell? ⟨p, 1, none⟩ = some (.slice AO r cO) ∧ w'.cell? ⟨g, i * 4, none⟩ = some (.int .i64 x.num)) w11 := ⟨q6, q7, p6, q8⟩
   try simp only [Act.put, List.setIfInBounds_toArray, List.set_cons_zero, List.set_cons_succ]
   refine held2_take hh (i := 25) (oi := _) (v := ?tv25) rfl (by decide) (by kernel_rfl) (by kernel_rfl) (fun _ _ _ h => h) (Or.inl ⟨by kernel_rfl, ?ty25⟩) hHeld ?tr25
   case ty25 => (intro w7 hS7; obtain ⟨s0, s1, s2, s3⟩ := hS7; go_simp; try (with_reducible rfl))
   clear hh; intro hh
   try simp only [Act.put, List.setIfInBounds_toArray, List.set_cons_zero, List.set_cons_succ]
   refine held2_take hh (i := 26) (oi := _) (v := ?tv26) rfl (by decide) (by kernel_rfl) (by kernel_rfl) (fun _ _ _ h => h) (Or.inl ⟨by kernel_rfl, ?ty26⟩) hHeld ?tr26
   case ty26 => (intro w7 hS7; obtain ⟨s0, s1, s2, s3⟩ := hS7; go_simp; try (with_reducible rfl))
   clear hh; intro hh
   try simp only [Act.put, List.setIfInBounds_toArray, List.set_cons_zero, List.set_cons_succ]
   refine held2_end (oi := _) rfl (by kernel_rfl) (by kernel_rfl) rfl ?_
   go_simp
   clear hh
   all_goals (
    rw [HFL.out] at hrow'
    rw [← HPL.out] at hrow' hbl
    have hgr2 : V.grownBy w11 (rowBlk vO) := by rw [HVO.out, HML.out]; exact hgr
    have hfin := HOV.out.setO hBV hgr2 hrow' HSF.out
    rw [HPL.out] at hfin
    obtain ⟨W, hW⟩ : ∃ W, w11.setCell ⟨p, 1, none⟩ (.slice A' (r + 1) c9) = W := ⟨_, rfl⟩
    rw [hW] at hfin ⊢
    have hDW := HDV.out.turns HNr.out.ne hfin.2
    have g10 := hDW.r10
    have z10 := hDW.fz 10
    have HFIN := Lib.hid hfin
    have HDW := Lib.hid hDW
    clear hfin hrow' hgr hgr2 hbl hW hDW
    go_wp2_with fail
    go_returns
    refine ⟨((HNr.out.low.trans (HAL.out.mono HNr.out.hB')).trans HFIN.out.2.below).trans (low_set HNr.out.hq), .inr ⟨by rw [HRF.out], rfl, ⟨zs, vI, _, vM, by rw [HRF.out]; exact HDW.out.set_own HFIN.out.1⟩, .slice none 0 0, by rw [HRF.out]; exact HDW.out.setFd _, by rw [HRF.out]; exact ⟨rfl, .inl ⟨none, rfl, rfl⟩⟩⟩⟩)
end Go.Proofs.YtilkhmhgjbhfnaaGreatDoor
