/- Parts of the proof, side by side: ExtTail, Held2. -/
import Derived.Test.YtndcloohcfhejaaGreatM01
import Derived.OrdersHeld
set_option linter.unusedVariables false
set_option linter.unusedSimpArgs false
namespace Go.Proofs.YtndcloohcfhejaaGreat
open Go.RowKit
section
variable {P : Program} {md : Region.Mode} {ops : Array Oper} {C : World → Prop}
def HeadQ (P : Program) (md : Region.Mode) (ops : Array Oper) (C : World → Prop) (n : Nat) (L : Array Bool → Act → Prop) : Nat → Array Bool → Act → Prop
 | 0, bs, a => L bs a
 | f + 1, bs, a => Region.ready md ops bs ≠ [] ∧ ∀ i ∈ Region.ready md ops bs, i < n ∧ qOp P ops C i (HeadQ P md ops C n L f (bs.setIfInBounds i true)) a
theorem HeadQ.any {n g : Nat} {L : Array Bool → Act → Prop} {Q : Exit → Act → World → Prop} (hL : ∀ bs a w, C w → L bs a → wpAny P md ops Q g bs a w) (f : Nat) :
  ∀ bs a w, C w → HeadQ P md ops C n L f bs a → wpAny P md ops Q (f + g) bs a w := by
 induction f with
 | zero => intro bs a w hw h; rw [Nat.zero_add]; exact hL bs a w hw h
 | succ f ih =>
  intro bs a w hw h
  rw [Nat.succ_add]
  exact ⟨fun h0 => absurd h0 h.1, fun i hi => wpOp_of_qOp hw (fun a' w' hw' h' => ih _ a' w' hw' h') (h.2 i hi).2⟩
theorem HeadQ.take {n i : Nat} {o : Oper} {v : Value} {L : Array Bool → Act → Prop} (ho : ops[i]? = some o) (hsel : ∀ (j : Nat) (o : Oper) cs b, ops[j]? = some o → o.op ≠ .select cs b)
  (hs : Region.sinkB md ops n = true) (hc : Region.chainB md ops n = true) (hn : n < ops.size) (hin : i < n) (hL : ∀ bs a, L bs a → ∀ j ∈ Region.ready md ops bs, n ≤ j) (f : Nat) :
  ∀ (bs : Array Bool) (a : Act), HeadInv md ops n bs →
   (∀ j oj, ops[j]? = some oj → j ≠ i → bs.getD j true = false → (∀ e ∈ oj.after, Region.binds md e = true → e.on ≠ i) → o.apart ops oj = true) →
   i ∈ Region.ready md ops bs → YieldsIn P ops C o v a → HeadQ P md ops C n L f (bs.setIfInBounds i true) (a.put o.dst v) → HeadQ P md ops C n L (f + 1) bs a := by
 induction f with
 | zero =>
  intro bs a inv hap hr hy H
  refine ⟨List.ne_nil_of_mem hr, fun j hj => ?_⟩
  have hjn : j < n := by
   apply Classical.byContradiction
   intro h
   exact tail_waits hs hc hn inv _ i rfl hin (mem_ready.1 hr).1 j (by omega) hj
  refine ⟨hjn, ?_⟩
  by_cases e : j = i
  ·subst e; exact hy.qOp ho H
  ·have := hL _ _ H j (ready_mono hj e); omega
 | succ f ih =>
  intro bs a inv hap hr hy H
  refine ⟨List.ne_nil_of_mem hr, fun j hj => ?_⟩
  have hjn : j < n := by
   apply Classical.byContradiction
   intro h
   exact tail_waits hs hc hn inv _ i rfl hin (mem_ready.1 hr).1 j (by omega) hj
  refine ⟨hjn, ?_⟩
  by_cases e : j = i
  ·subst e; exact hy.qOp ho H
  obtain ⟨hju, oj, hoj, hall⟩ := mem_ready.1 hj
  have hno : ∀ e ∈ oj.after, Region.binds md e = true → e.on ≠ i := by
   intro e he hb h
   have h1 := hall e he hb
   rw [h, getD_both (mem_ready.1 hr).1] at h1
   cases h1
  refine qOp_mono (fun a' h3 => ih (bs.setIfInBounds j true) a' (inv.set hj hjn) ?_ (ready_mono hr (Ne.symm e)) h3.1 ?_)
   (qOp_put hoj (hap j oj hoj e hju hno) (fun cs b => hsel i o cs b ho) (fun cs b => hsel j oj cs b hoj) hy (H.2 j (ready_mono hj e)).2)
  ·intro k ok hk hki hku hkno
   refine hap k ok hk hki ?_ hkno
   by_cases h : j = k
   ·subst h; exact hju
   ·rw [getD_set_ne true h] at hku; exact hku
  ·rw [Array.setIfInBounds_comm _ _ e]; exact h3.2
theorem HeadQ.lex {n g : Nat} {T : Act → Prop} (hsel : Region.noSelect ops = true) (hs : Region.sinkB md ops n = true) (hc : Region.chainB md ops n = true) (hn : n < ops.size) :
  ∀ (l : List Oper) (k : Nat) (bs : Array Bool) (a : Act), (∀ j, j < l.length → l[j]? = ops[k + j]?) → k + l.length = n → HeadInv md ops n bs →
  Region.lexHead md ops g l.length k bs = true → wpQuiet P ops C T l a → HeadQ P md ops C n (fun bs' a' => Region.seqB md ops g n bs' = true ∧ T a') l.length bs a := by
 intro l
 induction l with
 | nil =>
  intro k bs a _ hk _ hB h
  have e : k = n := by simpa using hk
  subst e
  exact ⟨by simpa [Region.lexHead] using hB, h⟩
 | cons o l ih =>
  intro k bs a hl hk inv hB h
  have ho : ops[k]? = some o := by simpa using (hl 0 (by simp)).symm
  simp only [List.length_cons, Region.lexHead, Bool.and_eq_true] at hB
  have hr : k ∈ Region.ready md ops bs := by simpa using hB.1.1
  have hkn : k < n := by simp only [List.length_cons] at hk; omega
  have hq : qOp P ops C k (wpQuiet P ops C T l) a := by unfold qOp; simp only [ho]; exact h
  obtain ⟨v, hy, hK⟩ := yieldsIn_of_qOp ho hq
  refine HeadQ.take ho (Region.noSelect_spec hsel) hs hc hn hkn (fun bs' a' hL => seqB_ready hL.1) l.length bs a inv (Region.free_spec ho hB.1.2) hr hy
   (ih (k + 1) _ _ ?_ (by simp only [List.length_cons] at hk; omega) (inv.set hr hkn) hB.2 hK)
  intro j hj
  have := hl (j + 1) (by simp; omega)
  rw [List.getElem?_cons_succ] at this
  rw [this, Nat.add_right_comm, Nat.add_assoc]
end
theorem wp_region_class_tail {P : Program} {C : World → Prop} {id : Nat} {Q : Exit → Act → World → Prop} {a : Act} {w : World} {l : List Oper} (n : Nat) (hm : P.follows .mixedOrders = true) (hB : Region.lexTailB .any l.toArray n = true) (hC : C w.drew)
  (h : wpQuiet P l.toArray C (fun a' => ∀ w', C w' → wpList P l.toArray Q (l.drop n) a' w') (l.take n) a) : (Code.region id l.toArray true).wp P Q a w := by
 simp only [Region.lexTailB, Bool.and_eq_true, decide_eq_true_eq] at hB
 obtain ⟨⟨⟨⟨hsel, hn⟩, hs⟩, hc⟩, hlex⟩ := hB
 have hn' : n < l.length := by simpa using hn
 have htl : (l.take n).length = n := by simp; omega
 have hdl : (l.drop n).length = l.toArray.size - n := by simp
 have inv0 : HeadInv .any l.toArray n (Array.replicate l.toArray.size false) :=
  ⟨by simp, fun j oj _ h0 => (by rw [getD_replicate_false] at h0; cases h0), fun t _ ht => getD_in (by simpa using ht) (getD_replicate_false _ _)⟩
 have H := HeadQ.lex (C := C) (md := .any) (g := l.toArray.size - n) hsel hs hc hn (l.take n) 0 _ a (fun j hj => by
  have hj' : j < n := by rw [htl] at hj; exact hj
  simp [hj']) (by simpa using htl) inv0 (by rw [htl]; exact hlex) h
 have H2 := HeadQ.any (Q := Q) (g := l.toArray.size - n) (L := fun bs' a' => Region.seqB .any l.toArray (l.toArray.size - n) n bs' = true ∧ ∀ w', C w' → wpList P l.toArray Q (l.drop n) a' w') (fun bs a' w' hw' hL => by
  have := wpAny_of_seq (md := .any) (Q' := Q) (l.drop n) n bs a' w' (fun j => by simp [List.getElem?_drop]) (by rw [hdl]; exact hL.1) (hL.2 w' hw')
  rwa [hdl] at this) _ _ _ _ hC H
 rw [htl, show n + (l.toArray.size - n) = l.toArray.size by omega] at H2
 exact wp_region_any hm H2
theorem wp_region_ext_tail {P : Program} {id : Nat} {Q : Exit → Act → World → Prop} {a : Act} {w : World} {l : List Oper} (n : Nat) (hm : P.follows .mixedOrders = true) (hB : Region.lexTailB .any l.toArray n = true)
  (h : wpQuiet P l.toArray (fun w' => ∃ x : Ext w, w' = x.w) (fun a' => ∀ x : Ext w, wpList P l.toArray Q (l.drop n) a' x.w) (l.take n) a) : (Code.region id l.toArray true).wp P Q a w :=
 wp_region_class_tail (C := fun w' => ∃ x : Ext w, w' = x.w) n hm hB ⟨⟨w.drew, Cv.drewN_below (Below.refl _ _) 1⟩, rfl⟩ (by
  have e : (fun a' => ∀ w', (∃ x : Ext w, w' = x.w) → wpList P l.toArray Q (l.drop n) a' w') = (fun a' => ∀ x : Ext w, wpList P l.toArray Q (l.drop n) a' x.w) := by
   funext a'
   exact propext ⟨fun h x => h _ ⟨x, rfl⟩, fun h w' ⟨x, hx⟩ => hx ▸ h x⟩
  rw [e]; exact h)
section
variable {P : Program} {md : Region.Mode} {ops : Array Oper} {Q : Exit → Act → World → Prop} {S : World → Prop}
def wpAnyH2 (P : Program) (md : Region.Mode) (ops : Array Oper) (Q : Exit → Act → World → Prop) (S : World → Prop) (n : Nat) : Nat → Array Bool → Act → World → Prop
 | 0, bs, a, w => Region.ready md ops bs = [] ∧ Q .normal a w
 | f + 1, bs, a, w => (Region.ready md ops bs = [] → Q .normal a w) ∧ ∀ i ∈ Region.ready md ops bs, wpOp P ops Q i (fun a' w' => (i = n ∨ S w') ∧ wpAnyH2 P md ops Q S n f (bs.setIfInBounds i true) a' w') a w
theorem wpAny_of_held2 {n : Nat} : ∀ (f : Nat) (bs : Array Bool) (a : Act) (w : World), wpAnyH2 P md ops Q S n f bs a w → wpAny P md ops Q f bs a w
 | 0, _, _, _, h => h
 | f + 1, _, _, _, h => ⟨h.1, fun i hi => wpOp_mono (fun a' w' h' => wpAny_of_held2 f _ a' w' h'.2) (h.2 i hi)⟩
theorem held2_first {n i : Nat} {oi : Oper} {v : Value} (hi : ops[i]? = some oi) (hin : i < n) (hn : n < ops.size) (hsel : ∀ (j : Nat) (o : Oper) cs b, ops[j]? = some o → o.op ≠ .select cs b)
  (hs : Region.sinkB md ops n = true) (hc : Region.chainB md ops n = true) (hlast : n + 1 = ops.size) (hQ : ∀ c a w, Q (.panic c) (a.put oi.dst v) w → Q (.panic c) a w) :
  ∀ (f : Nat) (bs : Array Bool) (a : Act) (w : World), HeadInv md ops n bs →
   (∀ j oj, ops[j]? = some oj → j ≠ i → bs.getD j true = false → (∀ e ∈ oj.after, Region.binds md e = true → e.on ≠ i) → oi.apart ops oj = true) →
   i ∈ Region.ready md ops bs → YieldsIf P ops S oi v a → S w →
   wpAnyH2 P md ops Q S n f (bs.setIfInBounds i true) (a.put oi.dst v) w → wpAnyH2 P md ops Q S n (f + 1) bs a w := by
 intro f
 induction f with
 | zero =>
  intro bs a w inv _ hr hy hS H
  refine ⟨fun h => (by rw [h] at hr; cases hr), fun j hj => ?_⟩
  by_cases e : j = i
  ·subst e; exact hy.wpOp hi hS ⟨.inr hS, H⟩
  ·have := ready_mono hj e
   rw [H.1] at this
   cases this
 | succ f ih =>
  intro bs a w inv hfree hr hy hS H
  have hun := (mem_ready.1 hr).1
  refine ⟨fun h => (by rw [h] at hr; cases hr), fun j hj => ?_⟩
  have hjn : j < n := by
   apply Classical.byContradiction
   intro h
   exact tail_waits hs hc hn inv _ i rfl hin hun j (by omega) hj
  by_cases e : j = i
  ·subst e; exact hy.wpOp hi hS ⟨.inr hS, H⟩
  ·have h1 := H.2 j (ready_mono hj e)
   obtain ⟨hjun, oj, hoj, hall⟩ := mem_ready.1 hj
   have hnot : ∀ e ∈ oj.after, Region.binds md e = true → e.on ≠ i := fun e he hb heq => by
    have h1 := hall e he hb
    rw [heq, getD_both hun] at h1
    cases h1
   have h2 := wpOp_putIf hoj (hfree j oj hoj e hjun hnot) (fun cs b => hsel i oi cs b hi) (fun cs b => hsel j oj cs b hoj) hQ hy h1
   have hfree' : ∀ k ok, ops[k]? = some ok → k ≠ i → (bs.setIfInBounds j true).getD k true = false →
     (∀ e ∈ ok.after, Region.binds md e = true → e.on ≠ i) → oi.apart ops ok = true := fun k ok hk hki hku hkno => by
    refine hfree k ok hk hki ?_ hkno
    by_cases h : j = k
    ·subst h; exact hjun
    ·rw [getD_set_ne true h] at hku; exact hku
   refine wpOp_mono (fun a' w' h3 => ?_) h2
   have hSw : S w' := h3.2.1.resolve_left (by omega)
   refine ⟨.inr hSw, ih (bs.setIfInBounds j true) a' w' (inv.set hj hjn) hfree' (ready_mono hr (Ne.symm e)) h3.1 hSw ?_⟩
   rw [Array.setIfInBounds_comm _ _ e]
   exact h3.2.2
def Region.held2B (md : Region.Mode) (ops : Array Oper) (n : Nat) : Bool := Region.noSelect ops && Region.sinkB md ops n && Region.chainB md ops n && decide (n + 1 = ops.size)
structure Held2 (md : Region.Mode) (ops : Array Oper) (n : Nat) (bs : Array Bool) : Prop where
 inv : HeadInv md ops n bs
 text : Region.held2B md ops n = true
theorem Held2.at_ {n : Nat} {bs : Array Bool} (h : Held2 md ops n bs) : Region.noSelect ops = true ∧ Region.sinkB md ops n = true ∧ Region.chainB md ops n = true ∧ n + 1 = ops.size := by
 have h1 := h.text
 unfold Region.held2B at h1
 simp only [Bool.and_eq_true, decide_eq_true_eq] at h1
 exact ⟨h1.1.1.1, h1.1.1.2, h1.1.2, h1.2⟩
theorem held2_take {n i : Nat} {oi : Oper} {v : Value} {f : Nat} {bs : Array Bool} {a : Act} {w : World} (hh : Held2 md ops n bs) (hi : ops[i]? = some oi) (hin : i < n)
  (hf : Region.free md ops bs i = true) (hr : (Region.ready md ops bs).contains i = true)
  (hQ : ∀ c a w, Q (.panic c) (a.put oi.dst v) w → Q (.panic c) a w) (hy : YieldsIf P ops S oi v a) (hS : S w)
  (h : Held2 md ops n (bs.setIfInBounds i true) → wpAnyH2 P md ops Q S n f (bs.setIfInBounds i true) (a.put oi.dst v) w) : wpAnyH2 P md ops Q S n (f + 1) bs a w := by
 obtain ⟨h1, h2, h3, h4⟩ := hh.at_
 have hr' : i ∈ Region.ready md ops bs := by simpa using hr
 exact held2_first hi hin (by omega) (Region.noSelect_spec h1) h2 h3 h4 hQ f bs a w hh.inv (Region.free_spec hi hf) hr' hy hS (h ⟨hh.inv.set hr' hin, hh.text⟩)
def Nx (P : Program) (md : Region.Mode) (ops : Array Oper) (Q : Exit → Act → World → Prop) (S : World → Prop) (n f : Nat) (bs : Array Bool) : Exit → Act → World → Prop
 | .normal, a, w => S w ∧ (Held2 md ops n bs → wpAnyH2 P md ops Q S n f bs a w)
 | e, a, w => Q e a w
theorem held2_turn {n i : Nat} {oi : Oper} {f : Nat} {bs : Array Bool} {a : Act} {w : World} (hh : Held2 md ops n bs) (hi : ops[i]? = some oi) (hin : i < n) (hr : Region.ready md ops bs = [i]) (hg : oi.guard = none)
  (h : Oper.wp P oi a w (fun a' w' => Nx P md ops Q S n f (bs.setIfInBounds i true) .normal a' w') Q) : wpAnyH2 P md ops Q S n (f + 1) bs a w := by
 refine ⟨fun h0 => (by rw [hr] at h0; cases h0), fun j hj => ?_⟩
 rw [hr] at hj
 have hji : j = i := by simpa using hj
 subst hji
 have hr' : j ∈ Region.ready md ops bs := by rw [hr]; simp
 have hh2 : Held2 md ops n (bs.setIfInBounds j true) := ⟨hh.inv.set hr' hin, hh.text⟩
 unfold wpOp
 simp only [hi]
 rw [if_pos (by simp [Region.wanted, hg])]
 exact .inl (Oper.wp_mono (fun a' w' h' => ⟨.inr h'.1, h'.2 hh2⟩) h)
theorem held2_end {n : Nat} {oi : Oper} {bs : Array Bool} {a : Act} {w : World} (hi : ops[n]? = some oi) (hr : Region.ready md ops bs = [n]) (hr2 : Region.ready md ops (bs.setIfInBounds n true) = []) (hg : oi.guard = none)
  (h : Oper.wp P oi a w (fun a' w' => Q .normal a' w') Q) : wpAnyH2 P md ops Q S n 1 bs a w := by
 refine ⟨fun h0 => (by rw [hr] at h0; cases h0), fun j hj => ?_⟩
 rw [hr] at hj
 have hjn : j = n := by simpa using hj
 subst hjn
 unfold wpOp
 simp only [hi]
 rw [if_pos (by simp [Region.wanted, hg])]
 exact .inl (Oper.wp_mono (fun a' w' h' => ⟨.inl (by trivial), hr2, h'⟩) h)
theorem wp_region_held2 {id : Nat} {a : Act} {w : World} (n : Nat) (hm : P.follows .mixedOrders = true) (hB : Region.held2B .any ops n = true)
  (h : Held2 .any ops n (Array.replicate ops.size false) → wpAnyH2 P .any ops Q S n ops.size (Array.replicate ops.size false) a w.drew) : (Code.region id ops true).wp P Q a w := by
 have inv0 : HeadInv .any ops n (Array.replicate ops.size false) :=
  ⟨by simp, fun j oj _ h0 => (by rw [getD_replicate_false] at h0; cases h0), fun t _ ht => getD_in (by simpa using ht) (getD_replicate_false _ _)⟩
 exact wp_region_any hm (wpAny_of_held2 _ _ _ _ (h ⟨inv0, hB⟩))
end
end Go.Proofs.YtndcloohcfhejaaGreat
