/- Parts of the proof, side by side: MoEntry, StOwn, FsPut, FsDrop. -/
import Derived.Test.YtghlgnklnbcppaaM05
import Derived.Lib.Bytealg
import Derived.Test.YtghlgnklnbcppaaM01
import Derived.Laws.Rows
import Derived.Test.YtghlgnklnbcppaaM03
import Derived.Handy
set_option linter.unusedVariables false
set_option linter.unusedSimpArgs false
set_option linter.unusedVariables false
set_option linter.unusedSimpArgs false
namespace Go.Proofs.Ytghlgnklnbcppaa
open Go.RowKit
def cmpV (a b : ByteArray) : Int := Lib.compareBytes a.data.toList b.data.toList
theorem cmpL_lt : ∀ (a b : List UInt8), Lib.compareBytes a b < 0 ↔ ltB a b = true
  | [], [] => by simp [Lib.compareBytes, ltB]
  | [], _ :: _ => by simp [Lib.compareBytes, ltB]
  | _ :: _, [] => by simp [Lib.compareBytes, ltB]
  | a :: al, b :: bl => by
    unfold Lib.compareBytes ltB
    by_cases h1 : a < b
    · have : a ≠ b := fun e => by subst e; exact absurd h1 (UInt8.lt_irrefl _)
      rw [if_pos h1, if_neg this]
      simp [h1]
    · rw [if_neg h1]
      by_cases h2 : b < a
      · have : a ≠ b := fun e => by subst e; exact absurd h2 (UInt8.lt_irrefl _)
        rw [if_pos h2, if_neg this]
        simp [h1]
      · have : a = b := UInt8.le_antisymm (UInt8.not_lt.1 h2) (UInt8.not_lt.1 h1)
        rw [if_neg h2, if_pos this]
        exact cmpL_lt al bl
theorem cmpL_eq0 : ∀ (a b : List UInt8), Lib.compareBytes a b = 0 ↔ a = b
  | [], [] => by simp [Lib.compareBytes]
  | [], _ :: _ => by simp [Lib.compareBytes]
  | _ :: _, [] => by simp [Lib.compareBytes]
  | a :: al, b :: bl => by
    unfold Lib.compareBytes
    by_cases h1 : a < b
    · have : a ≠ b := fun e => by subst e; exact absurd h1 (UInt8.lt_irrefl _)
      rw [if_pos h1]
      simp [this]
    · rw [if_neg h1]
      by_cases h2 : b < a
      · have : a ≠ b := fun e => by subst e; exact absurd h2 (UInt8.lt_irrefl _)
        rw [if_pos h2]
        simp [this]
      · have : a = b := UInt8.le_antisymm (UInt8.not_lt.1 h2) (UInt8.not_lt.1 h1)
        rw [if_neg h2, this, cmpL_eq0 al bl]
        simp
theorem cmpV_lt (a b : ByteArray) : cmpV a b < 0 ↔ ltN a b = true := cmpL_lt _ _
theorem cmpV_eq (a b : ByteArray) : cmpV a b = 0 ↔ a = b := by
  unfold cmpV
  rw [cmpL_eq0]
  constructor
  · intro h
    cases a; cases b
    exact congrArg ByteArray.mk (Array.toList_inj.1 h)
  · intro h; rw [h]
theorem ltB_trans : ∀ (a b c : List UInt8), ltB a b = true → ltB b c = true → ltB a c = true
  | [], [], _, h, _ => by simp [ltB] at h
  | [], _ :: _, [], _, h => by simp [ltB] at h
  | [], _ :: _, _ :: _, _, _ => rfl
  | _ :: _, [], _, h, _ => by simp [ltB] at h
  | _ :: _, _ :: _, [], _, h => by simp [ltB] at h
  | a :: al, b :: bl, c :: cl, h1, h2 => by
    unfold ltB at h1 h2 ⊢
    by_cases e1 : a = b
    · subst e1
      rw [if_pos rfl] at h1
      by_cases e2 : a = c
      · subst e2
        rw [if_pos rfl] at h2 ⊢
        exact ltB_trans al bl cl h1 h2
      · rw [if_neg e2] at h2 ⊢
        exact h2
    · rw [if_neg e1, decide_eq_true_eq] at h1
      by_cases e2 : b = c
      · subst e2
        rw [if_neg e1, decide_eq_true_eq]
        exact h1
      · rw [if_neg e2, decide_eq_true_eq] at h2
        have h3 := UInt8.lt_trans h1 h2
        have e3 : a ≠ c := fun e => by subst e; exact absurd h3 (UInt8.lt_irrefl _)
        rw [if_neg e3, decide_eq_true_eq]
        exact h3
theorem ltN_trans {a b c : ByteArray} (h1 : ltN a b = true) (h2 : ltN b c = true) : ltN a c = true := ltB_trans _ _ _ h1 h2
def RiseE (es : List En) : Prop := ∀ (i j : Nat) (x y : En), i < j → es[i]? = some x → es[j]? = some y → ltN x.name y.name = true
structure EnPos (es : List En) (nm : ByteArray) (i : Nat) (b : Bool) : Prop where
  le : i ≤ es.length
  lo : ∀ (k : Nat) (x : En), k < i → es[k]? = some x → ltN x.name nm = true
  hi : ∀ (k : Nat) (x : En), i ≤ k → es[k]? = some x → ltN x.name nm = false
  is_ : b = true → ∃ e, es[i]? = some e ∧ e.name = nm
  of_ : (∃ e, es[i]? = some e ∧ e.name = nm) → b = true
theorem compare_any (a b : ByteArray) (w : World) : Calls Try.prog 153 #[.string a, .string b] w fun e w' => e = .returned (.int .i64 (cmpV a b)) ∧ w = w' := by
  have hx : ∀ w, (callFunc 168 #[.string a, .string b]).run Try.prog w = .ok (.value (.int .i64 (cmpV a b))) w := fun w => by
    rw [run_callFunc_extern Try.func168 (by kernel_rfl) (by kernel_rfl) (by kernel_rfl) (e := Extern.BytealgCompare.compare) (by kernel_rfl), Lib.run_compareString]
    rfl
  go_enter Try.func153, Try.ntmps153
  go_wp2
  go_ret
  exact ⟨rfl, rfl⟩
theorem cmpE_any (name : ByteArray) (num : Int) (nm : ByteArray) (w : World) :
    Calls Try.prog 152 #[.agg #[.string name, .int .i64 num], .string nm] w fun e w' => e = .returned (.int .i64 (cmpV name nm)) ∧ Below w.heap.size w w' := by
  go_enter Try.func152, Try.ntmps152
  go_wp2_with fail
  refine (compare_any name nm _).mono ?_
  rintro e w1 ⟨rfl, rfl⟩
  go_wp2_with fail
  go_ret
  exact ⟨rfl, (Below.refl _ _).alloc (Nat.le_refl _) _⟩
set_option maxRecDepth 100000 in
set_option maxHeartbeats 4000000 in
theorem bsearchE_any (es : List En) (A : Option Addr) (n c : Nat) (nm : ByteArray) (w : World) (hI : EntsAt none w A n es) (hn : n ≤ 1099511627776) (hr : RiseE es) :
    Calls Try.prog 151 #[.slice A n c, .string nm, .func (.func 152) #[] #[]] w fun e w' => ∃ i b, e = .returned (.tuple #[.int .i64 (i : Nat), .bool b]) ∧ Below w.heap.size w w' ∧ EnPos es nm i b := by
  have HI := Lib.hid hI
  go_enter Try.func151, Try.ntmps151
  clear hI
  go_wp2_with fail
  go_loopw [9, 10] (fun iv jv wr => ∃ i j : Nat, iv = .int .i64 i ∧ jv = .int .i64 j ∧ i ≤ j ∧ j ≤ n ∧ (∀ (k : Nat) (x : En), k < i → es[k]? = some x → ltN x.name nm = true) ∧ (∀ (k : Nat) (x : En), j ≤ k → es[k]? = some x → ltN x.name nm = false) ∧ Below w.heap.size w wr) (fun iv jv _ => (intOf jv).toNat - (intOf iv).toNat)
  case atStart => exact ⟨0, n, rfl, rfl, by omega, by omega, fun k x hk => by omega, fun k x hk hx => by have := (List.getElem?_eq_some_iff.1 hx).1; have := HI.out.1; omega, Below.refl _ _⟩
  case round =>
    obtain ⟨i, j, rfl, rfl, hij, hjn, hlo, hhi, hbel⟩ := hrel
    have HB := Lib.hid hbel
    have HIr := Lib.hid (HI.out.below hbel)
    have HLO := Lib.hid hlo
    have HHI := Lib.hid hhi
    clear hbel hlo hhi
    by_cases hlt : i < j
    · obtain ⟨h, hh⟩ : ∃ h, (i + j) / 2 = h := ⟨_, rfl⟩
      have hh1 : i ≤ h := by omega
      have hh2 : h < j := by omega
      obtain ⟨g, off, x, rfl, hg, hx, hd, hmem, c0, c1⟩ := HIr.out.get h (by omega)
      have HHH := Lib.hid hh
      have hx2 : es[h]? = some x := hx
      have HX := Lib.hid hx2
      have HRR := Lib.hid hr
      have HHH2 : Hid (h < j) := Lib.hid hh2
      clear hx2
      go_wp2_with fail
      refine (cmpE_any x.name x.num nm _).mono ?_
      rintro e5 w5 ⟨rfl, hb5⟩
      have e2 : ((i : Int) + (j : Int)) / 2 = (h : Int) := by have := HHH.out; omega
      rw [e2]
      have HB5 := Lib.hid (HB.out.trans (hb5.mono HB.out.size))
      clear hb5 c0 c1
      by_cases hc : ltN x.name nm = true
      · have q1 : decide (cmpV x.name nm < 0) = true := by rw [decide_eq_true_eq]; exact (cmpV_lt _ _).2 hc
        go_wp2_with fail
        go_roundw
        case rel => exact ⟨h + 1, j, by go_num, rfl, by omega, hjn, fun k y hk hy => by
          by_cases e : k = h
          · subst e
            have := HX.out
            rw [hy] at this
            cases this
            exact hc
          · exact ltN_trans (HRR.out k h y x (by omega) hy HX.out) hc, HHI.out, HB5.out⟩
        case measure => simp [intOf]; omega
      · have q1 : decide (cmpV x.name nm < 0) = false := by rw [decide_eq_false_iff_not]; exact fun h => hc ((cmpV_lt _ _).1 h)
        go_wp2_with fail
        go_roundw
        case rel => exact ⟨i, h, rfl, rfl, hh1, by omega, HLO.out, fun k y hk hy => by
          by_cases e : k = h
          · subst e
            have := HX.out
            rw [hy] at this
            have e9 : y = x := Option.some.inj this
            rw [e9]
            exact Bool.eq_false_iff.2 hc
          · cases hv : ltN y.name nm
            · rfl
            · exact absurd (ltN_trans (HRR.out h k x y (by omega) HX.out hy) hv) hc, HB5.out⟩
        case measure => simp [intOf]; omega
    · have eij : j = i := by omega
      subst eij
      by_cases hin : j < n
      · obtain ⟨g, off, x, rfl, hg, hx, hd, hmem, c0, c1⟩ := HIr.out.get j hin
        have HX := Lib.hid hx
        have HRR := Lib.hid hr
        go_wp2_with fail
        refine (cmpE_any x.name x.num nm _).mono ?_
        rintro e5 w5 ⟨rfl, hb5⟩
        have HB5 := Lib.hid (HB.out.trans (hb5.mono HB.out.size))
        clear hb5 c0 c1
        by_cases hc : x.name = nm
        · have q1 : cmpV x.name nm = 0 := (cmpV_eq _ _).2 hc
          rw [q1]
          clear q1
          go_wp2_with fail
          go_ret2
          exact ⟨j, true, rfl, HB5.out, by have := HIr.out.1; omega, HLO.out, HHI.out, fun _ => ⟨x, HX.out, hc⟩, fun _ => rfl⟩
        · have q1 : (cmpV x.name nm == 0) = false := by rw [beq_eq_false_iff_ne]; exact fun h => hc ((cmpV_eq _ _).1 h)
          go_wp2_with fail
          go_ret2
          refine ⟨j, false, rfl, HB5.out, by have := HIr.out.1; omega, HLO.out, HHI.out, (fun h => by cases h), fun h => ?_⟩
          obtain ⟨e, he, hen⟩ := h
          rw [HX.out] at he
          cases he
          exact absurd hen hc
      · have q1 : decide ((j : Int) < (n : Int)) = false := by rw [decide_eq_false_iff_not]; omega
        clear hlt
        go_wp2_with fail
        go_ret2
        refine ⟨j, false, rfl, HB.out, by have := HIr.out.1; omega, HLO.out, HHI.out, (fun h => by cases h), fun h => ?_⟩
        obtain ⟨e, he, _⟩ := h
        have h1 := (List.getElem?_eq_some_iff.1 he).1
        have h2 := HIr.out.1
        omega
theorem mentry_any (es : List En) (A : Option Addr) (n c : Nat) (nm : ByteArray) (w : World) (hI : EntsAt none w A n es) (hn : n ≤ 1099511627776) (hr : RiseE es) :
    Calls Try.prog 116 #[.slice A n c, .string nm] w fun e w' => ∃ i b, e = .returned (.tuple #[.int .i64 (i : Nat), .bool b]) ∧ Below w.heap.size w w' ∧ EnPos es nm i b := by
  go_enter Try.func116, Try.ntmps116
  go_wp2_with fail
  refine (bsearchE_any es A n c nm _ hI hn hr).mono ?_
  rintro e w1 ⟨i, b, rfl, hb, hp⟩
  go_wp2_with fail
  go_ret2
  exact ⟨i, b, rfl, hb, hp⟩
end Go.Proofs.Ytghlgnklnbcppaa

set_option linter.unusedVariables false
set_option linter.unusedSimpArgs false
namespace Go.Proofs.Ytghlgnklnbcppaa
open Go.RowKit
structure KeepT (t : TypeId) (w w' : World) : Prop where
  size : w.heap.size ≤ w'.heap.size
  same : ∀ (b : Nat) (cur : Array Value), w.heap[b]? = some (.cells cur t (0, 0)) → w'.heap[b]? = w.heap[b]?
theorem KeepT.below {t : TypeId} {w w' : World} (h : Below w.heap.size w w') : KeepT t w w' := ⟨h.size, fun b cur hb => h.block b (Array.getElem?_eq_some_iff.1 hb).1⟩
theorem KeepT.set {w : World} {g k : Nat} {u : Value} {cur : Array Value} {t t' : TypeId} (h : w.heap[g]? = some (.cells cur t' (0, 0))) (hne : t' ≠ t) : KeepT t w (w.setCell ⟨g, k, none⟩ u) :=
  ⟨by simp [World.setCell], fun b c hb => Below.heap_setCell w ⟨g, k, none⟩ u b (fun e => by
    have e2 : b = g := e
    subst e2
    rw [h] at hb
    injection hb with hb
    injection hb with _ hb _
    exact hne hb)⟩
theorem KeepT.mine {t : TypeId} {w w' : World} {B g : Nat} (h : KeepT t w w') (hm : Mine (some B) t w g) : Mine (some B) t w' g ∧ w'.heap[g]? = w.heap[g]? := by
  obtain ⟨h1, cur, h2⟩ := hm B rfl
  refine ⟨fun C hC => ?_, h.same g cur h2⟩
  cases hC
  exact ⟨h1, cur, (h.same g cur h2).trans h2⟩
theorem cell_same {w w' : World} {g : Nat} (h : w'.heap[g]? = w.heap[g]?) (j : Nat) : w'.cell? ⟨g, j, none⟩ = w.cell? ⟨g, j, none⟩ := by
  unfold World.cell?
  simp only [h]
theorem EntsAt.keep {B : Nat} {w w' : World} {A : Option Addr} {n : Nat} {es : List En} (h : EntsAt (some B) w A n es) (hk : KeepT 103 w w') : EntsAt (some B) w' A n es :=
  ⟨h.1, fun hn => by
    obtain ⟨g, off, hA, hg, hm, hc⟩ := h.2 hn
    obtain ⟨m1, m2⟩ := hk.mine hm
    exact ⟨g, off, hA, Nat.lt_of_lt_of_le hg hk.size, m1, fun j e he => ⟨(cell_same m2 _).trans (hc j e he).1, (cell_same m2 _).trans (hc j e he).2⟩⟩⟩
theorem DescsAt.keep {B : Nat} {w w' : World} {A : Option Addr} {n : Nat} {ds : List Ds} (h : DescsAt (some B) w A n ds) (hk : KeepT 51 w w') : DescsAt (some B) w' A n ds :=
  ⟨h.1, fun hn => by
    obtain ⟨g, off, hA, hg, hm, hc⟩ := h.2 hn
    obtain ⟨m1, m2⟩ := hk.mine hm
    exact ⟨g, off, hA, Nat.lt_of_lt_of_le hg hk.size, m1, fun j e he => ⟨(cell_same m2 _).trans (hc j e he).1, (cell_same m2 _).trans (hc j e he).2.1, (cell_same m2 _).trans (hc j e he).2.2⟩⟩⟩
theorem IntsAt.keep {B : Nat} {w w' : World} {A : Option Addr} {n : Nat} {xs : List Int} (h : IntsAt (some B) w A n xs) (hk : KeepT 3 w w') : IntsAt (some B) w' A n xs :=
  ⟨h.1, fun hn => by
    obtain ⟨g, off, hA, hg, hm, hc⟩ := h.2 hn
    obtain ⟨m1, m2⟩ := hk.mine hm
    exact ⟨g, off, hA, Nat.lt_of_lt_of_le hg hk.size, m1, fun j x hx => (cell_same m2 _).trans (hc j x hx)⟩⟩
theorem InosAt.keep {B : Nat} {w w' : World} {A : Option Addr} {n : Nat} {is : List Ino} (h : InosAt (some B) w A n is) (hk : KeepT 72 w w') (he : KeepT 103 w w') : InosAt (some B) w' A n is :=
  ⟨h.1, fun hn => by
    obtain ⟨g, off, hA, hg, hm, hc⟩ := h.2 hn
    obtain ⟨m1, m2⟩ := hk.mine hm
    refine ⟨g, off, hA, Nat.lt_of_lt_of_le hg hk.size, m1, fun j x hx => ?_⟩
    obtain ⟨h1, h2, ⟨E, m, c, h3, h4, h5⟩, h6⟩ := hc j x hx
    exact ⟨(cell_same m2 _).trans h1, (cell_same m2 _).trans h2, ⟨E, m, c, (cell_same m2 _).trans h3, h4, h5.keep he⟩, (cell_same m2 _).trans h6⟩⟩
structure Own (B : Nat) (w : World) (p : Nat) (s : St) : Prop where
  at_ : ∃ A n c E m d D k e, B ≤ p ∧ w.heap[p]? = some (.cells #[.slice A n c, .slice E m d, .slice D k e] 26 (0, 0)) ∧ InosAt (some B) w A n s.inos ∧ DescsAt (some B) w E m s.opn ∧ IntsAt (some B) w D k s.made ∧ SlOk A n c ∧ SlOk E m d ∧ SlOk D k e
  sized : Sized s
theorem Own.below {B : Nat} {w w' : World} {p : Nat} {s : St} (h : Own B w p s) (hb : Below w.heap.size w w') : Own B w' p s := by
  obtain ⟨⟨A, n, c, E, m, d, D, k, e, h0, h1, h2, h3, h4, h5, h6, h7⟩, hz⟩ := h
  exact ⟨⟨A, n, c, E, m, d, D, k, e, h0, (hb.block p (Array.getElem?_eq_some_iff.1 h1).1).trans h1, h2.below hb, h3.below hb, h4.below hb, h5, h6, h7⟩, hz⟩
theorem Own.drewN {B : Nat} {w : World} {p : Nat} {s : St} (h : Own B w p s) (q : Nat) : Own B (w.drewN q) p s := ⟨h.at_, h.sized⟩
theorem Own.val {B : Nat} {w : World} {p : Nat} {s : St} (h : Own B w p s) : ∃ A n c E m d D k e, B ≤ p ∧ p < w.heap.size ∧ w.cell? ⟨p, 0, none⟩ = some (.slice A n c) ∧ w.cell? ⟨p, 1, none⟩ = some (.slice E m d) ∧ w.cell? ⟨p, 2, none⟩ = some (.slice D k e) ∧ (∀ j, w.frozen? ⟨p, j, none⟩ = false) ∧
    StAt (some B) w (.agg #[.slice A n c, .slice E m d, .slice D k e]) s ∧ InosAt (some B) w A n s.inos ∧ DescsAt (some B) w E m s.opn ∧ IntsAt (some B) w D k s.made := by
  obtain ⟨⟨A, n, c, E, m, d, D, k, e, h0, h1, h2, h3, h4, h5, h6, h7⟩, hz⟩ := h
  refine ⟨A, n, c, E, m, d, D, k, e, h0, (Array.getElem?_eq_some_iff.1 h1).1, ?_, ?_, ?_, fun j => frozen_of_row w p j _ _ h1, ⟨⟨A, n, c, E, m, d, D, k, e, rfl, h2, h3, h4, h5, h6, h7⟩, hz⟩, h2, h3, h4⟩ <;> (rw [cell_of_row w p _ _ _ (0, 0) h1]; rfl)
theorem InosAt.set {B : Nat} {w : World} {g off n : Nat} {is : List Ino} (h : InosAt (some B) w (some ⟨g, off, none⟩) n is) (i a : Nat) (x y : Ino) (u : Value) (hx : is[i]? = some x) (ha : a = 2 ∨ a = 3) (hnum : y.num = x.num) (hdir : y.dir = x.dir)
    (h2 : a = 2 → y.data = x.data ∧ ∃ A m c, u = .slice A m c ∧ SlOk A m c ∧ EntsAt (some B) w A m y.ents) (h3 : a = 3 → u = .string y.data ∧ y.ents = x.ents) :
    InosAt (some B) (w.setCell ⟨g, off + i * 4 + a, none⟩ u) (some ⟨g, off, none⟩) n (is.set i y) := by
  refine ⟨by rw [List.length_set]; exact h.1, fun hn => ?_⟩
  obtain ⟨g', off', hA, hg, hm, hc⟩ := h.2 hn
  injection hA with hA
  injection hA with hA1 hA2
  subst hA1 hA2
  obtain ⟨hB, cur, hcur⟩ := hm B rfl
  have hkE : KeepT 103 w (w.setCell ⟨g, off + i * 4 + a, none⟩ u) := KeepT.set hcur (by decide)
  have other : ∀ k, k ≠ off + i * 4 + a → (w.setCell ⟨g, off + i * 4 + a, none⟩ u).cell? ⟨g, k, none⟩ = w.cell? ⟨g, k, none⟩ := fun k hk => by
    rw [World.cell?_setCell_other _ _ _ _ (fun e => by injection e with _ e; exact hk e.symm)]
  have hil : i < is.length := (List.getElem?_eq_some_iff.1 hx).1
  have same : (w.setCell ⟨g, off + i * 4 + a, none⟩ u).cell? ⟨g, off + i * 4 + a, none⟩ = some u := by
    obtain ⟨_, _, ⟨E, m, c, q3, _⟩, q4⟩ := hc i x hx
    rcases ha with rfl | rfl
    · exact World.cell?_setCell_same' _ _ _ (by rw [q3]; rfl)
    · exact World.cell?_setCell_same' _ _ _ (by rw [q4]; rfl)
  refine ⟨g, off, rfl, by simpa [World.setCell] using hg, fun C hC => ?_, fun j z hz => ?_⟩
  · cases hC
    exact ⟨hB, _, heap_setCell_same w g _ _ _ _ hcur⟩
  · rw [List.getElem?_set] at hz
    by_cases hj : i = j
    · subst hj
      rw [if_pos rfl, if_pos hil] at hz
      injection hz with hz
      subst hz
      obtain ⟨q1, q2, ⟨E, m, c, q3, q5, q6⟩, q4⟩ := hc i x hx
      rcases ha with rfl | rfl
      · obtain ⟨hd, A', m', c', hu, hmc, hE⟩ := h2 rfl
        refine ⟨?_, ?_, ⟨A', m', c', ?_, hmc, hE.keep hkE⟩, ?_⟩
        · rw [other _ (by omega), hnum]; exact q1
        · rw [other _ (by omega), hdir]; exact q2
        · rw [same, hu]
        · rw [other _ (by omega), hd]; exact q4
      · obtain ⟨hu, hE⟩ := h3 rfl
        refine ⟨?_, ?_, ⟨E, m, c, ?_, q5, ?_⟩, ?_⟩
        · rw [other _ (by omega), hnum]; exact q1
        · rw [other _ (by omega), hdir]; exact q2
        · rw [other _ (by omega)]; exact q3
        · rw [hE]; exact q6.keep hkE
        · rw [same, hu]
    · rw [if_neg hj] at hz
      obtain ⟨q1, q2, ⟨E, m, c, q3, q5, q6⟩, q4⟩ := hc j z hz
      have ha4 : a < 4 := by rcases ha with rfl | rfl <;> decide
      refine ⟨?_, ?_, ⟨E, m, c, ?_, q5, q6.keep hkE⟩, ?_⟩
      · rw [other _ (by omega)]; exact q1
      · rw [other _ (by omega)]; exact q2
      · rw [other _ (by omega)]; exact q3
      · rw [other _ (by omega)]; exact q4
theorem IntsAt.set {B : Nat} {w : World} {g off n : Nat} {xs : List Int} (h : IntsAt (some B) w (some ⟨g, off, none⟩) n xs) (i : Nat) (y : Int) (hi : i < n) : IntsAt (some B) (w.setCell ⟨g, off + i, none⟩ (.int .i64 y)) (some ⟨g, off, none⟩) n (xs.set i y) := by
  refine ⟨by rw [List.length_set]; exact h.1, fun hn => ?_⟩
  obtain ⟨g', off', hA, hg, hm, hc⟩ := h.2 hn
  injection hA with hA
  injection hA with hA1 hA2
  subst hA1 hA2
  obtain ⟨hB, cur, hcur⟩ := hm B rfl
  have hil : i < xs.length := by rw [h.1]; exact hi
  refine ⟨g, off, rfl, by simpa [World.setCell] using hg, fun C hC => ?_, fun j z hz => ?_⟩
  · cases hC
    exact ⟨hB, _, heap_setCell_same w g _ _ _ _ hcur⟩
  · rw [List.getElem?_set] at hz
    by_cases hj : i = j
    · subst hj
      rw [if_pos rfl, if_pos hil] at hz
      injection hz with hz
      subst hz
      exact World.cell?_setCell_same' _ _ _ (by rw [hc i _ (List.getElem?_eq_getElem hil)]; rfl)
    · rw [if_neg hj] at hz
      rw [World.cell?_setCell_other _ _ _ _ (fun e => by injection e with _ e; omega)]
      exact hc j z hz
theorem InosAt.free {B : Nat} {w : World} {g off n : Nat} {is : List Ino} (h : InosAt (some B) w (some ⟨g, off, none⟩) n is) (hn : 0 < n) : B ≤ g ∧ ∀ j, w.frozen? ⟨g, j, none⟩ = false := by
  obtain ⟨g', off', hA, hg, hm, hc⟩ := h.2 hn
  injection hA with hA
  injection hA with hA1 hA2
  subst hA1 hA2
  obtain ⟨hB, cur, hcur⟩ := hm B rfl
  exact ⟨hB, fun j => frozen_of_row w g j _ _ hcur⟩
theorem IntsAt.free {B : Nat} {w : World} {g off n : Nat} {xs : List Int} (h : IntsAt (some B) w (some ⟨g, off, none⟩) n xs) (hn : 0 < n) : B ≤ g ∧ ∀ j, w.frozen? ⟨g, j, none⟩ = false := by
  obtain ⟨g', off', hA, hg, hm, hc⟩ := h.2 hn
  injection hA with hA
  injection hA with hA1 hA2
  subst hA1 hA2
  obtain ⟨hB, cur, hcur⟩ := hm B rfl
  exact ⟨hB, fun j => frozen_of_row w g j _ _ hcur⟩
theorem EntsAt.mono {B B' : Nat} {w : World} {A : Option Addr} {n : Nat} {es : List En} (h : EntsAt (some B) w A n es) (hb : B' ≤ B) : EntsAt (some B') w A n es :=
  ⟨h.1, fun hn => by
    obtain ⟨g, off, hA, hg, hm, hc⟩ := h.2 hn
    exact ⟨g, off, hA, hg, hm.mono hb, hc⟩⟩
theorem DescsAt.mono {B B' : Nat} {w : World} {A : Option Addr} {n : Nat} {ds : List Ds} (h : DescsAt (some B) w A n ds) (hb : B' ≤ B) : DescsAt (some B') w A n ds :=
  ⟨h.1, fun hn => by
    obtain ⟨g, off, hA, hg, hm, hc⟩ := h.2 hn
    exact ⟨g, off, hA, hg, hm.mono hb, hc⟩⟩
theorem IntsAt.mono {B B' : Nat} {w : World} {A : Option Addr} {n : Nat} {xs : List Int} (h : IntsAt (some B) w A n xs) (hb : B' ≤ B) : IntsAt (some B') w A n xs :=
  ⟨h.1, fun hn => by
    obtain ⟨g, off, hA, hg, hm, hc⟩ := h.2 hn
    exact ⟨g, off, hA, hg, hm.mono hb, hc⟩⟩
theorem InosAt.mono {B B' : Nat} {w : World} {A : Option Addr} {n : Nat} {is : List Ino} (h : InosAt (some B) w A n is) (hb : B' ≤ B) : InosAt (some B') w A n is :=
  ⟨h.1, fun hn => by
    obtain ⟨g, off, hA, hg, hm, hc⟩ := h.2 hn
    refine ⟨g, off, hA, hg, hm.mono hb, fun j x hx => ?_⟩
    obtain ⟨h1, h2, ⟨E, m, c, h3, h4, h5⟩, h6⟩ := hc j x hx
    exact ⟨h1, h2, ⟨E, m, c, h3, h4, h5.mono hb⟩, h6⟩⟩
theorem modify_set {α : Type} (f : α → α) (l : List α) (i : Nat) (x : α) (h : l[i]? = some x) : l.modify i f = l.set i (f x) := by
  apply List.ext_getElem?
  intro j
  rw [List.getElem?_modify, List.getElem?_set]
  by_cases e : i = j
  · subst e
    have hl : i < l.length := (List.getElem?_eq_some_iff.1 h).1
    simp [hl, (List.getElem?_eq_some_iff.1 h).2]
  · cases hj : l[j]? <;> simp [e, hj]
structure Aside (p : Nat) (w w' : World) : Prop where
  size : w.heap.size ≤ w'.heap.size
  same : ∀ (b : Nat) (cur : Array Value) (t : TypeId), w.heap[b]? = some (.cells cur t (0, 0)) → 72 ≠ t → 3 ≠ t → b ≠ p → w'.heap[b]? = w.heap[b]?
theorem Aside.below {p : Nat} {w w' : World} (h : Below w.heap.size w w') : Aside p w w' := ⟨h.size, fun b cur t hb _ _ _ => h.block b (Array.getElem?_eq_some_iff.1 hb).1⟩
theorem Aside.trans {p : Nat} {a b c : World} (h : Aside p a b) (k : Aside p b c) : Aside p a c :=
  ⟨Nat.le_trans h.size k.size, fun x cur t hx h1 h2 h3 => (k.same x cur t ((h.same x cur t hx h1 h2 h3).trans hx) h1 h2 h3).trans (h.same x cur t hx h1 h2 h3)⟩
theorem Aside.set {p : Nat} {w : World} {g k : Nat} {u : Value} {cur : Array Value} {t : TypeId} (h : w.heap[g]? = some (.cells cur t (0, 0))) (ht : t = 72 ∨ t = 3 ∨ g = p) : Aside p w (w.setCell ⟨g, k, none⟩ u) :=
  ⟨by simp [World.setCell], fun b c t' hb h1 h2 h3 => Below.heap_setCell w ⟨g, k, none⟩ u b (fun e => by
    have e2 : b = g := e
    subst e2
    rw [h] at hb
    injection hb with hb
    injection hb with _ hb _
    rcases ht with ht | ht | ht
    · exact h1 (ht.symm.trans hb)
    · exact h2 (ht.symm.trans hb)
    · exact h3 ht)⟩
end Go.Proofs.Ytghlgnklnbcppaa

set_option linter.unusedVariables false
set_option linter.unusedSimpArgs false
namespace Go.Proofs.Ytghlgnklnbcppaa
open Go.RowKit
theorem putE_len : ∀ (es : List En) (name : ByteArray) (num : Int), (putE es name num).length = es.length + 1
  | [], _, _ => rfl
  | e :: es, name, num => by
    unfold putE
    split
    · simp
    · rw [List.length_cons, putE_len es, List.length_cons]
end Go.Proofs.Ytghlgnklnbcppaa

set_option linter.unusedVariables false
set_option linter.unusedSimpArgs false
namespace Go.Proofs.Ytghlgnklnbcppaa
open Go.RowKit
theorem dropE_len : ∀ (es : List En) (name : ByteArray), (dropE es name).length ≤ es.length
  | [], _ => Nat.le_refl _
  | e :: es, name => by
    unfold dropE
    have := dropE_len es name
    split <;> simp <;> omega
end Go.Proofs.Ytghlgnklnbcppaa
