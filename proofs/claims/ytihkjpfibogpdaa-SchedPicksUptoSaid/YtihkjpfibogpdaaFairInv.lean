/- What Fair owns: a map of the last picks, a row of how long each core has been ready. -/
import Derived.Test.YtihkjpfibogpdaaPick
import Derived.Test.YtihkjpfibogpdaaPlainFair
import Derived.Maps.OwnOps
import Derived.Maps.Views
import Derived.Laws.OwnMore
import Derived.OwnWalk
namespace Go.Proofs.Ytihkjpfibogpdaa
open Go.RowKit
open Go.Maps (IsMap atKey_put_same atKey_put_other IsMap.put)
set_option linter.unusedVariables false
/-- A slice of slices of bools. -/
def Rows (w : World) (A : Option Addr) (n : Nat) (rows : List (List Bool)) : Prop :=
  rows.length = n ∧ (∀ r ∈ rows, r.length ≤ 17592186043904) ∧ (0 < n → ∃ g off, A = some ⟨g, off, none⟩ ∧ g < w.heap.size ∧
    ∀ j, j < n → ∃ B m c, w.cell? ⟨g, off + j, .none⟩ = some (.slice B m c) ∧ Reads w B m ((rows.getD j []).map Value.bool))
theorem Rows.below {w w' : World} {A : Option Addr} {n : Nat} {vs : List (List Bool)} (h : Rows w A n vs) (hb : Below w.heap.size w w') : Rows w' A n vs :=
  ⟨h.1, h.2.1, fun hn => by
    obtain ⟨g, off, hA, hg, hc⟩ := h.2.2 hn
    refine ⟨g, off, hA, Nat.lt_of_lt_of_le hg hb.size, fun j hj => ?_⟩
    obtain ⟨B, m, c, h1, h2⟩ := hc j hj
    exact ⟨B, m, c, (hb.cell (p := ⟨g, off + j, .none⟩) hg).trans h1, h2.below hb⟩⟩
def natV (n : Nat) : Value := .int .i64 n
def rowV (L : Nat) (f : Nat → Nat) : List Value := (List.range L).map fun j => natV (f j)
theorem rowV_len (L : Nat) (f : Nat → Nat) : (rowV L f).length = L := by simp [rowV]
theorem rowV_get (L : Nat) (f : Nat → Nat) (j : Nat) (h : j < L) : (rowV L f)[j]? = some (natV (f j)) := by simp [rowV, h]
theorem rowV_push (L : Nat) (f : Nat → Nat) (h : f L = 0) : rowV L f ++ [.int .i64 0] = rowV (L + 1) f := by
  simp [rowV, List.range_succ, h, natV]
def upd (f : Nat → Nat) (j v : Nat) : Nat → Nat := fun i => if i = j then v else f i
theorem rowV_set (L : Nat) (f : Nat → Nat) (j v : Nat) : (rowV L f).set j (natV v) = rowV L (upd f j v) := by
  apply List.ext_getElem?
  intro i
  rw [List.getElem?_set]
  by_cases hi : i < L
  · by_cases hj : j = i
    · subst hj
      rw [if_pos rfl, rowV_len, if_pos hi, rowV_get _ _ _ hi]
      simp [upd]
    · rw [if_neg hj, rowV_get _ _ _ hi, rowV_get _ _ _ hi]
      have : ¬ i = j := fun h => hj h.symm
      simp [upd, this]
  · have e1 : (rowV L f)[i]? = none := List.getElem?_eq_none (by rw [rowV_len]; omega)
    have e2 : (rowV L (upd f j v))[i]? = none := List.getElem?_eq_none (by rw [rowV_len]; omega)
    rw [e1, e2, rowV_len]
    split
    · rw [if_neg (by omega)]
    · rfl
/-- The map and the row. -/
structure FI (w wr : World) (n : Nat) (last : Nat → Nat) (v : Value) (L : Nat) (f : Nat → Nat) : Prop where
  below : Below w.heap.size w wr
  map : ∃ D : DataW Unit, IsMap D ∧ (∀ c : Nat, D.atKey (.int .i64 (c : Int)) (.lit (.int .i64 0)) = .lit (.int .i64 (last c : Nat))) ∧ wr.ownsMap Try.prog 3 (plainElem Try.prog 3) w.heap.size n D
  row : wr.ownsRow (w.heap.size + 1) 3 1 v L (rowV L f)
  zero : ∀ j, L ≤ j → f j = 0
theorem FI.drewN {w wr : World} {n : Nat} {last : Nat → Nat} {v : Value} {L : Nat} {f : Nat → Nat} (h : FI w wr n last v L f) (q : Nat) : FI w (wr.drewN q) n last v L f :=
  ⟨Cv.drewN_below h.below q, h.map, h.row, h.zero⟩
theorem FI.lt {w wr : World} {n : Nat} {last : Nat → Nat} {v : Value} {L : Nat} {f : Nat → Nat} (h : FI w wr n last v L f) : w.heap.size < wr.heap.size := by
  obtain ⟨D, _, _, h3⟩ := h.map
  exact h3.lt
theorem FI.begin (w : World) : FI w (w.alloc (.map #[] 0)) 0 (fun _ => 0) (.slice .none 0 0) 0 (fun _ => 0) :=
  ⟨(Below.refl _ _).alloc (Nat.le_refl _) _, ⟨_, ⟨_, rfl⟩, fun c => rfl, World.ownsMap_made _ _ _ _⟩, by simpa [rowV] using World.ownsRow_nil _ _ _ _, fun _ _ => rfl⟩
theorem FI.alloc {w wr : World} {n : Nat} {last : Nat → Nat} {v : Value} {L : Nat} {f : Nat → Nat} (h : FI w wr n last v L f) (o : Obj) : FI w (wr.alloc o) n last v L f :=
  ⟨h.below.alloc h.below.size _, by obtain ⟨D, h1, h2, h3⟩ := h.map; exact ⟨D, h1, h2, h3.alloc o⟩, h.row.alloc o, h.zero⟩
/-- Behind a step's pick. -/
theorem FI.picked {w wr w1 : World} {n : Nat} {last : Nat → Nat} {v : Value} {L : Nat} {f : Nat → Nat} (h : FI w wr n last v L f) {D : DataW Unit} (hD : IsMap D)
    (hat : ∀ c : Nat, D.atKey (.int .i64 (c : Int)) (.lit (.int .i64 0)) = .lit (.int .i64 (last c : Nat))) {p : Int} {i : Nat}
    (hm : w1.ownsMap Try.prog 3 (plainElem Try.prog 3) w.heap.size (n + 1) (D.put (.int .i64 p) (.lit (.int .i64 (i : Nat))))) (hg : wr.grownBy w1 (some w.heap.size)) :
    FI w w1 (n + 1) (fun c => if p = (c : Int) then i else last c) v L f := by
  refine ⟨h.below.grown hg h.below.size (fun k hk => by cases hk; exact Nat.le_refl _), ⟨_, hD.put _ _, fun c => ?_, hm⟩, h.row.kept hg ?_, h.zero⟩
  · by_cases e : p = (c : Int)
    · subst e
      rw [if_pos rfl]
      exact atKey_put_same hD (by trivial) _ _
    · rw [if_neg e, ← hat c]
      exact atKey_put_other (fun e2 => e (by injection e2 with _ e3; exact e3.symm)) _ _
  · cases hv : v.ownBlock with
    | none => exact .inl rfl
    | some g => exact .inr (by have := h.row.lt g hv; intro e; injection e with e; omega)
/-- Behind a core more. -/
theorem FI.pushed {w wr w1 : World} {n : Nat} {last : Nat → Nat} {v v1 : Value} {L : Nat} {f : Nat → Nat} (h : FI w wr n last v L f)
    (hm : w1.ownsRow (w.heap.size + 1) 3 1 v1 (L + 1) (rowV L f ++ [.int .i64 0])) (hg : wr.grownBy w1 v.ownBlock) : FI w w1 n last v1 (L + 1) f := by
  have hne : ∀ k, v.ownBlock = some k → w.heap.size + 1 ≤ k := fun k hk => (h.row.lt k hk).1
  refine ⟨h.below.grown hg h.below.size (fun k hk => by have := hne k hk; omega), ?_, ?_, fun j hj => h.zero j (by omega)⟩
  · obtain ⟨D, h1, h2, h3⟩ := h.map
    exact ⟨D, h1, h2, h3.kept hg (fun e => by have := hne _ e.symm; omega)⟩
  · rwa [rowV_push L f (h.zero L (Nat.le_refl _))] at hm
/-- The row's form. -/
theorem FI.form {w wr : World} {n : Nat} {last : Nat → Nat} {v : Value} {L : Nat} {f : Nat → Nat} (h : FI w wr n last v L f) :
    ∃ A cap, v = .slice A L cap ∧ (0 < L → ∃ g, A = some ⟨g, 0, .none⟩ ∧ w.heap.size < g ∧ (∀ j, j < L → wr.cell? ⟨g, j, .none⟩ = some (.int .i64 (f j : Nat))) ∧ (∀ j, wr.frozen? ⟨g, j, .none⟩ = false) ∧
      ∀ j x : Nat, j < L → FI w (wr.setCell ⟨g, j, .none⟩ (.int .i64 (x : Nat))) n last v L (upd f j x)) := by
  rcases h.row.2 with ⟨hv, h0⟩ | ⟨g, cap, cur, hv, hb, _, _, _, _, _⟩
  · exact ⟨.none, 0, by rw [hv, h0], fun h1 => absurd h1 (by omega)⟩
  · refine ⟨some ⟨g, 0, .none⟩, cap, hv, fun _ => ⟨g, rfl, by omega, fun j hj => ?_, fun j => ?_, fun j x hj => ?_⟩⟩
    · have hr := h.row
      rw [hv] at hr
      rw [hr.cellAt j (by omega), rowV_get _ _ _ hj]
      rfl
    · have hr := h.row
      rw [hv] at hr
      exact hr.frozenAt j
    · have hr := h.row
      rw [hv] at hr
      have hst := hr.stored j (natV x)
      refine ⟨h.below.setCell (by show w.heap.size ≤ g; omega) _, ?_, ?_, fun i hi => ?_⟩
      · obtain ⟨D, h1, h2, h3⟩ := h.map
        exact ⟨D, h1, h2, h3.kept hst.2 (fun e => by injection e with e; omega)⟩
      · rw [hv, ← rowV_set]
        exact hst.1
      · unfold upd
        rw [if_neg (by omega)]
        exact h.zero i hi
theorem FI.set {w wr : World} {n : Nat} {last : Nat → Nat} {g L cap : Nat} {f : Nat → Nat} (h : FI w wr n last (.slice (some ⟨g, 0, .none⟩) L cap) L f) (j x : Nat) (hj : j < L) :
    FI w (wr.setCell ⟨g, j, .none⟩ (.int .i64 (x : Nat))) n last (.slice (some ⟨g, 0, .none⟩) L cap) L (upd f j x) := by
  obtain ⟨A, c, e, hf⟩ := h.form
  obtain ⟨g', hA, _, _, _, hs⟩ := hf (by omega)
  injection e with e1 _ _
  rw [hA] at e1
  injection e1 with e1
  injection e1 with e1
  subst e1
  exact hs j x hj
section
variable {P : Program} {ops : Array Oper} {Q : Exit → Act → World → Prop} {a : Act} {w : World} {rest : List Oper} {o : Oper}
/-- A look-up whose guard is open. -/
theorem wpList_lookup_own_wanted {H : Type} (hg : Region.wanted o (yielded ops a.tmps) = true) (m x : Operand) (t : TypeId) (hop : o.op = Op.lookup t m x false)
    (k e : TypeId) (q : IntKind) (K : Go.Maps.Keyed P k) (ht : P.underlying t = some (.map k e)) (he : P.underlying e = some (.int q)) (hz : (zeroValue e).run P w = .ok (.int q 0) w) (b n : Nat) (D : DataW H)
    (hm : a.eval m = .map (some b)) (hown : w.ownsMap P k (plainElem P e) b n D) (key : Value) (kl : Lit) (hx : a.eval x = key) (hkey : keyOf P k key = some kl)
    (hK : ∀ c : Int, D.atKey kl (.lit (.int q 0)) = .lit (.int q c) → (Lit.int q c).wf = true → wpList P ops Q rest (a.put o.dst (.int q c)) w) :
    wpList P ops Q (o :: rest) a w := by
  refine wpList_step fun K' hK' => ?_
  rw [if_pos hg]
  obtain ⟨c, hrun, hat, hwc⟩ := hown.lookup_int K ht he hz hkey
  unfold Oper.wp
  simp [execOp, hop, hm, hx, hrun, Result.andThen]
  exact hK' _ _ (hK c hat hwc)
end
end Go.Proofs.Ytihkjpfibogpdaa
