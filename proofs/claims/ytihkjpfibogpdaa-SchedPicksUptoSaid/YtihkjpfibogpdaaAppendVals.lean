/- A law for the walk: 'append(out, vs...)' where out is the call's own and vs reads as a list of plain values, nil or not. -/
import Derived.Test.YtihkjpfibogpdaaTurns
import Derived.Laws.AppendOwnNone
namespace Go.Proofs.Ytihkjpfibogpdaa
open Go.RowKit
set_option linter.unusedVariables false
theorem addr_more (g off j : Nat) : (⟨g, off, .none⟩ : Addr).add j = ⟨g, off + j, .none⟩ := by unfold Addr.add; split <;> simp_all
theorem wpList_append_reads {P : Program} {w : World} {ops : Array Oper} {rest : List Oper} {o : Oper} {a : Act} {Q : Exit → Act → World → Prop} (hgd : o.guard = none) (s x : Operand) (t e : TypeId) (z : Value) (bytes : Nat)
    (ho : o.op = .call { callee := .builtin .append, args := #[s, x], argTypes := #[t, t] }) (ht : P.underlying t = some (.slice e)) (hinfo : (P.info? e).map (fun i => (i.zero, i.size, i.bytes)) = some (some z, 1, bytes)) (hzs : z.cells.size = 1)
    (B : Nat) (v : Value) (n : Nat) (xs : List Value) (hs : a.eval s = v) (hown : w.ownsRow B e 1 v n xs) (A : Option Addr) (m c : Nat) (vs : List Value) (hx : a.eval x = .slice A m c) (hr : Reads w A m vs) (hc : A = none → c = 0)
    (hone : ∀ u ∈ vs, u.oneCell' = true) (h63 : n + m ≤ maxLen) (hb : (n + m) * bytes ≤ 140737488355328) (hB : B ≤ w.heap.size)
    (h : ∀ v' w', w'.ownsRow B e 1 v' (n + m) (xs ++ vs) → w.grownBy w' v.ownBlock → (v' = .slice none 0 0 → v = .slice none 0 0) → wpList P ops Q rest (a.put o.dst v') w') : wpList P ops Q (o :: rest) a w := by
  obtain ⟨i0, hi, hz0, hz1, hz2⟩ := info_parts hinfo
  have hlen := hr.1
  rcases A with _ | ad
  · have hm : m = 0 := by
      rcases Nat.eq_zero_or_pos m with h0 | h0
      · exact h0
      · obtain ⟨g, off, hA, _⟩ := hr.2 h0
        cases hA
    subst hm
    have hts : vs = [] := List.eq_nil_of_length_eq_zero hlen
    subst hts
    obtain rfl := hc rfl
    refine wpList_append_own_none hgd s x t ho B e i0 1 ht hi v n xs hs hown hx ?_
    exact h v w (by simpa using hown) ⟨rfl, rfl, rfl, Nat.le_refl _, fun _ _ _ => rfl⟩ fun h => h
  · refine wpList_append_own w hgd s x t ho B e i0 z 1 bytes ht hi hz0 hz1 hz2 hzs (by decide) v n xs hs hown ad m c vs hx (by omega) ?_ hone h63 hb hB ?_
    · intro j u hj
      have hjm : j < m := by
        have := (List.getElem?_eq_some_iff.1 hj).1
        omega
      obtain ⟨g, off, hA, hg, hcl⟩ := hr.2 (by omega)
      injection hA with hA
      subst hA
      rw [addr_more, hcl j hjm, hj]
    · intro v' w' h2 h3 h4
      exact h v' w' h2 h3 fun e => (h4.1 e).1
/-- An empty row of the call's own. -/
theorem row_made (w : World) (e : TypeId) : (w.alloc (.cells #[] e)).ownsRow w.heap.size e 1 (.slice (some ⟨w.heap.size, 0, .none⟩) 0 0) 0 [] :=
  ⟨rfl, Or.inr ⟨w.heap.size, 0, #[], rfl, Nat.le_refl _, heap_alloc_new w _, Nat.le_refl _, Nat.zero_le _, rfl, rfl⟩⟩
theorem row_shape {w : World} {base n : Nat} {e : TypeId} {v : Value} {xs : List Value} (h : w.ownsRow base e 1 v n xs) (hv : v ≠ .slice .none 0 0) :
    ∃ g cap, v = .slice (some ⟨g, 0, .none⟩) n cap ∧ base ≤ g ∧ g < w.heap.size ∧ n ≤ cap ∧ cap ≤ maxLen ∧ ∀ j, j < n → w.cell? ⟨g, j, .none⟩ = xs[j]? := by
  rcases h.2 with ⟨h1, _⟩ | ⟨g, cap, cur, h1, hb, hg, hnc, hcm, hcs, htk⟩
  · exact absurd h1 hv
  · refine ⟨g, cap, h1, hb, (Array.getElem?_eq_some_iff.1 hg).1, hnc, hcm, fun j hj => ?_⟩
    rw [h1] at h
    exact h.cellAt j (by omega)
theorem cells_new (w : World) (vs : List Value) (t : TypeId) : ∀ j u, vs[j]? = some u → (w.alloc (.cells vs.toArray t)).cell? ((⟨w.heap.size, 0, .none⟩ : Addr).add j) = some u := by
  intro j u hu
  rw [addr_more]
  exact (World.cell?_alloc_mark w _ _ (0, 0) _).trans (by simpa using hu)
set_option maxHeartbeats 1000000 in
theorem copyints_any (A : Option Addr) (n c : Nat) (xs : List Int) (w : World) (h : Reads w A n (xs.map (Value.int .i64))) (hA : A = none → c = 0) (hn : n ≤ 1048576) :
    Calls Try.prog 51 #[.slice A n c] w fun e w' => ∃ v, e = .returned v ∧ w'.ownsRow w.heap.size 3 1 v n (xs.map (Value.int .i64)) ∧ v ≠ .slice .none 0 0 ∧ Below w.heap.size w w' := by
  have HH := Lib.hid h
  have HA := Lib.hid hA
  have hmade := row_made w 3
  have HM := Lib.hid hmade
  have hal : Below w.heap.size w (w.alloc (.cells #[] 3)) := (Below.refl _ _).alloc (Nat.le_refl _) _
  have HAL := Lib.hid hal
  clear h hA hmade hal
  go_enter Try.func51, Try.ntmps51
  go_wp2_with (at_builtin; refine wpList_append_reads rfl _ _ 39 3 (.int .i64 0) 8 rfl Try.underlying39 infoInt rfl w.heap.size _ 0 [] rfl HM.out A n c _ rfl (HH.out.below HAL.out) HA.out (fun u hu => by obtain ⟨x, _, rfl⟩ := List.mem_map.1 hu; rfl) (by unfold maxLen; omega) (by omega) HAL.out.size ?_)
  intro v' w' hown' hgrow hnn
  have hnv : v' ≠ .slice .none 0 0 := hnn
  have hbel : Below w.heap.size w w' := HAL.out.grown hgrow HAL.out.size fun x hx => (HM.out.lt x hx).1
  have HO := Lib.hid hown'
  have HB := Lib.hid hbel
  have HV := Lib.hid hnv
  clear hown' hgrow hnn hnv hbel
  go_wp2_with fail
  go_ret
  exact ⟨_, rfl, by simpa using HO.out, HV.out, HB.out⟩
set_option maxHeartbeats 1000000 in
theorem lendints_any (A : Option Addr) (n c : Nat) (xs : List Int) (w : World) (h : Reads w A n (xs.map (Value.int .i64))) (hA : A = none → c = 0) (hn : n ≤ 1048576) :
    Calls Try.prog 40 #[.slice A n c] w fun e w' => ∃ g cap, e = .returned (.slice (some ⟨g, 0, .none⟩) n cap) ∧ n + 2 ≤ cap ∧ cap ≤ maxLen ∧ Reads w' (some ⟨g, 0, .none⟩) (n + 2) ((xs ++ [-7777, -8888]).map (Value.int .i64)) ∧ Below w.heap.size w w' := by
  have HH := Lib.hid h
  have HA := Lib.hid hA
  clear h hA
  obtain ⟨i0, hi, hz0, hz1, hz2⟩ := info_parts infoInt
  go_enter Try.func40, Try.ntmps40
  go_wp2_with fail
  refine (copyints_any A n c xs w HH.out HA.out hn).mono ?_
  rintro e w1 ⟨v, rfl, hown, hnv, hb1⟩
  have HO := Lib.hid hown
  have HV := Lib.hid hnv
  have HB := Lib.hid hb1
  clear hown hnv hb1
  go_wp2_with (at_builtin; refine wpList_append_own _ rfl _ _ 39 rfl w.heap.size 3 i0 (.int .i64 0) 1 8 Try.underlying39 hi hz0 hz1 hz2 rfl (by decide) _ n _ rfl (HO.out.alloc _) ⟨w1.heap.size, 0, .none⟩ 2 2 [.int .i64 (-7777), .int .i64 (-8888)] rfl rfl ?ca1 ?ca2 ?ca3 ?ca4 ?ca5 ?_)
  case ca1 => exact cells_new w1 [.int .i64 (-7777), .int .i64 (-8888)] _
  case ca2 => intro u hu; simp at hu; rcases hu with rfl | rfl <;> rfl
  case ca3 => unfold maxLen; omega
  case ca4 => omega
  case ca5 => have := HB.out.size; simp; omega
  intro v' w2 hown' hgrow hnn
  have hnv : v' ≠ .slice .none 0 0 := hnn
  have hbel : Below w.heap.size w w2 := (HB.out.alloc HB.out.size _).grown hgrow (by have := HB.out.size; simp; omega) fun x hx => (HO.out.lt x hx).1
  obtain ⟨g, cap, rfl, hbg, hg, hnc, hcm, hcell⟩ := row_shape hown' hnv
  have hread : Reads w2 (some ⟨g, 0, .none⟩) (n + 2) ((xs ++ [-7777, -8888]).map (Value.int .i64)) := by
    have hl : xs.length = n := by simpa using HH.out.1
    refine ⟨by simp [hl], fun _ => ⟨g, 0, rfl, hg, fun j hj => ?_⟩⟩
    rw [Nat.zero_add, hcell j hj]
    simp
  have HR := Lib.hid hread
  have HBL := Lib.hid hbel
  have hn64 : (n : Int) ≤ (cap : Int) := by omega
  clear hown' hgrow hnn hnv hbel hcell hread
  go_wp2_with fail
  go_ret
  exact ⟨g, cap, rfl, hnc, hcm, HR.out, HBL.out⟩
theorem Reads.front {w : World} {A : Option Addr} {n k : Nat} {vs us : List Value} (h : Reads w A (n + k) (vs ++ us)) (hv : vs.length = n) : Reads w A n vs := by
  refine ⟨hv, fun hn => ?_⟩
  obtain ⟨g, off, h1, h2, h3⟩ := h.2 (by omega)
  refine ⟨g, off, h1, h2, fun j hj => (h3 j (by omega)).trans ?_⟩
  rw [List.getElem?_append_left (by omega)]
end Go.Proofs.Ytihkjpfibogpdaa
