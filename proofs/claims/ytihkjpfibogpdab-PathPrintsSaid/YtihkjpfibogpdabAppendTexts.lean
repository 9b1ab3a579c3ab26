/- A law for the walk: 'append(out, ts...)' where out is the call's own and ts reads as a list of texts, nil or not. -/
import Derived.Test.YtihkjpfibogpdabTexts
import Derived.Laws.AppendOwnNone
namespace Go.Proofs.Ytihkjpfibogpdab
open Go.RowKit
set_option linter.unusedVariables false
theorem addr_plus (g off j : Nat) : (⟨g, off, none⟩ : Addr).add j = ⟨g, off + j, none⟩ := by unfold Addr.add; split <;> simp_all
theorem wpList_append_texts {w : World} {ops : Array Oper} {rest : List Oper} {o : Oper} {a : Act} {Q : Exit → Act → World → Prop} (hgd : o.guard = none) (s x : Operand)
    (ho : o.op = .call { callee := .builtin .append, args := #[s, x], argTypes := #[34, 34] })
    (B : Nat) (v : Value) (out : List (List UInt8)) (hs : a.eval s = v) (hown : Names B w v out) (A : Option Addr) (m c : Nat) (ts : List (List UInt8)) (hx : a.eval x = .slice A m c) (ht : Texts w A m ts) (hc : A = none → c = 0)
    (hb : (out.length + m) * 16 ≤ 140737488355328) (hB : B ≤ w.heap.size)
    (h : ∀ v' w', Names B w' v' (out ++ ts) → Below B w w' → (∀ A' c', v = .slice A' out.length c' → ∃ A'' c'', v' = .slice A'' (out ++ ts).length c'') → wpList Try.prog ops Q rest (a.put o.dst v') w') : wpList Try.prog ops Q (o :: rest) a w := by
  obtain ⟨i0, hi, hz0, hz1, hz2⟩ := info_parts infoS
  have hlen := ht.1
  rcases A with _ | ad
  · have hm : m = 0 := by
      rcases Nat.eq_zero_or_pos m with h0 | h0
      · exact h0
      · obtain ⟨g, off, hA, _⟩ := ht.2 h0
        cases hA
    subst hm
    have hts : ts = [] := List.eq_nil_of_length_eq_zero hlen
    subst hts
    obtain rfl := hc rfl
    refine wpList_append_own_none hgd s x 34 ho B 9 i0 1 Try.underlying34 hi v out.length (out.map strV) hs hown hx ?_
    exact h v w (by simpa using hown) (Below.refl _ _) (fun A' c' e => ⟨A', c', by simpa using e⟩)
  · refine wpList_append_own w hgd s x 34 ho B 9 i0 (.string ⟨#[]⟩) 1 16 Try.underlying34 hi hz0 hz1 hz2 rfl (by decide) v out.length (out.map strV) hs hown ad m c (ts.map strV) hx (by simpa using hlen) ?_ ?_ (by unfold maxLen; omega) hb hB ?_
    · intro j u hj
      have hjm : j < m := by
        have := (List.getElem?_eq_some_iff.1 hj).1
        simpa [hlen] using this
      obtain ⟨g, off, hA, hg, hcl⟩ := ht.2 (by omega)
      injection hA with hA
      subst hA
      rw [addr_plus, hcl j hjm, ← hj]
      simp [hlen, hjm]
    · intro u hu
      obtain ⟨t, _, rfl⟩ := List.mem_map.1 hu
      rfl
    · intro v' w' h2 h3 _
      have hn : Names B w' v' (out ++ ts) := by
        unfold Names
        rw [List.length_append, List.map_append, hlen]
        exact h2
      refine h v' w' hn ((Below.refl _ _).grown h3 hB (own_ge hown)) (fun _ _ _ => ?_)
      exact names_shape hn
/-- '[]string{}': an empty row of the call's own. -/
theorem names_made (w : World) : Names w.heap.size (w.alloc (.cells #[] 9)) (.slice (some ⟨w.heap.size, 0, none⟩) 0 0) [] := by
  refine ⟨rfl, Or.inr ⟨w.heap.size, 0, #[], rfl, Nat.le_refl _, heap_alloc_new w _, Nat.le_refl _, Nat.zero_le _, rfl, rfl⟩⟩
end Go.Proofs.Ytihkjpfibogpdab
