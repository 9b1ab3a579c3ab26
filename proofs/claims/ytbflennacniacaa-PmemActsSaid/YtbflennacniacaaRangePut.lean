/- A store at a key that is there, while a range over the map is under way. -/
import Derived.Maps.RangeWalk
namespace Go.Proofs.Ytbflennacniacaa
open Go.ChangeMaps Go.MapKept Go.WideShapes
open Go.WideElems (Fit rd rg pl rd_key rd_val rg_of other_key rd_mk)
open Go.Maps (Keyed)
set_option linter.unusedVariables false
variable {H : Type} {P : Program} {k : TypeId} {R : Value → Option (DataW H × List MemPlace)} {w : World} {b r n : Nat} {D : DataW H} {left : Lit → Bool} {cnt : Nat}
theorem leftOf_size_set (es : List MapEntry) (seen : Array Nat) (j : Nat) (e0 e1 : MapEntry) (h : es[j]? = some e0) (hb : e1.born = e0.born) :
    ((es.set j e1).filter fun e => !seen.contains e.born).length = (es.filter fun e => !seen.contains e.born).length := by
  rw [← List.countP_eq_length_filter, ← List.countP_eq_length_filter]
  induction es generalizing j with
  | nil => simp at h
  | cons a l ih =>
    cases j with
    | zero =>
      simp at h
      subst h
      simp [List.countP_cons, hb]
    | succ j =>
      simp at h
      have := ih j h
      simp only [List.set_cons_succ, List.countP_cons, this]
theorem ranges_put {t e : TypeId} (h : w.ranges P k R b r n D left cnt) (K : Keyed P k) (ht : P.underlying t = some (.map k e)) (hn : n < maxLen) {key val : Value} {kl : Lit} {yv : DataW H × List MemPlace}
    (hkey : keyOf P k key = some kl) (hhas : Maps.has D kl = true) (hv : R val = some yv) :
    ∃ w', (Instr.mapUpdate t (.map (some b)) key val).run P w = .ok () w' ∧ w'.ranges P k R b r n (D.put kl yv.1) left cnt ∧ w.grownBy w' (some b) ∧ w'.heap.size = w.heap.size := by
  have hne := h.ne
  obtain ⟨es, clock, since, seen, c0, hb, F, hs, rfl, hr, hold, hc, hl1, hl2, hsc, hsk⟩ := h
  obtain ⟨es', clock', hrun, F', hput, _⟩ := Maps.fit_store (R' := R) K ht hb F (Nat.lt_of_le_of_lt hs hn) (fun _ _ _ _ hz => hz) hkey hv
  rcases K.find w hkey es.toList F.keys with ⟨h1, h2⟩ | ⟨j, e0, h1, h2, h3⟩
  · exfalso
    obtain ⟨p, hp, hpk⟩ := List.any_eq_true.1 hhas
    obtain ⟨x, hx, rfl⟩ := List.mem_map.1 (mem_sorted.1 hp)
    have hk := WideAt.sameKey_eq hpk
    obtain ⟨y, hy⟩ := F.reads x hx
    rw [rg_of hy] at hk
    have hxk := rd_key hy
    rw [hk] at hxk
    exact h2 x hx (K.inj hxk hkey)
  · have hj : es[j]? = some e0 := by simpa using h2
    have hrun2 : (Instr.mapUpdate t (.map (some b)) key val).run P w = .ok () (setBlock w b (.map (es.modify j (fun e' => { e' with key := key, val := val })) clock)) := by
      simp [Instr.mapUpdate, run_underlying ht, MapKept.run_getObj_map hb, K.check w false hkey, h1, hj, h3, K.stays w hkey, MapKept.run_setObj_map _ hb, Result.andThen, setBlock]
    have heq : setBlock w b (.map es' clock') = setBlock w b (.map (es.modify j (fun e' => { e' with key := key, val := val })) clock) := by
      have := hrun.symm.trans hrun2
      injection this
    have hblk : (some (Obj.map es' clock')) = some (Obj.map (es.modify j (fun e' => { e' with key := key, val := val })) clock) := by
      rw [← heap_setBlock_same hb (.map es' clock'), ← heap_setBlock_same hb (.map (es.modify j (fun e' => { e' with key := key, val := val })) clock), heq]
    injection hblk with hblk
    injection hblk with hes hcl
    subst hcl
    have hlist : es'.toList = es.toList.set j { e0 with key := key, val := val } := by
      rw [hes, Array.toList_modify]
      exact Go.ChangeMaps.modify_eq_set _ _ _ _ h2
    have hjl : j < es.toList.length := (List.getElem?_eq_some_iff.1 h2).1
    have hmem0 : e0 ∈ es.toList := List.mem_of_getElem? h2
    have hnew : ({ e0 with key := key, val := val } : MapEntry) ∈ es'.toList := by
      rw [hlist]
      exact List.mem_iff_getElem?.2 ⟨j, by rw [List.getElem?_set, if_pos rfl, if_pos hjl]⟩
    have hrd0 : ∃ y, rd P k R e0 = some y := F.reads e0 hmem0
    have hk0 : (rg P k R e0).1 = kl := by
      obtain ⟨y, hy⟩ := hrd0
      rw [rg_of hy]
      have := rd_key hy
      rw [h3, hkey] at this
      injection this with this
      exact this.symm
    have hk1 : (rg P k R { e0 with key := key, val := val }).1 = kl := by rw [rg_of (rd_mk hkey hv)]
    have who : ∀ x ∈ es'.toList, x = { e0 with key := key, val := val } ∨ x ∈ es.toList := by
      intro x hx
      rw [hlist] at hx
      rcases List.mem_or_eq_of_mem_set hx with h | h
      · exact .inr h
      · exact .inl h
    refine ⟨_, hrun, ⟨es', clock', since, seen, c0, heap_setBlock_same hb _, F', ?_, ?_, (heap_setBlock_other hb _ hne).trans hr, ?_, ?_, ?_, ?_, hsc, hsk⟩,
      ⟨rfl, rfl, rfl, by simp [setBlock], fun i _ hi => heap_setBlock_other hb _ (fun e => hi (by rw [e]))⟩, by simp [setBlock]⟩
    · rw [hes]; simpa using hs
    · rw [DataW.put_eq, hput]
    · intro x hx
      rcases who x hx with rfl | h
      · exact hold e0 hmem0
      · exact hold x h
    · rw [← hc]
      unfold leftOf
      rw [← Array.length_toList, ← Array.length_toList (xs := es.filter _), Array.toList_filter, Array.toList_filter, hlist]
      exact leftOf_size_set es.toList seen j e0 _ h2 rfl
    · intro x hx
      rcases who x hx with rfl | h
      · rw [hk1, ← hk0]
        exact hl1 e0 hmem0
      · exact hl1 x h
    · intro kl' hkl'
      obtain ⟨x, hx, hxk⟩ := hl2 kl' hkl'
      by_cases e : (rg P k R x).1 = kl
      · exact ⟨_, hnew, by rw [hk1, ← e, hxk]⟩
      · refine ⟨x, ?_, hxk⟩
        rw [hlist]
        obtain ⟨i, hi, ex⟩ := List.getElem_of_mem hx
        refine List.mem_iff_getElem?.2 ⟨i, ?_⟩
        rw [List.getElem?_set]
        by_cases hij : j = i
        · exfalso
          subst hij
          rw [List.getElem?_eq_getElem hi, ex] at h2
          injection h2 with h2
          exact e (by rw [h2]; exact hk0)
        · rw [if_neg hij, List.getElem?_eq_getElem hi, ex]
theorem ranges_has (h : w.ranges P k R b r n D left cnt) (K : Keyed P k) {kl : Lit} (hl : left kl = true) : Maps.has D kl = true := by
  obtain ⟨es, clock, since, seen, c0, hb, F, hs, rfl, hr, hold, hc, hl1, hl2, hsc, hsk⟩ := h
  obtain ⟨x, hx, hxk⟩ := hl2 kl hl
  obtain ⟨y, hy⟩ := F.reads x hx
  refine List.any_eq_true.2 ⟨rg P k R x, mem_sorted.2 (List.mem_map.2 ⟨x, hx, rfl⟩), ?_⟩
  rw [hxk]
  refine WideAt.sameKey_self ?_
  rw [← hxk, rg_of hy]
  exact K.key (rd_key hy)
end Go.Proofs.Ytbflennacniacaa
