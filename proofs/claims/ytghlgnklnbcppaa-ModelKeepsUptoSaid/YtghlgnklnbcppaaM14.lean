/- Parts of the proof, side by side: Small, DoOk, DoOk2. -/
import Derived.Test.YtghlgnklnbcppaaM13
import Derived.Test.YtghlgnklnbcppaaM02
set_option linter.unusedVariables false
set_option linter.unusedSimpArgs false
set_option linter.unusedVariables false
set_option linter.unusedSimpArgs false
namespace Go.Proofs.Ytghlgnklnbcppaa
def sum8 (f : Nat → Nat) : Nat := f 0 + f 1 + f 2 + f 3 + f 4 + f 5 + f 6 + f 7
theorem sum8_add (f : Nat → Nat) (b : Nat) (hb : b < 8) : sum8 (fun q => if q = b then f q + 1 else f q) = sum8 f + 1 := by
  have : b = 0 ∨ b = 1 ∨ b = 2 ∨ b = 3 ∨ b = 4 ∨ b = 5 ∨ b = 6 ∨ b = 7 := by omega
  unfold sum8
  rcases this with rfl | rfl | rfl | rfl | rfl | rfl | rfl | rfl <;> simp <;> omega
theorem entsG_len (is : List Ino) : ∀ (es : List En) (p : Option ByteArray) (many : Nat → Nat), (∀ b, b < 8 → many b ≤ 4) → entsG is es p many = true → es.length + sum8 many ≤ 32
  | [], _, many, hm, _ => by
    have := hm 0 (by omega); have := hm 1 (by omega); have := hm 2 (by omega); have := hm 3 (by omega); have := hm 4 (by omega); have := hm 5 (by omega); have := hm 6 (by omega); have := hm 7 (by omega)
    unfold sum8
    simp
    omega
  | e :: es, p, many, hm, h => by
    unfold entsG at h
    split at h
    · cases h
    · split at h
      · cases h
      · rename_i h2
        have hb : bktB e.name < 8 := Nat.mod_lt _ (by omega)
        have ih := entsG_len is es _ _ (fun b hb8 => by
          show (if b = bktB e.name then many b + 1 else many b) ≤ 4
          split
          · rename_i e9; subst e9; omega
          · exact hm b hb8) h
        have h3 := sum8_add many (bktB e.name) hb
        rw [List.length_cons]
        have e4 : sum8 (fun b => if b = bktB e.name then many b + 1 else many b) = sum8 many + 1 := h3
        omega
theorem entsV_len {is : List Ino} {es : List En} (h : entsV is es = true) : es.length ≤ 32 := by
  have := entsG_len is es none _ (fun _ _ => by show 0 ≤ 4; omega) h
  omega
theorem opensG_len (is : List Ino) (n : Nat) : ∀ (ds : List Ds) (o : Ds), 0 ≤ o.core → 0 ≤ o.fd → o.fd < 4 → o.core < (n : Int) → opensG is n ds (some o) = true → (ds.length : Int) + o.core * 4 + o.fd + 1 ≤ 4 * n
  | [], o, h1, h2, h3, h4, _ => by simp; omega
  | d :: ds, o, h1, h2, h3, h4, h => by
    unfold opensG at h
    split at h
    · cases h
    · rename_i hb
      split at h
      · cases h
      · rename_i hp
        unfold dsBad at hb
        simp only [Bool.or_eq_true, decide_eq_true_eq, not_or] at hb
        unfold dsPrev at hp
        simp only [Bool.or_eq_true, Bool.and_eq_true, decide_eq_true_eq, not_or, not_and] at hp
        have ih := opensG_len is n ds d (by omega) (by omega) (by omega) (by omega) h
        have h9 : o.core * 4 + o.fd < d.core * 4 + d.fd := by
          by_cases e : o.core = d.core
          · have := hp.2 e
            omega
          · omega
        rw [List.length_cons]
        push_cast
        omega
theorem opensV_len {s : St} (h : opensV s = true) (h8 : s.made.length ≤ 8) : s.opn.length ≤ 32 := by
  unfold opensV at h
  cases ho : s.opn with
  | nil => simp
  | cons d ds =>
    rw [ho] at h
    unfold opensG at h
    split at h
    · cases h
    · rename_i hb
      split at h
      · cases h
      · unfold dsBad at hb
        simp only [Bool.or_eq_true, decide_eq_true_eq, not_or] at hb
        have := opensG_len s.inos s.made.length ds d (by omega) (by omega) (by omega) (by omega) h
        rw [List.length_cons]
        omega
theorem Good.len {s : St} (h : Good s) : s.inos.length ≤ 257 := by
  have h1 := (good_iff s).2 h
  unfold mayV at h1
  simp only [Bool.and_eq_true, decide_eq_true_eq] at h1
  exact h1.1.2
theorem Good.ents_len {s : St} (h : Good s) {x : Ino} (hx : x ∈ s.inos) : x.ents.length ≤ 32 := by
  cases hd : x.dir
  · rw [(h.files x hx hd).1]; simp
  · exact entsV_len (h.dirs x hx hd).2
theorem Good.opn_len {s : St} (h : Good s) : s.opn.length ≤ 32 := opensV_len h.opn h.m8
end Go.Proofs.Ytghlgnklnbcppaa

set_option linter.unusedVariables false
set_option linter.unusedSimpArgs false
namespace Go.Proofs.Ytghlgnklnbcppaa
def En1 (e : En) : Prop := e.name.size ≤ 140737488355328 ∧ -9223372036854775808 ≤ e.num ∧ e.num ≤ 9223372036854775807
structure Small (a b c : Nat) (s : St) : Prop where
  il : s.inos.length ≤ a
  io : ∀ x ∈ s.inos, x.ents.length ≤ b ∧ x.data.size ≤ 140737488355328 ∧ (-9223372036854775808 ≤ x.num ∧ x.num ≤ 9223372036854775807) ∧ ∀ e ∈ x.ents, En1 e
  ol : s.opn.length ≤ c
  ml : s.made.length ≤ 8
  mr : ∀ m ∈ s.made, 0 ≤ m ∧ m ≤ 33
theorem bulkE_mul (b : Nat) : ∀ (is : List Ino), (∀ x ∈ is, x.ents.length ≤ b) → bulkE is ≤ is.length * b
  | [], _ => by simp [bulkE]
  | x :: xs, h => by
    have h1 := h x List.mem_cons_self
    have h2 := bulkE_mul b xs (fun y hy => h y (List.mem_cons_of_mem _ hy))
    have e : bulkE (x :: xs) = x.ents.length + bulkE xs := rfl
    rw [e, List.length_cons, Nat.add_mul]
    omega
theorem Small.sized {a b c : Nat} {s : St} (h : Small a b c s) (ha : a ≤ 1000) (hb : b ≤ 1000) (hc : c ≤ 1000) : Sized s := by
  refine ⟨?_, fun x hx => ⟨(h.io x hx).2.1, fun e he => ((h.io x hx).2.2.2 e he).1⟩, ⟨fun x hx => ⟨(h.io x hx).2.2.1.1, (h.io x hx).2.2.1.2, fun e he => ((h.io x hx).2.2.2 e he).2⟩, fun m hm => ?_⟩⟩
  · have h1 := bulkE_mul b s.inos (fun x hx => (h.io x hx).1)
    have h2 := h.il
    have h3 := h.ol
    have h4 := h.ml
    have h5 : s.inos.length * b ≤ 1000 * 1000 := Nat.mul_le_mul (by omega) hb
    omega
  · have := h.mr m hm
    omega
theorem Good.small {s : St} (h : Good s) : Small 257 32 32 s := by
  have hm := (good_iff s).2 h
  have hf := may_facts hm
  refine ⟨h.len, fun x hx => ⟨h.ents_len hx, ?_, ?_, fun e he => ⟨?_, ?_, ?_⟩⟩, h.opn_len, h.m8, fun m hm => ?_⟩
  · have := (hf.data x hx).1; omega
  · have := hf.nums x hx; omega
  · have := (hf.data x hx).2 e he; omega
  · have h1 := (hf.linked x hx).2 e he
    obtain ⟨y, hy, hn⟩ := atV_lt (is := s.inos) (t := e.num) (k := (atV s.inos e.num).toNat) (by omega)
    have := hf.nums y (List.mem_of_getElem? hy)
    omega
  · have h1 := (hf.linked x hx).2 e he
    obtain ⟨y, hy, hn⟩ := atV_lt (is := s.inos) (t := e.num) (k := (atV s.inos e.num).toNat) (by omega)
    have := hf.nums y (List.mem_of_getElem? hy)
    omega
  · have := h.mr m hm; omega
theorem Small.more {a b c a' b' c' : Nat} {s : St} (h : Small a b c s) (ha : a ≤ a') (hb : b ≤ b') (hc : c ≤ c') : Small a' b' c' s :=
  ⟨Nat.le_trans h.il ha, fun x hx => ⟨Nat.le_trans (h.io x hx).1 hb, (h.io x hx).2⟩, Nat.le_trans h.ol hc, h.ml, h.mr⟩
theorem Small.ents {a b c : Nat} {s : St} (h : Small a b c s) (dir : Int) (f : List En → List En) (hf : ∀ es, (f es).length ≤ es.length + 1) (hm : ∀ es e, e ∈ f es → e ∈ es ∨ En1 e) : Small a (b + 1) c { s with inos := setEnts s.inos dir f } := by
  refine ⟨by show (setEnts s.inos dir f).length ≤ a; unfold setEnts; rw [List.length_modify]; exact h.il, fun x hx => ?_, h.ol, h.ml, h.mr⟩
  rcases modify_mem _ _ _ _ hx with hx | ⟨z, hz, rfl⟩
  · have := h.io x hx
    exact ⟨by omega, this.2⟩
  · have h1 := h.io z hz
    refine ⟨?_, h1.2.1, h1.2.2.1, fun e he => ?_⟩
    · have := hf z.ents
      show (f z.ents).length ≤ b + 1
      omega
    · rcases hm _ _ he with h2 | h2
      · exact h1.2.2.2 e h2
      · exact h2
theorem putE_mem : ∀ (es : List En) (name : ByteArray) (num : Int) (e : En), e ∈ putE es name num → e ∈ es ∨ e = ⟨name, num⟩
  | [], name, num, e, h => by
    have : e = ⟨name, num⟩ := by simpa [putE] using h
    exact .inr this
  | y :: es, name, num, e, h => by
    unfold putE at h
    split at h
    · rcases List.mem_cons.1 h with h | h
      · exact .inr h
      · exact .inl h
    · rcases List.mem_cons.1 h with rfl | h
      · exact .inl List.mem_cons_self
      · rcases putE_mem es name num e h with h | h
        · exact .inl (List.mem_cons_of_mem _ h)
        · exact .inr h
theorem Small.put {a b c : Nat} {s : St} (h : Small a b c s) (dir : Int) (name : ByteArray) (num : Int) (hn : En1 ⟨name, num⟩) : Small a (b + 1) c { s with inos := setEnts s.inos dir fun es => putE es name num } :=
  h.ents dir _ (fun es => by rw [putE_len]; omega) (fun es e he => by
    rcases putE_mem es name num e he with h | h
    · exact .inl h
    · exact .inr (h ▸ hn))
theorem Small.dropE {a b c : Nat} {s : St} (h : Small a b c s) (dir : Int) (name : ByteArray) : Small a (b + 1) c { s with inos := setEnts s.inos dir fun es => Go.Proofs.Ytghlgnklnbcppaa.dropE es name } :=
  h.ents dir _ (fun es => by have := dropE_len es name; omega) (fun es e he => .inl (dropE_mem es name e he))
theorem putI_mem : ∀ (is : List Ino) (y x : Ino), x ∈ putI is y → x ∈ is ∨ x = y
  | [], y, x, h => by
    have : x = y := by simpa [putI] using h
    exact .inr this
  | z :: zs, y, x, h => by
    unfold putI at h
    split at h
    · rcases List.mem_cons.1 h with h | h
      · exact .inr h
      · exact .inl h
    · rcases List.mem_cons.1 h with rfl | h
      · exact .inl List.mem_cons_self
      · rcases putI_mem zs y x h with h | h
        · exact .inl (List.mem_cons_of_mem _ h)
        · exact .inr h
theorem putI_len : ∀ (is : List Ino) (y : Ino), (putI is y).length = is.length + 1
  | [], _ => rfl
  | z :: zs, y => by
    unfold putI
    split
    · rfl
    · rw [List.length_cons, putI_len zs y, List.length_cons]
theorem Small.putI {a b c : Nat} {s : St} (h : Small a b c s) (y : Ino) (hy : y.ents = []) (hd : y.data.size ≤ 140737488355328) (hn : -9223372036854775808 ≤ y.num ∧ y.num ≤ 9223372036854775807) : Small (a + 1) b c { s with inos := Go.Proofs.Ytghlgnklnbcppaa.putI s.inos y } := by
  refine ⟨by show (Go.Proofs.Ytghlgnklnbcppaa.putI s.inos y).length ≤ a + 1; rw [putI_len]; have := h.il; omega, fun x hx => ?_, h.ol, h.ml, h.mr⟩
  rcases putI_mem _ _ _ hx with hx | rfl
  · exact h.io x hx
  · exact ⟨by rw [hy]; simp, hd, hn, by rw [hy]; intro e he; simp at he⟩
theorem putD_len : ∀ (ds : List Ds) (y : Ds), (putD ds y).length = ds.length + 1
  | [], _ => rfl
  | z :: zs, y => by
    unfold putD
    split
    · rfl
    · rw [List.length_cons, putD_len zs y, List.length_cons]
theorem getLastD_mem {α : Type} : ∀ (l : List α) (d : α), l ≠ [] → l.getLastD d ∈ l
  | [], _, h => absurd rfl h
  | [x], d, _ => by simp [List.getLastD]
  | x :: y :: l, d, _ => by
    rw [List.getLastD_cons]
    exact List.mem_cons_of_mem _ (getLastD_mem (y :: l) x (by simp))
theorem scan_names : ∀ (r cur : List UInt8) (out : List (List UInt8)), (∀ n ∈ out, checkL n = 0) → ∀ n ∈ (scanP r cur out).1, checkL n = 0
  | [], cur, out, ho, n, hn => by
    unfold scanP at hn
    split at hn
    · simp at hn
    · exact ho n hn
  | b :: r, cur, out, ho, n, hn => by
    unfold scanP at hn
    split at hn
    · split at hn
      · rename_i hc
        refine scan_names r _ _ (fun m hm => ?_) n hn
        rcases List.mem_append.1 hm with hm | hm
        · exact ho m hm
        · have : m = cur := by simpa using hm
          rw [this]
          exact hc
      · split at hn <;> simp at hn
    · exact scan_names r _ _ ho n hn
theorem parse_names (l : List UInt8) : ∀ n ∈ (parseL l).1, checkL n = 0 := by
  intro n hn
  unfold parseL at hn
  split at hn
  · simp at hn
  · split at hn
    · simp at hn
    · split at hn
      · simp at hn
      · exact scan_names _ _ _ (by simp) n hn
theorem checkL_size {l : List UInt8} (h : checkL l = 0) : l.length ≤ 12 ∧ l ≠ [] := by
  unfold checkL at h
  split at h
  · cases h
  · split at h
    · cases h
    · rename_i h1 h2
      exact ⟨by omega, fun e => h2 (.inl e)⟩
theorem txt_data (l : List UInt8) : (txt l).data.toList = l := rfl
theorem parentV_name (is : List Ino) (path : ByteArray) (h : (parentV is path).2.2 = 0) : chkB (parentV is path).2.1 = 0 := by
  unfold parentV at h ⊢
  split
  · rename_i h1
    rw [if_pos h1] at h
    exfalso
    have h2 : codeP (parseL path.data.toList).2 = 0 := h
    unfold codeP at h2
    rw [if_neg h1] at h2
    split at h2 <;> omega
  · rename_i h1
    rw [if_neg h1] at h
    split
    · rename_i h2
      rw [if_pos h2] at h
      exact absurd h (by show ¬ (9 : Int) = 0; decide)
    · rename_i h2
      rw [if_neg h2] at h
      split
      · rename_i h3
        rw [if_pos h3] at h
        exact absurd h h3
      · rename_i h3
        rw [if_neg h3] at h
        split
        · rename_i h4
          rw [if_pos h4] at h
          exact absurd h (by show ¬ (7 : Int) = 0; decide)
        · show chkB (txt ((parseL path.data.toList).1.getLastD [])) = 0
          unfold chkB
          rw [txt_data]
          exact parse_names path.data.toList _ (getLastD_mem _ _ h2)
theorem parentV_size (is : List Ino) (path : ByteArray) : (parentV is path).2.1.size ≤ 12 := by
  by_cases h : (parentV is path).2.2 = 0
  · have h1 := parentV_name is path h
    unfold chkB at h1
    have h2 := (checkL_size h1).1
    rwa [Array.length_toList] at h2
  · have e : (parentV is path).2.1 = txt [] := by
      revert h
      unfold parentV
      split
      · intro _; rfl
      · split
        · intro _; rfl
        · split
          · intro _; rfl
          · split
            · intro _; rfl
            · intro h; exact absurd rfl h
    rw [e]
    decide
end Go.Proofs.Ytghlgnklnbcppaa

set_option linter.unusedVariables false
set_option linter.unusedSimpArgs false
namespace Go.Proofs.Ytghlgnklnbcppaa
theorem Good.whole {s : St} (h : Good s) : Whole s.inos := may_whole ((good_iff s).2 h)
theorem Good.num_range {s : St} (h : Good s) {num : Int} (hn : 0 ≤ atV s.inos num) : 1 ≤ num ∧ num ≤ 257 := by
  obtain ⟨k, x, _, hx, hxn⟩ := atV_some hn
  have := (may_facts ((good_iff s).2 h)).nums x (List.mem_of_getElem? hx)
  omega
theorem Small.dropI {a b c : Nat} {s : St} (h : Small a b c s) (num : Int) : Small a b c { s with inos := Go.Proofs.Ytghlgnklnbcppaa.dropI s.inos num } :=
  ⟨by have := (dropI_len s.inos num).1; have := h.il; show (Go.Proofs.Ytghlgnklnbcppaa.dropI s.inos num).length ≤ a; omega, fun x hx => h.io x (dropI_mem _ _ _ hx), h.ol, h.ml, h.mr⟩
theorem Small.sweep {a b c : Nat} {s : St} (h : Small a b c s) (num : Int) : Small a b c (sweepV s num) := by
  unfold sweepV
  split
  · exact h
  · exact h.dropI num
theorem Small.opn {a b c : Nat} {s : St} (h : Small a b c s) (ds : List Ds) (hd : ds.length ≤ c + 1) : Small a b (c + 1) { s with opn := ds } := ⟨h.il, h.io, hd, h.ml, h.mr⟩
theorem Small.setData {a b c : Nat} {s : St} (h : Small a b c s) (num : Int) (d : ByteArray) (hd : d.size ≤ 140737488355328) : Small a b c { s with inos := Go.Proofs.Ytghlgnklnbcppaa.setData s.inos num d } := by
  refine ⟨by show (Go.Proofs.Ytghlgnklnbcppaa.setData s.inos num d).length ≤ a; unfold Go.Proofs.Ytghlgnklnbcppaa.setData; rw [List.length_modify]; exact h.il, fun x hx => ?_, h.ol, h.ml, h.mr⟩
  rcases modify_mem _ _ _ _ hx with hx | ⟨z, hz, rfl⟩
  · exact h.io x hx
  · have := h.io z hz
    exact ⟨this.1, hd, this.2.2⟩
theorem Small.made {a b c : Nat} {s : St} (h : Small a b c s) (xs : List Int) (hl : xs.length ≤ 8) (hr : ∀ m ∈ xs, 0 ≤ m ∧ m ≤ 33) : Small a b c { s with made := xs } := ⟨h.il, h.io, h.ol, hl, hr⟩
theorem layL_len (l : List UInt8) (o : Nat) (d : List UInt8) : (layL l o d).length = max l.length (o + d.length) := by
  unfold layL
  rw [List.length_append, List.length_append, List.length_take, List.length_drop, sizedL_len]
  omega
theorem txt_size (l : List UInt8) : (txt l).size = l.length := by
  show l.toArray.size = _
  simp
theorem make_sized {s : St} (h : Good s) (c : Ca) (hc0 : 0 ≤ c.core) (hc1 : c.core < (s.made.length : Int)) : MakeSized s c ∧ Sized (make1V s c).1 := by
  have hs := h.small
  have hm8 := h.m8
  have hget : 0 ≤ s.made.getD c.core.toNat 0 ∧ s.made.getD c.core.toNat 0 ≤ 32 := by
    have hlt : c.core.toNat < s.made.length := by omega
    rw [List.getD_eq_getElem?_getD, List.getElem?_eq_getElem hlt]
    exact h.mr _ (List.getElem_mem hlt)
  have hset : ∀ m ∈ s.made.set c.core.toNat (s.made.getD c.core.toNat 0 + 1), 0 ≤ m ∧ m ≤ 33 := by
    intro m hm
    rcases List.mem_or_eq_of_mem_set hm with hm | rfl
    · have := h.mr m hm; omega
    · omega
  have h1 := hs.made _ (by rw [List.length_set]; exact hm8) hset
  have hns := parentV_size s.inos c.path
  have hen : En1 ⟨(parentV s.inos c.path).2.1, 2 + c.core + 8 * s.made.getD c.core.toNat 0⟩ := ⟨by show (parentV s.inos c.path).2.1.size ≤ _; omega, by show (-9223372036854775808 : Int) ≤ 2 + c.core + 8 * s.made.getD c.core.toNat 0; omega, by show 2 + c.core + 8 * s.made.getD c.core.toNat 0 ≤ 9223372036854775807; omega⟩
  have h2 := h1.put (parentV s.inos c.path).1 _ _ hen
  have h3 := h2.putI ⟨2 + c.core + 8 * s.made.getD c.core.toNat 0, decide (c.kind = 1), [], txt []⟩ rfl (by show (txt []).size ≤ _; rw [txt_size]; simp) ⟨by show (-9223372036854775808 : Int) ≤ 2 + c.core + 8 * s.made.getD c.core.toNat 0; omega, by show 2 + c.core + 8 * s.made.getD c.core.toNat 0 ≤ 9223372036854775807; omega⟩
  have h4 : Sized (make1V s c).1 := by
    unfold make1V
    split
    · exact hs.sized (by omega) (by omega) (by omega)
    · split
      · exact hs.sized (by omega) (by omega) (by omega)
      · split
        · exact hs.sized (by omega) (by omega) (by omega)
        · exact h3.sized (by omega) (by omega) (by omega)
  exact ⟨⟨h1.sized (by omega) (by omega) (by omega), h2.sized (by omega) (by omega) (by omega), h4, by omega⟩, h4⟩
theorem open_sized {s : St} (h : Good s) (c : Ca) (want : Int) : Sized (openedV s c want).1 := by
  have hs := h.small
  have h0 := hs.sized (by omega) (by omega) (by omega)
  have hp : ∀ y, Sized { s with opn := putD s.opn y } := fun y => (hs.opn _ (by rw [putD_len]; have := h.opn_len; omega)).sized (by omega) (by omega) (by omega)
  unfold openedV
  repeat (first | exact h0 | exact hp _ | split)
theorem fd_sized {s : St} (h : Good s) (c : Ca) : Sized (byFdV s c).1 := by
  have hs := h.small
  have h0 := hs.sized (by omega) (by omega) (by omega)
  have hd : Sized (sweepV { s with opn := dropD s.opn c.core c.fd } (fdV s.opn c.core c.fd)) := ((hs.opn _ (by have := dropD_len s.opn c.core c.fd; have := h.opn_len; omega)).sweep _).sized (by omega) (by omega) (by omega)
  have hdat : ∀ num : Int, (dataAt s.inos num).size ≤ 256 := by
    intro num
    unfold dataAt
    rcases atV_cases s.inos num with ⟨h1, _⟩ | ⟨k, x, h1, hx, _, _⟩
    · rw [h1]; show (txt []).size ≤ 256; rw [txt_size]; simp
    · rw [h1, inoAt_nat, hx]
      exact ((may_facts ((good_iff s).2 h)).data x (List.mem_of_getElem? hx)).1
  unfold byFdV
  split
  · exact h0
  split
  · exact hd
  split
  · split <;> exact h0
  split
  · split
    · exact h0
    split
    · exact h0
    split
    · exact h0
    · rename_i h5 h6 h7
      refine (hs.setData _ _ ?_).sized (by omega) (by omega) (by omega)
      rw [txt_size, layL_len, Array.length_toList, Array.length_toList]
      have := hdat (fdV s.opn c.core c.fd)
      have e1 : (dataAt s.inos (fdV s.opn c.core c.fd)).data.size = (dataAt s.inos (fdV s.opn c.core c.fd)).size := rfl
      have e2 : c.data.data.size = c.data.size := rfl
      omega
  split
  · split
    · exact h0
    · refine (hs.setData _ _ ?_).sized (by omega) (by omega) (by omega)
      rw [txt_size, sizedL_len]
      omega
  split <;> exact h0
theorem link_sized {s : St} (h : Good s) (c : Ca) : Sized (linkV s c).1 := by
  have hs := h.small
  have h0 := hs.sized (by omega) (by omega) (by omega)
  have hns := parentV_size s.inos c.path2
  unfold linkV
  split
  · exact h0
  · rename_i hf
    have hn := h.num_range (findV_at h.whole c.path (by omega))
    have h1 := (hs.put (parentV s.inos c.path2).1 (parentV s.inos c.path2).2.1 (findV s.inos c.path).1 ⟨by show (parentV s.inos c.path2).2.1.size ≤ _; omega, by show (-9223372036854775808 : Int) ≤ (findV s.inos c.path).1; omega, by show (findV s.inos c.path).1 ≤ 9223372036854775807; omega⟩).sized (by omega) (by omega) (by omega)
    repeat (first | exact h0 | exact h1 | split)
theorem names_sized {s : St} (h : Good s) (c : Ca) : Sized (namesV s c).1 := by
  have hs := h.small
  have h0 := hs.sized (by omega) (by omega) (by omega)
  have hns := parentV_size s.inos c.path2
  unfold namesV
  split
  · exact link_sized h c
  split
  · exact h0
  split
  · exact h0
  · rename_i hen
    have hn := h.num_range (entV_whole h.whole hen)
    have h1 := hs.dropE (parentV s.inos c.path).1 (parentV s.inos c.path).2.1
    have h2 := (h1.sweep (entV s.inos (parentV s.inos c.path).1 (parentV s.inos c.path).2.1)).sized (by omega) (by omega) (by omega)
    have h3 := (h1.put (parentV s.inos c.path2).1 (parentV s.inos c.path2).2.1 (entV s.inos (parentV s.inos c.path).1 (parentV s.inos c.path).2.1) ⟨by show (parentV s.inos c.path2).2.1.size ≤ _; omega, by show (-9223372036854775808 : Int) ≤ entV s.inos (parentV s.inos c.path).1 (parentV s.inos c.path).2.1; omega, by show entV s.inos (parentV s.inos c.path).1 (parentV s.inos c.path).2.1 ≤ 9223372036854775807; omega⟩).sized (by omega) (by omega) (by omega)
    split
    · unfold renameV
      repeat (first | exact h0 | exact h3 | split)
    · repeat (first | exact h0 | exact h2 | split)
end Go.Proofs.Ytghlgnklnbcppaa
