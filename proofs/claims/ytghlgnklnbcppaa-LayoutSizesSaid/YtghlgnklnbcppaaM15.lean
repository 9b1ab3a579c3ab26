/- Parts of the proof, side by side: MoReachP, LaInode. -/
import Derived.Test.YtghlgnklnbcppaaFsMay
import Derived.Test.YtghlgnklnbcppaaM13
import Derived.Test.YtghlgnklnbcppaaFsEnts
set_option linter.unusedVariables false
set_option linter.unusedSimpArgs false
/- The model's way to look for what is found from the root on: level by level. No program in sight. -/
namespace Go.Proofs.Ytghlgnklnbcppaa
set_option linter.unusedVariables false
/-- Entries are in directories alone, and all lead somewhere. -/
def Linked (is : List Ino) : Prop := ∀ x ∈ is, (x.dir = false → x.ents = []) ∧ ∀ e ∈ x.ents, 0 ≤ atV is e.num
/-- What is found, with these places left to look at, and of one place these entries. -/
structure FoundQ (is : List Ino) (todo : List Int) (cur : Nat) (rest : List En) (f : List Bool) : Prop where
  len : f.length = is.length
  sound : ∀ k, f.getD k false = true → Reach is k
  queue : ∀ t ∈ todo, ∃ k : Nat, t = (k : Int) ∧ f.getD k false = true
  closed : ∀ (k : Nat) (x : Ino), f.getD k false = true → is[k]? = some x → x.dir = true → ∀ e ∈ x.ents, ∀ j : Nat, atV is e.num = (j : Int) → f.getD j false = true ∨ (k : Int) ∈ todo ∨ (k = cur ∧ e ∈ rest)
  root : ∀ j : Nat, atV is 1 = (j : Int) → f.getD j false = true
theorem FoundQ.done {is : List Ino} {f : List Bool} {cur : Nat} (h : FoundQ is [] cur [] f) : f = reachV is :=
  Found.same ⟨h.len, h.sound, fun t ht => by simp at ht, fun k x hk hx hd e he j hj => by
    rcases h.closed k x hk hx hd e he j hj with h1 | h1 | h1
    · exact .inl h1
    · simp at h1
    · simp at h1, fun j hj => .inl (h.root j hj)⟩
theorem FoundQ.start {is : List Ino} {x : Ino} (h0 : is[0]? = some x) (hn : x.num = 1) : FoundQ is [0] 0 [] ((List.replicate is.length false).set 0 true) := by
  have hl : 0 < is.length := (List.getElem?_eq_some_iff.1 h0).1
  have ha : atV is 1 = (0 : Nat) := by
    rcases atV_cases is 1 with ⟨_, h2⟩ | ⟨k, y, h1, h2, h3, h4⟩
    · exact absurd hn (h2 x (List.mem_of_getElem? h0))
    · rcases Nat.eq_zero_or_pos k with h | h
      · rw [h1, h]
      · exact absurd hn (h4 0 x h h0)
  have hf : ∀ k, ((List.replicate is.length false).set 0 true).getD k false = true → k = 0 := fun k hk => by
    rw [getD_set _ 0 k (by simpa using hl)] at hk
    split at hk
    · assumption
    · rw [List.getD_eq_getElem?_getD, List.getElem?_replicate] at hk
      split at hk <;> cases hk
  have hf0 : ((List.replicate is.length false).set 0 true).getD 0 false = true := by rw [getD_set _ 0 0 (by simpa using hl), if_pos rfl]
  refine ⟨by simp, fun k hk => ?_, fun t ht => ?_, fun k y hk hy hd e he j hj => ?_, fun j hj => ?_⟩
  · rw [hf k hk]; exact .root 0 ha
  · have : t = 0 := by simpa using ht
    exact ⟨0, this, hf0⟩
  · rw [hf k hk]; exact .inr (.inl (by simp))
  · have : j = 0 := by rw [ha] at hj; omega
    rw [this]; exact hf0
theorem FoundQ.take {is : List Ino} {t : Int} {ts : List Int} {f : List Bool} {c : Nat} (h : FoundQ is (t :: ts) c [] f) : ∃ (k : Nat) (x : Ino), t = (k : Int) ∧ is[k]? = some x ∧ f.getD k false = true ∧ FoundQ is ts k x.ents f := by
  obtain ⟨k, rfl, hk⟩ := h.queue t (by simp)
  have hkl : k < is.length := by
    rw [← h.len]
    apply Classical.byContradiction
    intro hn
    rw [List.getD_eq_getElem?_getD, List.getElem?_eq_none (by omega)] at hk
    cases hk
  refine ⟨k, is[k], rfl, List.getElem?_eq_getElem hkl, hk, ⟨h.len, h.sound, fun u hu => h.queue u (by simp [hu]), fun i y hi hy hd e he j hj => ?_, h.root⟩⟩
  rcases h.closed i y hi hy hd e he j hj with h1 | h1 | h1
  · exact .inl h1
  · rcases List.mem_cons.1 h1 with h2 | h2
    · have e1 : i = k := by omega
      subst e1
      rw [List.getElem?_eq_getElem hkl] at hy
      have : is[i] = y := Option.some.inj hy
      rw [this]
      exact .inr (.inr ⟨rfl, he⟩)
    · exact .inr (.inl h2)
  · simp at h1
theorem FoundQ.old {is : List Ino} {ts : List Int} {k j : Nat} {e : En} {es : List En} {f : List Bool} (h : FoundQ is ts k (e :: es) f) (hj : atV is e.num = (j : Int)) (hf : f.getD j false = true) : FoundQ is ts k es f := by
  refine ⟨h.len, h.sound, h.queue, fun i y hi hy hd e2 he i2 hi2 => ?_, h.root⟩
  rcases h.closed i y hi hy hd e2 he i2 hi2 with h1 | h1 | ⟨h1, h2⟩
  · exact .inl h1
  · exact .inr (.inl h1)
  · rcases List.mem_cons.1 h2 with h3 | h3
    · subst h3
      have : i2 = j := by omega
      rw [this]; exact .inl hf
    · exact .inr (.inr ⟨h1, h3⟩)
theorem FoundQ.new {is : List Ino} {ts : List Int} {k j : Nat} {x : Ino} {e : En} {es : List En} {f : List Bool} (h : FoundQ is ts k (e :: es) f) (hk : f.getD k false = true) (hx : is[k]? = some x) (hd : x.dir = true) (he : e ∈ x.ents) (hj : atV is e.num = (j : Int)) :
    FoundQ is (ts ++ [(j : Int)]) k es (f.set j true) := by
  have hjl : j < f.length := by
    rw [h.len]
    obtain ⟨y, hy, _⟩ := atV_lt hj
    exact (List.getElem?_eq_some_iff.1 hy).1
  have old : ∀ i, f.getD i false = true → (f.set j true).getD i false = true := fun i hi => by rw [getD_set f j i hjl]; split; rfl; exact hi
  have new : (f.set j true).getD j false = true := by rw [getD_set f j j hjl, if_pos rfl]
  refine ⟨by rw [List.length_set]; exact h.len, fun i hi => ?_, fun t ht => ?_, fun i y hi hy hd2 e2 he2 i2 hi2 => ?_, fun i hi => old i (h.root i hi)⟩
  · rw [getD_set f j i hjl] at hi
    by_cases e1 : i = j
    · subst e1
      exact .step k i x e (h.sound k hk) hx hd he hj
    · rw [if_neg e1] at hi; exact h.sound i hi
  · rcases List.mem_append.1 ht with h1 | h1
    · obtain ⟨i, e1, e2⟩ := h.queue t h1
      exact ⟨i, e1, old i e2⟩
    · exact ⟨j, by simpa using h1, new⟩
  · by_cases e1 : i = j
    · subst e1; exact .inr (.inl (by simp))
    · rw [getD_set f j i hjl, if_neg e1] at hi
      rcases h.closed i y hi hy hd2 e2 he2 i2 hi2 with h1 | h1 | ⟨h1, h2⟩
      · exact .inl (old _ h1)
      · exact .inr (.inl (List.mem_append.2 (.inl h1)))
      · rcases List.mem_cons.1 h2 with h3 | h3
        · subst h3
          have : i2 = j := by omega
          rw [this]; exact .inl new
        · exact .inr (.inr ⟨h1, h3⟩)
/-- How many places are not found. -/
def unF : List Bool → Nat
  | [] => 0
  | b :: f => (if b then 0 else 1) + unF f
theorem unF_le : ∀ f : List Bool, unF f ≤ f.length
  | [] => Nat.le_refl _
  | b :: f => by
    have := unF_le f
    unfold unF
    rw [List.length_cons]
    split <;> omega
theorem unF_set : ∀ (f : List Bool) (k : Nat), k < f.length → f.getD k false = false → unF f = unF (f.set k true) + 1
  | [], _, h, _ => by simp at h
  | b :: f, 0, _, h => by
    have : b = false := by simpa using h
    subst this
    show 1 + unF f = 0 + unF f + 1
    omega
  | b :: f, k + 1, h, h2 => by
    have := unF_set f k (by simpa using h) (by simpa using h2)
    show (if b = true then 0 else 1) + unF f = (if b = true then 0 else 1) + unF (f.set k true) + 1
    omega
/-- How many entries lead to a place, of the inodes up to one, and of so many of its entries. -/
def partL (is : List Ino) (i q : Nat) (num : Int) : Nat := linkI (is.take i) num + (match is[i]? with | none => 0 | some x => linkE (x.ents.take q) num)
theorem linkE_take (es : List En) (q : Nat) (e : En) (num : Int) (h : es[q]? = some e) : linkE (es.take (q + 1)) num = linkE (es.take q) num + if e.num = num then 1 else 0 := by
  induction es generalizing q with
  | nil => simp at h
  | cons x xs ih =>
    cases q with
    | zero =>
      have : x = e := by simpa using h
      subst this
      simp [linkE]
    | succ q =>
      have := ih q (by simpa using h)
      simp only [List.take_succ_cons, linkE]
      rw [this]
      omega
theorem linkI_take (is : List Ino) (i : Nat) (x : Ino) (num : Int) (h : is[i]? = some x) : linkI (is.take (i + 1)) num = linkI (is.take i) num + if x.dir then linkE x.ents num else 0 := by
  induction is generalizing i with
  | nil => simp at h
  | cons y ys ih =>
    cases i with
    | zero =>
      have : y = x := by simpa using h
      subst this
      simp [linkI]
    | succ i =>
      have := ih i (by simpa using h)
      simp only [List.take_succ_cons, linkI]
      rw [this]
      omega
theorem partL_zero (is : List Ino) (num : Int) : partL is 0 0 num = 0 := by
  unfold partL
  cases is with
  | nil => rfl
  | cons x xs => simp [linkI, linkE]
theorem partL_entry {is : List Ino} {i q : Nat} {x : Ino} {e : En} (hx : is[i]? = some x) (he : x.ents[q]? = some e) (num : Int) : partL is i (q + 1) num = partL is i q num + if e.num = num then 1 else 0 := by
  unfold partL
  rw [hx]
  simp only
  rw [linkE_take _ _ _ _ he]
  omega
theorem partL_next {is : List Ino} (hl : Linked is) {i q : Nat} {x : Ino} (hx : is[i]? = some x) (hq : x.ents.length ≤ q) (num : Int) : partL is (i + 1) 0 num = partL is i q num := by
  unfold partL
  rw [hx, linkI_take _ _ _ _ hx]
  simp only
  rw [List.take_of_length_le hq]
  have h0 : (match is[i + 1]? with | none => 0 | some x => linkE (x.ents.take 0) num) = 0 := by
    cases is[i + 1]? with
    | none => rfl
    | some y => simp [linkE]
  rw [h0]
  cases hd : x.dir
  · rw [(hl x (List.mem_of_getElem? hx)).1 hd]
    simp [linkE]
  · simp
theorem partL_all {is : List Ino} {i : Nat} (h : is.length ≤ i) (num : Int) : partL is i 0 num = linkI is num := by
  unfold partL
  rw [List.take_of_length_le h, List.getElem?_eq_none h]
  simp
theorem linkE_le : ∀ (es : List En) (num : Int), linkE es num ≤ es.length
  | [], _ => Nat.le_refl _
  | e :: es, num => by
    have := linkE_le es num
    unfold linkE
    rw [List.length_cons]
    split <;> omega
theorem linkI_le : ∀ (is : List Ino) (num : Int), linkI is num ≤ bulkE is
  | [], _ => Nat.le_refl _
  | x :: xs, num => by
    have h1 := linkI_le xs num
    have h2 := linkE_le x.ents num
    have h3 : bulkE (x :: xs) = x.ents.length + bulkE xs := rfl
    unfold linkI
    rw [h3]
    split <;> omega
theorem bulkE_take (is : List Ino) (i : Nat) (x : Ino) (h : is[i]? = some x) : bulkE (is.take i) + x.ents.length ≤ bulkE is := by
  induction is generalizing i with
  | nil => simp at h
  | cons y ys ih =>
    have h3 : bulkE (y :: ys) = y.ents.length + bulkE ys := rfl
    cases i with
    | zero =>
      have : y = x := by simpa using h
      subst this
      rw [h3, List.take_zero]
      have : bulkE [] = 0 := rfl
      omega
    | succ i =>
      have := ih i (by simpa using h)
      rw [List.take_succ_cons, h3]
      have h4 : bulkE (y :: ys.take i) = y.ents.length + bulkE (ys.take i) := rfl
      omega
theorem partL_le (is : List Ino) (i q : Nat) (num : Int) : partL is i q num ≤ bulkE is := by
  unfold partL
  cases h : is[i]? with
  | none =>
    have : is.length ≤ i := List.getElem?_eq_none_iff.1 h
    rw [List.take_of_length_le this]
    have := linkI_le is num
    simp only
    omega
  | some x =>
    have h1 := bulkE_take is i x h
    have h2 := linkI_le (is.take i) num
    have h3 := linkE_le (x.ents.take q) num
    have h4 : (x.ents.take q).length ≤ x.ents.length := by simp; omega
    simp only
    omega
end Go.Proofs.Ytghlgnklnbcppaa

/- The layout's writer: text, flag, inode. -/
namespace Go.Proofs.Ytghlgnklnbcppaa
open Go.RowKit
set_option linter.unusedVariables false
set_option linter.unusedSimpArgs false
def textL (s : ByteArray) : List UInt8 := numL s.size ++ s.data.toList
theorem textL_len (s : ByteArray) : (textL s).length ≤ 11 + s.size := by
  unfold textL
  rw [List.length_append]
  have := numL_len s.size
  have e : s.data.toList.length = s.size := Array.length_toList
  omega
theorem textL_ge (s : ByteArray) : s.size ≤ (textL s).length := by
  unfold textL
  rw [List.length_append]
  have e : s.data.toList.length = s.size := Array.length_toList
  omega
set_option maxRecDepth 100000 in
set_option maxHeartbeats 2000000 in
theorem text_any (B b : Nat) (l : List UInt8) (s : ByteArray) (w : World) (h : Bld B b l w) (hs : s.size ≤ 1099511627776) (hlen : l.length + 11 + s.size ≤ 140737488355328) (hBw : B ≤ w.heap.size) :
    Calls Try.prog 59 #[.pointer (some ⟨b, 0, none⟩), .string s] w fun e w' => e = .returned (.tuple #[]) ∧ Bld B b (l ++ textL s) w' ∧ Wr B b w w' := by
  have HB0 := Lib.hid h
  clear h
  go_enter Try.func59, Try.ntmps59
  go_wp2_with fail
  refine (number_any B b l s.size _ HB0.out hs (by omega) hBw).mono ?_
  rintro e1 w1 ⟨rfl, hb1, he1⟩
  have HB1 := Lib.hid hb1
  have HE1 := Lib.hid he1
  have hsz : B ≤ w1.heap.size := Nat.le_trans hBw he1.below.size
  clear hb1 he1
  go_wp2_with fail
  refine (writestring_any B b (l ++ numL s.size) s _ HB1.out (by rw [List.length_append]; have := numL_len s.size; omega) hsz).mono ?_
  rintro e2 w2 ⟨rfl, hb2, he2⟩
  have HB2 := Lib.hid hb2
  have HE2 := Lib.hid (HE1.out.trans he2)
  clear hb2 he2
  go_wp2_with fail
  go_end0
  exact ⟨rfl, by unfold textL; rw [← List.append_assoc]; exact HB2.out, HE2.out⟩
theorem flag_any (is : Bool) (w : World) : Calls Try.prog 58 #[.bool is] w fun e w' => e = .returned (.int .i64 ((if is then 1 else 0 : Nat) : Int)) ∧ w = w' := by
  go_enter Try.func58, Try.ntmps58
  cases is
  · go_wp2_with fail
    go_ret
    exact ⟨rfl, rfl⟩
  · go_wp2_with fail
    go_ret
    exact ⟨rfl, rfl⟩
def entL (e : En) : List UInt8 := textL e.name ++ numL e.num.toNat
def entsL : List En → List UInt8
  | [] => []
  | e :: es => entL e ++ entsL es
def inodeL (x : Ino) : List UInt8 :=
  numL x.num.toNat ++ numL (if x.dir then 1 else 0) ++ (if x.dir then numL x.ents.length ++ entsL x.ents else textL x.data)
/-- Numbers and texts that may be written. -/
structure InoOk (x : Ino) : Prop where
  num : 0 ≤ x.num ∧ x.num ≤ 1099511627776
  data : x.data.size ≤ 1099511627776
  ents : x.ents.length ≤ 1099511627776 ∧ ∀ e ∈ x.ents, 0 ≤ e.num ∧ e.num ≤ 1099511627776 ∧ e.name.size ≤ 1099511627776
theorem entsL_drop (es : List En) (q : Nat) (e : En) (h : es[q]? = some e) : entsL (es.drop q) = entL e ++ entsL (es.drop (q + 1)) := by
  obtain ⟨h1, h2⟩ := List.getElem?_eq_some_iff.1 h
  rw [List.drop_eq_getElem_cons h1, h2, entsL]
theorem toNat_val {x : Int} (h : 0 ≤ x) : Value.int .i64 x = Value.int .i64 ((x.toNat : Nat) : Int) := by rw [Int.toNat_of_nonneg h]
set_option maxRecDepth 100000 in
set_option maxHeartbeats 4000000 in
theorem inode_any (B b g off : Nat) (l : List UInt8) (x : Ino) (E : Option Addr) (m d : Nat) (w : World) (h : Bld B b l w) (hok : InoOk x) (hlen : l.length + (inodeL x).length + 11 ≤ 140737488355328) (hBw : B ≤ w.heap.size)
    (hx : ∀ w', Wr B b w w' → (w'.cell? ⟨g, off, none⟩ = some (.int .i64 x.num) ∧ w'.cell? ⟨g, off + 1, none⟩ = some (.bool x.dir) ∧ w'.cell? ⟨g, off + 2, none⟩ = some (.slice E m d) ∧ w'.cell? ⟨g, off + 3, none⟩ = some (.string x.data)) ∧ EntsAt none w' E m x.ents) :
    Calls Try.prog 29 #[.pointer (some ⟨b, 0, none⟩), .pointer (some ⟨g, off, none⟩)] w fun e w' => e = .returned (.tuple #[]) ∧ Bld B b (l ++ inodeL x) w' ∧ Wr B b w w' := by
  have HB0 := Lib.hid h
  have HOK := Lib.hid hok
  have HX := Lib.hid hx
  have a0 := (hx w (Wr.refl _ _ _)).1.1
  have hn0 := hok.num
  rw [toNat_val hn0.1] at a0
  obtain ⟨X, hX⟩ : ∃ X, x.num.toNat = X := ⟨_, rfl⟩
  rw [hX] at a0
  have hX2 : X ≤ 1099511627776 := by omega
  obtain ⟨DX, hDX⟩ : ∃ DX, x.dir = DX := ⟨_, rfl⟩
  have HDX := Lib.hid hDX
  have HXX := Lib.hid hX
  have hlen2 : (inodeL x).length = (numL X).length + (numL (if DX then 1 else 0)).length + (if DX then numL x.ents.length ++ entsL x.ents else textL x.data).length := by
    unfold inodeL
    rw [hDX, hX, List.length_append, List.length_append]
  have HLE := Lib.hid hlen2
  clear h hok hx hn0 hX hDX hlen2
  go_enter Try.func29, Try.ntmps29
  go_wp2_with fail
  refine (number_any B b l X _ HB0.out hX2 (by omega) hBw).mono ?_
  rintro e1 w1 ⟨rfl, hb1, he1⟩
  have HB1 := Lib.hid hb1
  have HE1 := Lib.hid he1
  have hsz1 : B ≤ w1.heap.size := Nat.le_trans hBw he1.below.size
  have a1 := (HX.out _ HE1.out).1.2.1
  rw [HDX.out] at a1
  clear hb1 he1 a0
  go_wp2_with fail
  refine (flag_any DX _).mono ?_
  rintro e2 w2 ⟨rfl, rfl⟩
  obtain ⟨FL, hFL⟩ : ∃ FL : Nat, (if DX then 1 else 0) = FL := ⟨_, rfl⟩
  rw [hFL] at HLE ⊢
  have hF2 : FL ≤ 1099511627776 := by rw [← hFL]; split <;> omega
  have HFL := Lib.hid hFL
  clear hFL
  go_wp2_with fail
  refine (number_any B b (l ++ numL X) FL _ HB1.out hF2 (by rw [List.length_append]; have := HLE.out; omega) hsz1).mono ?_
  rintro e3 w3 ⟨rfl, hb3, he3⟩
  have HB3 := Lib.hid hb3
  have HE3 := Lib.hid (HE1.out.trans he3)
  have hsz3 : B ≤ w3.heap.size := Nat.le_trans hsz1 he3.below.size
  have a1' := (HX.out _ HE3.out).1.2.1
  rw [HDX.out] at a1'
  have a2 := (HX.out _ HE3.out).1.2.2.1
  have a3 := (HX.out _ HE3.out).1.2.2.2
  clear hb3 he3 a1
  cases DX
  · go_wp2_with fail
    refine (text_any B b (l ++ numL X ++ numL FL) x.data _ HB3.out HOK.out.data (by rw [List.length_append, List.length_append]; have h1 := HLE.out; have h2 := textL_ge x.data; simp only [Bool.false_eq_true, if_false] at h1; omega) hsz3).mono ?_
    rintro e4 w4 ⟨rfl, hb4, he4⟩
    have HB4 := Lib.hid hb4
    have HE4 := Lib.hid (HE3.out.trans he4)
    clear hb4 he4
    go_wp2_with fail
    refine bodyPost_ret (results_none rfl _ _ _) rfl ?_
    exact ⟨rfl, by unfold inodeL; rw [HDX.out, HXX.out, HFL.out, if_neg (by simp), ← List.append_assoc, ← List.append_assoc]; exact HB4.out, HE4.out⟩
  · go_wp2_with fail
    have hml : x.ents.length = m := (HX.out _ HE3.out).2.1
    have HML := Lib.hid hml
    have hm1 : m ≤ 1099511627776 := by have := HOK.out.ents.1; omega
    have hle := HLE.out
    simp only [if_true, List.length_append] at hle
    rw [hml] at hle
    have HLE2 := Lib.hid hle
    refine (number_any B b (l ++ numL X ++ numL FL) m _ HB3.out hm1 (by rw [List.length_append, List.length_append]; omega) hsz3).mono ?_
    rintro e4 w4 ⟨rfl, hb4, he4⟩
    have HB4 := Lib.hid hb4
    have HE4 := Lib.hid (HE3.out.trans he4)
    have hsz4 : B ≤ w4.heap.size := Nat.le_trans hsz3 he4.below.size
    have b2 := (HX.out _ HE4.out).1.2.2.1
    obtain ⟨P, hP⟩ : ∃ P, l ++ numL X ++ numL FL ++ numL m = P := ⟨_, rfl⟩
    rw [hP] at HB4
    have hpl : P.length + (entsL x.ents).length + 11 ≤ 140737488355328 := by
      rw [← hP, List.length_append, List.length_append, List.length_append]
      omega
    have HP := Lib.hid hP
    clear hb4 he4 a2 a3 a1' hml hle hP
    go_wp2_with fail
    clear b2
    go_loopw [42] (fun i wr => ∃ (q : Nat) (l' : List UInt8), i = .int .i64 q ∧ q ≤ m ∧ Bld B b l' wr ∧ Wr B b w wr ∧ l' ++ entsL (x.ents.drop q) = P ++ entsL x.ents) (fun i _ => m - (intOf i).toNat)
    case atStart => exact ⟨0, P, rfl, by omega, HB4.out, HE4.out, rfl⟩
    case round =>
      obtain ⟨q, l', rfl, hq, hbl, hbel, hc⟩ := hrel
      have HBL := Lib.hid hbl
      have HBE := Lib.hid hbel
      have hszr : B ≤ wr.heap.size := Nat.le_trans hBw hbel.below.size
      clear hbl hbel
      by_cases hlt : q < m
      · obtain ⟨g3, off3, e, rfl, hg3, he, hd3, hmem3, f0, f1⟩ := (HX.out _ HBE.out).2.get q hlt
        have r0 : (0 : Int) ≤ (q : Int) := by omega
        have r1 : (q : Int) < (m : Int) := by omega
        obtain ⟨hn0, hn1, hsz0⟩ := HOK.out.ents.2 e hmem3
        have x0 := f0
        have x1 := f1
        rw [toNat_val hn0] at x1
        obtain ⟨Y, hY⟩ : ∃ Y, e.num.toNat = Y := ⟨_, rfl⟩
        rw [hY] at x1
        obtain ⟨V2, hV2, v0, v1, hal, hlt3⟩ := box_en wr e.name Y
        have HB5 := Lib.hid (HBL.out.keep hal)
        have HE5 := Lib.hid (HBE.out.trans (Wr.of_below hal hszr))
        have hsz5 : B ≤ V2.heap.size := Nat.le_trans hszr hal.size
        have hbx : B ≤ wr.heap.size := hszr
        rw [entsL_drop _ _ _ he] at hc
        have hlc := congrArg List.length hc
        unfold entL at hlc hc
        rw [hY] at hc hlc
        rw [List.length_append, List.length_append, List.length_append, List.length_append] at hlc
        have htx := textL_ge e.name
        have HC := Lib.hid hc
        have HLC := Lib.hid hlc
        have hY2 : Y ≤ 1099511627776 := by omega
        clear hc hlc hal f0 f1 hd3 hmem3 hY
        go_wp2_with fail
        refine (text_any B b l' e.name _ HB5.out hsz0 (by have := HLC.out; omega) hsz5).mono ?_
        rintro e5 w5 ⟨rfl, hb5, he5⟩
        have hbne : wr.heap.size ≠ b := by
          intro e9
          have := HBL.out.lt
          omega
        have hobj : V2.heap[wr.heap.size]? = some (.cells #[.string e.name, .int .i64 Y] 103 (0, 0)) := by rw [← hV2]; exact heap_alloc_new wr _
        have hobj5 := he5.keep _ _ hobj hbne (by intro cs fr h9; injection h9 with _ h9; exact absurd h9 (by decide))
        have v1' : w5.cell? ⟨wr.heap.size, 1, .none⟩ = some (.int .i64 Y) := by rw [cell_of_row w5 wr.heap.size _ _ _ (0, 0) hobj5]; rfl
        have HB6 := Lib.hid hb5
        have HE6 := Lib.hid (HE5.out.trans he5)
        have hsz6 : B ≤ w5.heap.size := Nat.le_trans hsz5 he5.below.size
        clear hb5 he5 hobj hobj5 hV2 v0 v1 x0 x1
        go_wp2_with fail
        refine (number_any B b (l' ++ textL e.name) Y _ HB6.out hY2 (by rw [List.length_append]; have := HLC.out; omega) hsz6).mono ?_
        rintro e6 w6 ⟨rfl, hb6, he6⟩
        have HB7 := Lib.hid hb6
        have HE7 := Lib.hid (HE6.out.trans he6)
        clear hb6 he6
        go_wp2_with fail
        go_roundw
        case rel => exact ⟨q + 1, _, by go_num, by omega, HB7.out, HE7.out, by have := HC.out; simpa [List.append_assoc] using this⟩
        case measure => simp [intOf]; omega
      · have hnil : x.ents.drop q = [] := List.drop_eq_nil_of_le (by have := HML.out; omega)
        rw [hnil, entsL, List.append_nil] at hc
        have HC := Lib.hid hc
        have q1 : decide ((q : Int) < (m : Int)) = false := by rw [decide_eq_false_iff_not]; omega
        clear hc hnil
        go_wp2_with fail
        go_end0
        exact ⟨rfl, by
          have h1 := HBL.out
          rw [HC.out, ← HP.out] at h1
          have hf : 1 = FL := by have := HFL.out; simpa using this
          rw [← hf] at h1
          unfold inodeL
          rw [HDX.out, HXX.out]
          simp only [if_true]
          rw [HML.out]
          simpa [List.append_assoc] using h1, HBE.out⟩
end Go.Proofs.Ytghlgnklnbcppaa
