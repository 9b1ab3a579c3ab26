/- Parts of the proof, side by side: FsFr, FsWithin, FsMay, Good, Deep. -/
import Derived.Test.YtilkhmhgjbhfnaaGreatDoorM03
import Derived.Test.YtilkhmhgjbhfnaaGreatDoorM01
set_option linter.unusedVariables false
set_option linter.unusedSimpArgs false
namespace Go.Proofs.YtilkhmhgjbhfnaaGreatDoor
open Go.RowKit
def caRow (c : Ca) : Obj := .cells #[.int .i64 c.kind, .int .i64 c.core, .int .i64 c.fd, .int .i64 c.off, .int .i64 c.num, .string c.path, .string c.path2, .string c.data] 73 (0, 0)
structure Fr (B p : Nat) (s : St) (c : Ca) (w0 w : World) : Prop where
 own : Own B w p s
 call : w.heap[w0.heap.size]? = some (caRow c)
 res : ResAt w (w0.heap.size + 1) (.int .i64 0) (.int .i64 0) (.int .i64 0) (.bool false) (.string ⟨#[]⟩) (.slice none 0 0)
 bel : Below B w0 w
 aside : Aside p w0 w
 size : w0.heap.size + 2 ≤ w.heap.size
 hp : p < w0.heap.size
 hB : B ≤ w0.heap.size
theorem Fr.below {B p : Nat} {s : St} {c : Ca} {w0 w w' : World} (h : Fr B p s c w0 w) (hb : Below w.heap.size w w') : Fr B p s c w0 w' :=
 ⟨h.own.below hb, (hb.block _ (by have := h.size; omega)).trans h.call, (hb.block _ h.res.lt).trans h.res, h.bel.trans (hb.mono (by have := h.size; have := h.hB; omega)), h.aside.trans (Aside.below hb), Nat.le_trans h.size hb.size, h.hp, h.hB⟩
theorem Fr.step {B p : Nat} {s s' : St} {c : Ca} {w0 w w' : World} (h : Fr B p s c w0 w) (ho : Own B w' p s') (hb : Below B w w') (ha : Aside p w w') : Fr B p s' c w0 w' := by
 have hp := h.hp
 exact ⟨ho, (ha.same _ _ _ h.call (by decide) (by decide) (by omega)).trans h.call, (ha.same _ _ _ h.res (by decide) (by decide) (by omega)).trans h.res, h.bel.trans hb, h.aside.trans ha, Nat.le_trans h.size ha.size, h.hp, h.hB⟩
theorem Fr.vals {B p : Nat} {s : St} {c : Ca} {w0 w : World} (h : Fr B p s c w0 w) : ∃ A n cp E m d D k e, p < w.heap.size ∧ w0.heap.size < w.heap.size ∧ w.cell? ⟨p, 0, none⟩ = some (.slice A n cp) ∧ w.cell? ⟨p, 1, none⟩ = some (.slice E m d) ∧ w.cell? ⟨p, 2, none⟩ = some (.slice D k e) ∧ (∀ j, w.frozen? ⟨p, j, none⟩ = false) ∧
  StAt none w (.agg #[.slice A n cp, .slice E m d, .slice D k e]) s ∧ InosAt (some B) w A n s.inos ∧ n ≤ 1099511627776 ∧
  w.cell? ⟨w0.heap.size, 0, none⟩ = some (.int .i64 c.kind) ∧ w.cell? ⟨w0.heap.size, 1, none⟩ = some (.int .i64 c.core) ∧ w.cell? ⟨w0.heap.size, 2, none⟩ = some (.int .i64 c.fd) ∧ w.cell? ⟨w0.heap.size, 3, none⟩ = some (.int .i64 c.off) ∧ w.cell? ⟨w0.heap.size, 4, none⟩ = some (.int .i64 c.num) ∧
  w.cell? ⟨w0.heap.size, 5, none⟩ = some (.string c.path) ∧ w.cell? ⟨w0.heap.size, 6, none⟩ = some (.string c.path2) ∧ w.cell? ⟨w0.heap.size, 7, none⟩ = some (.string c.data) := by
 obtain ⟨A, n, cp, E, m, d, D, k, e, _, hp, c0, c1, c2, fz, hst, hI, _, _⟩ := h.own.val
 have hc := h.call
 unfold caRow at hc
 have hbig := h.own.sized.big
 have hl := hI.1
 refine ⟨A, n, cp, E, m, d, D, k, e, hp, by have := h.size; omega, c0, c1, c2, fz, hst.weak, hI, by omega, ?_, ?_, ?_, ?_, ?_, ?_, ?_, ?_⟩ <;> (rw [cell_of_row w w0.heap.size _ _ _ (0, 0) hc]; rfl)
theorem Fr.six {B p : Nat} {s : St} {c : Ca} {w0 w : World} (h : Fr B p s c w0 w) (a b x y z t : Value) :
  ∃ w', (((((w.setCell ⟨w0.heap.size + 1, 0, none⟩ a).setCell ⟨w0.heap.size + 1, 1, none⟩ b).setCell ⟨w0.heap.size + 1, 2, none⟩ x).setCell ⟨w0.heap.size + 1, 3, none⟩ y).setCell ⟨w0.heap.size + 1, 4, none⟩ z).setCell ⟨w0.heap.size + 1, 5, none⟩ t = w' ∧
   ResAt w' (w0.heap.size + 1) a b x y z t ∧ Own B w' p s ∧ Below B w0 w' ∧ Aside p w0 w' := by
 obtain ⟨w', hw, hr, hk, hb, hn, hz⟩ := h.res.six a b x y z t
 exact ⟨w', hw, hr, h.own.keep hk, hb B w0 (by have := h.hB; omega) h.bel, ⟨Nat.le_trans h.aside.size hz, fun g cur t hg h1 h2 h3 => (hn g (by have := (Array.getElem?_eq_some_iff.1 hg).1; omega)).trans (h.aside.same g cur t hg h1 h2 h3)⟩⟩
theorem Fr.fin {B p : Nat} {s : St} {c : Ca} {w0 w1 w : World} (h1 : Fr B p s c w0 w1) (hb : Below w1.heap.size w1 w) (a b x y z t : Value) :
  w.cell? ⟨w0.heap.size + 1, 0, none⟩ = some (.int .i64 0) ∧ w.cell? ⟨w0.heap.size + 1, 1, none⟩ = some (.int .i64 0) ∧ w.cell? ⟨w0.heap.size + 1, 2, none⟩ = some (.int .i64 0) ∧ w.cell? ⟨w0.heap.size + 1, 3, none⟩ = some (.bool false) ∧ w.cell? ⟨w0.heap.size + 1, 4, none⟩ = some (.string ⟨#[]⟩) ∧ w.cell? ⟨w0.heap.size + 1, 5, none⟩ = some (.slice none 0 0) ∧ (∀ j, w.frozen? ⟨w0.heap.size + 1, j, none⟩ = false) ∧
  ∃ w', (((((w.setCell ⟨w0.heap.size + 1, 0, none⟩ a).setCell ⟨w0.heap.size + 1, 1, none⟩ b).setCell ⟨w0.heap.size + 1, 2, none⟩ x).setCell ⟨w0.heap.size + 1, 3, none⟩ y).setCell ⟨w0.heap.size + 1, 4, none⟩ z).setCell ⟨w0.heap.size + 1, 5, none⟩ t = w' ∧
   Hid (ResAt w' (w0.heap.size + 1) a b x y z t) ∧ Hid (Own B w' p s) ∧ Hid (Below B w0 w') ∧ Hid (Aside p w0 w') := by
 have h := h1.below hb
 obtain ⟨g0, g1, g2, g3, g4, g5, gf⟩ := h.res.get
 obtain ⟨w', hw, hr, ho, hB, hA⟩ := h.six a b x y z t
 exact ⟨g0, g1, g2, g3, g4, g5, gf, w', hw, Lib.hid hr, Lib.hid ho, Lib.hid hB, Lib.hid hA⟩
theorem Fr.start {B p : Nat} {s : St} {w : World} (h : Own B w p s) (hB : B ≤ w.heap.size) (c : Ca) :
  ∃ W W2, w.alloc (.cells #[.int .i64 c.kind, .int .i64 c.core, .int .i64 c.fd, .int .i64 c.off, .int .i64 c.num, .string c.path, .string c.path2, .string c.data] 73) = W ∧
   W.alloc (.cells #[.int .i64 0, .int .i64 0, .int .i64 0, .bool false, .string ⟨#[]⟩, .slice none 0 0] 87) = W2 ∧ W.heap.size = w.heap.size + 1 ∧ Fr B p s c w W2 := by
 obtain ⟨W, hW, hbc, hal, hsz⟩ := box_ca w c
 obtain ⟨A, n, cp, E, m, d, D, k, e, _, hp, _⟩ := h.val
 have hal2 : Below W.heap.size W (W.alloc (.cells #[.int .i64 0, .int .i64 0, .int .i64 0, .bool false, .string ⟨#[]⟩, .slice none 0 0] 87)) := (Below.refl _ _).alloc (Nat.le_refl _) _
 have hb2 := Cv.next hal hal2
 refine ⟨W, _, hW, rfl, hsz, h.below hb2, (hal2.block _ (by omega)).trans hbc, ?_, hb2.mono hB, Aside.below hb2, ?_, hp, hB⟩
 ·rw [← hsz]; exact heap_alloc_new W _
 ·simp [hsz]
def Deep (is : List Ino) : Nat → Int → Prop
 | 0, _ => False
 | n + 1, top => ∀ x, inoAt is (atV is top) = some x → ∀ e ∈ x.ents, dirAt is e.num = true → Deep is n e.num
end Go.Proofs.YtilkhmhgjbhfnaaGreatDoor
namespace Go.Proofs.YtilkhmhgjbhfnaaGreatDoor
def numsM (made : List Int) : List Ino → Int → Bool
 | [], _ => true
 | x :: xs, p => if x.num ≤ p ∨ givenV made x.num = false then false else numsM made xs x.num
def shapesM (is : List Ino) : List Ino → Bool
 | [] => true
 | x :: xs => if x.dir = true then (if x.data.size ≠ 0 ∨ entsV is x.ents = false then false else shapesM is xs) else if x.ents ≠ [] ∨ 256 < x.data.size then false else shapesM is xs
def finalR (s : St) : List Ino → Bool → List Bool → Bool
 | [], _, _ => true
 | x :: xs, first, f => if (first = false ∧ x.dir = true ∧ (linkI s.inos x.num ≠ 1 ∨ f.headD false = false)) ∨ (x.dir = false ∧ f.headD false = false ∧ openB s.opn x.num = false) then false else finalR s xs false f.tail
def finalM (s : St) : List Ino → Bool → List Nat → List Bool → Bool
 | [], _, _, _ => true
 | x :: xs, first, many, f =>
  if first = true then finalM s xs false many.tail f.tail
  else if x.dir = true ∧ (many.headD 0 ≠ 1 ∨ f.headD false = false) then false
  else if x.dir = false ∧ f.headD false = false ∧ (0 < many.headD 0 ∨ openB s.opn x.num = false) then false
  else finalM s xs false many.tail f.tail
def numsP (made : List Int) (p : Option Int) (xs : List Ino) : Bool :=
 match p, xs with
 | some q, xs => numsM made xs q
 | none, [] => true
 | none, x :: xs => numsM made xs x.num
theorem numsP_cons (made : List Int) (p : Option Int) (x : Ino) (xs : List Ino) : numsP made p (x :: xs) = (!badNum made p x.num && numsM made xs x.num) := by
 cases p with
 | none => simp [numsP, badNum]
 | some q =>
  simp only [numsP, numsM, badNum]
  by_cases h1 : x.num ≤ q <;> cases h2 : givenV made x.num <;> simp [h1]
theorem inosG_split (s : St) : ∀ (xs : List Ino) (p : Option Int) (f : List Bool), inosG s xs p f = (numsP s.made p xs && (shapesM s.inos xs && finalR s xs p.isNone f))
 | [], none, f => rfl
 | [], some q, f => rfl
 | x :: xs, p, f => by
  unfold inosG shapesM finalR
  rw [inosG_split s xs (some x.num) f.tail, numsP_cons]
  simp only [numsP, Option.isNone_some]
  unfold inoBad inoLost
  generalize p.isNone = first
  generalize badNum s.made p x.num = A
  generalize numsM s.made xs x.num = N
  generalize shapesM s.inos xs = S
  generalize finalR s xs false f.tail = F
  have hE : x.ents = [] → entsV s.inos x.ents = true := fun h => by rw [h]; rfl
  generalize entsV s.inos x.ents = E at hE ⊢
  generalize f.headD false = H
  generalize openB s.opn x.num = O
  cases hd : x.dir
  ·by_cases h1 : x.ents = []
   ·have := hE h1
    subst this
    by_cases h2 : 256 < x.data.size <;> cases A <;> cases N <;> cases S <;> cases F <;> cases H <;> cases O <;> simp [h1, h2]
   ·have h3 : x.ents.isEmpty = false := by simpa using h1
    cases A <;> cases N <;> cases S <;> simp [h1, h3]
  ·by_cases h1 : x.data.size = 0
   ·by_cases h2 : linkI s.inos x.num = 1 <;> cases A <;> cases N <;> cases S <;> cases F <;> cases H <;> cases E <;> cases first <;> simp [h1, h2]
   ·cases A <;> cases N <;> cases S <;> simp [h1]
theorem finalR_iff (s : St) : ∀ (xs : List Ino) (first : Bool) (f : List Bool), finalR s xs first f = true ↔ ∀ (i : Nat) (x : Ino), xs[i]? = some x → ((first = false ∨ 0 < i) → x.dir = true → linkI s.inos x.num = 1 ∧ f.getD i false = true) ∧ (x.dir = false → f.getD i false = true ∨ openB s.opn x.num = true)
 | [], first, f => by simp [finalR]
 | x :: xs, first, f => by
  unfold finalR
  have hh : f.headD false = f.getD 0 false := by cases f <;> rfl
  have ht : ∀ i, f.tail.getD i false = f.getD (i + 1) false := fun i => by cases f <;> rfl
  constructor
  ·intro h
   split at h
   ·cases h
   ·rename_i hc
    have ih := (finalR_iff s xs false f.tail).1 h
    intro i y hy
    cases i with
    | zero =>
     have e : x = y := by simpa using hy
     subst e
     rw [← hh]
     refine ⟨fun h1 h2 => ?_, fun h2 => ?_⟩
     ·have hf : first = false := by rcases h1 with h1 | h1; exact h1; omega
      refine ⟨?_, ?_⟩
      ·apply Classical.byContradiction
       intro hn
       exact hc (.inl ⟨hf, h2, .inl hn⟩)
      ·cases hb : f.headD false
       ·exact absurd (.inl ⟨hf, h2, .inr hb⟩) hc
       ·rfl
     ·cases hb : f.headD false
      ·right
       cases ho : openB s.opn x.num
       ·exact absurd (.inr ⟨h2, hb, ho⟩) hc
       ·rfl
      ·exact .inl rfl
    | succ i =>
     have := ih i y (by simpa using hy)
     rw [ht] at this
     exact ⟨fun _ => this.1 (.inl rfl), this.2⟩
  ·intro h
   rw [if_neg, finalR_iff s xs false f.tail]
   ·intro i y hy
    have := h (i + 1) y (by simpa using hy)
    rw [ht]
    exact ⟨fun _ => this.1 (.inr (by omega)), this.2⟩
   ·have h0 := h 0 x rfl
    rw [← hh] at h0
    rintro (⟨h1, h2, h3⟩ | ⟨h1, h2, h3⟩)
    ·have := h0.1 (.inl h1) h2
     rcases h3 with h3 | h3
     ·exact h3 this.1
     ·rw [this.2] at h3; cases h3
    ·rcases h0.2 h1 with h4 | h4
     ·rw [h2] at h4; cases h4
     ·rw [h3] at h4; cases h4
theorem finalM_iff (s : St) : ∀ (xs : List Ino) (first : Bool) (many : List Nat) (f : List Bool), finalM s xs first many f = true ↔ ∀ (i : Nat) (x : Ino), xs[i]? = some x → (first = false ∨ 0 < i) → (x.dir = true → many.getD i 0 = 1 ∧ f.getD i false = true) ∧ (x.dir = false → f.getD i false = true ∨ (many.getD i 0 = 0 ∧ openB s.opn x.num = true))
 | [], first, many, f => by simp [finalM]
 | x :: xs, first, many, f => by
  unfold finalM
  have hh : f.headD false = f.getD 0 false := by cases f <;> rfl
  have ht : ∀ i, f.tail.getD i false = f.getD (i + 1) false := fun i => by cases f <;> rfl
  have mh : many.headD 0 = many.getD 0 0 := by cases many <;> rfl
  have mt : ∀ i, many.tail.getD i 0 = many.getD (i + 1) 0 := fun i => by cases many <;> rfl
  rw [hh, mh]
  have ih := finalM_iff s xs false many.tail f.tail
  have tail_ : (∀ (i : Nat) (x : Ino), xs[i]? = some x → (false = false ∨ 0 < i) → (x.dir = true → many.tail.getD i 0 = 1 ∧ f.tail.getD i false = true) ∧ (x.dir = false → f.tail.getD i false = true ∨ (many.tail.getD i 0 = 0 ∧ openB s.opn x.num = true))) ↔
    (∀ (i : Nat) (y : Ino), xs[i]? = some y → (y.dir = true → many.getD (i + 1) 0 = 1 ∧ f.getD (i + 1) false = true) ∧ (y.dir = false → f.getD (i + 1) false = true ∨ (many.getD (i + 1) 0 = 0 ∧ openB s.opn y.num = true))) := by
   constructor
   ·intro h i y hy
    have := h i y hy (.inl rfl)
    rwa [ht, mt] at this
   ·intro h i y hy _
    have := h i y hy
    rwa [ht, mt]
  rw [tail_] at ih
  have whole : (∀ (i : Nat) (y : Ino), (x :: xs)[i]? = some y → (first = false ∨ 0 < i) → (y.dir = true → many.getD i 0 = 1 ∧ f.getD i false = true) ∧ (y.dir = false → f.getD i false = true ∨ (many.getD i 0 = 0 ∧ openB s.opn y.num = true))) ↔
    (first = false → (x.dir = true → many.getD 0 0 = 1 ∧ f.getD 0 false = true) ∧ (x.dir = false → f.getD 0 false = true ∨ (many.getD 0 0 = 0 ∧ openB s.opn x.num = true))) ∧ (∀ (i : Nat) (y : Ino), xs[i]? = some y → (y.dir = true → many.getD (i + 1) 0 = 1 ∧ f.getD (i + 1) false = true) ∧ (y.dir = false → f.getD (i + 1) false = true ∨ (many.getD (i + 1) 0 = 0 ∧ openB s.opn y.num = true))) := by
   constructor
   ·intro h
    exact ⟨fun h1 => h 0 x rfl (.inl h1), fun i y hy => h (i + 1) y (by simpa using hy) (.inr (by omega))⟩
   ·rintro ⟨h1, h2⟩ i y hy hq
    cases i with
    | zero =>
     have e : x = y := by simpa using hy
     subst e
     rcases hq with hq | hq
     ·exact h1 hq
     ·omega
    | succ i => exact h2 i y (by simpa using hy)
  rw [whole, ← ih]
  clear ih whole tail_ ht mt hh mh
  generalize finalM s xs false many.tail f.tail = F
  generalize many.getD 0 0 = m
  generalize f.getD 0 false = b
  generalize openB s.opn x.num = o
  by_cases h1 : m = 1
  ·cases first <;> cases x.dir <;> cases b <;> cases o <;> simp [h1]
  ·by_cases h0 : m = 0
   ·cases first <;> cases x.dir <;> cases b <;> cases o <;> simp [h0]
   ·have : 0 < m := by omega
    cases first <;> cases x.dir <;> cases b <;> cases o <;> simp [h1, h0, this]
theorem linkE_pos : ∀ (es : List En) (num : Int), 0 < linkE es num → ∃ e ∈ es, e.num = num
 | [], num, h => absurd h (by simp [linkE])
 | e :: es, num, h => by
  unfold linkE at h
  by_cases hq : e.num = num
  ·exact ⟨e, by simp, hq⟩
  ·rw [if_neg hq] at h
   obtain ⟨y, hy, hn⟩ := linkE_pos es num (by omega)
   exact ⟨y, by simp [hy], hn⟩
theorem linkI_pos : ∀ (is : List Ino) (num : Int), 0 < linkI is num → ∃ (k : Nat) (y : Ino) (e : En), is[k]? = some y ∧ y.dir = true ∧ e ∈ y.ents ∧ e.num = num
 | [], num, h => absurd h (by simp [linkI])
 | x :: xs, num, h => by
  unfold linkI at h
  by_cases hd : x.dir = true ∧ 0 < linkE x.ents num
  ·obtain ⟨e, he, hn⟩ := linkE_pos _ _ hd.2
   exact ⟨0, x, e, rfl, hd.1, he, hn⟩
  ·have : 0 < linkI xs num := by
    split at h
    ·rename_i h1
     have : ¬ 0 < linkE x.ents num := fun h2 => hd ⟨h1, h2⟩
     omega
    ·omega
   obtain ⟨k, y, e, h1, h2⟩ := linkI_pos xs num this
   exact ⟨k + 1, y, e, by simpa using h1, h2⟩
theorem nums_pair : ∀ (made : List Int) (xs : List Ino) (p : Int), numsM made xs p = true → (∀ x ∈ xs, p < x.num) ∧ xs.Pairwise (fun a b => a.num < b.num) ∧ ∀ x ∈ xs, givenV made x.num = true
 | made, [], p, h => by simp
 | made, x :: xs, p, h => by
  unfold numsM at h
  split at h
  ·cases h
  ·rename_i hc
   obtain ⟨h1, h2, h3⟩ := nums_pair made xs x.num h
   have hg : givenV made x.num = true := by cases hg : givenV made x.num; exact absurd (.inr hg) hc; rfl
   have hp : p < x.num := by
    rcases Int.lt_or_le p x.num with h | h
    ·exact h
    ·exact absurd (.inl h) hc
   refine ⟨?_, List.pairwise_cons.2 ⟨h1, h2⟩, ?_⟩
   ·intro y hy
    rcases List.mem_cons.1 hy with rfl | hy
    ·exact hp
    ·have := h1 y hy; omega
   ·intro y hy
    rcases List.mem_cons.1 hy with rfl | hy
    ·exact hg
    ·exact h3 y hy
theorem numsP_pair {made : List Int} {is : List Ino} (h : numsP made none is = true) : is.Pairwise (fun a b => a.num < b.num) := by
 cases is with
 | nil => exact List.Pairwise.nil
 | cons x xs =>
  obtain ⟨h1, h2, _⟩ := nums_pair made xs x.num h
  exact List.pairwise_cons.2 ⟨h1, h2⟩
theorem atV_of {is : List Ino} (hp : is.Pairwise (fun a b => a.num < b.num)) {i : Nat} {x : Ino} (hx : is[i]? = some x) : atV is x.num = (i : Int) := by
 obtain ⟨hi, hxe⟩ := List.getElem?_eq_some_iff.1 hx
 rcases atV_cases is x.num with ⟨_, h2⟩ | ⟨k, y, h1, h2, h3, h4⟩
 ·exact absurd rfl (h2 x (List.mem_of_getElem? hx))
 ·rw [h1]
  obtain ⟨hk, hye⟩ := List.getElem?_eq_some_iff.1 h2
  rcases Nat.lt_trichotomy k i with h | h | h
  ·have := List.pairwise_iff_getElem.1 hp k i hk hi h
   rw [hye, hxe] at this
   omega
  ·rw [h]
  ·exact absurd rfl (h4 i x h hx)
theorem given_le {made : List Int} (hm : madeG made = true) {n : Int} (h : givenV made n = true) : n ≤ 257 := by
 have all : ∀ (l : List Int), madeG l = true → ∀ k, l.getD k 0 ≤ 32 := by
  intro l
  induction l with
  | nil => intro _ k; simp
  | cons x l ih =>
   intro h k
   unfold madeG at h
   split at h
   ·cases h
   ·rename_i hc
    cases k with
    | zero => simp; omega
    | succ k => simpa using ih h k
 unfold givenV at h
 split at h
 ·cases h
 ·rw [Bool.and_eq_true, decide_eq_true_eq, decide_eq_true_eq] at h
  have := all made hm ((n - 2) % 8).toNat
  omega
theorem nums_len : ∀ (made : List Int) (xs : List Ino) (p : Int), madeG made = true → numsM made xs p = true → p ≤ 257 → (xs.length : Int) + p ≤ 257
 | made, [], p, _, _, hp => by simpa using hp
 | made, x :: xs, p, hm, h, hp => by
  obtain ⟨h1, _, h3⟩ := nums_pair made (x :: xs) p h
  unfold numsM at h
  split at h
  ·cases h
  ·have := nums_len made xs x.num hm h (given_le hm (h3 x (by simp)))
   have := h1 x (by simp)
   rw [List.length_cons]
   omega
def manyV (is : List Ino) : List Nat := is.map fun x => linkI is x.num
theorem final_same (s : St) (h0 : rootB s.inos = true) (hn : numsP s.made none s.inos = true) : finalR s s.inos true (reachV s.inos) = finalM s s.inos true (manyV s.inos) (reachV s.inos) := by
 have hp := numsP_pair hn
 have hroot : ∃ x xs, s.inos = x :: xs ∧ x.num = 1 ∧ x.dir = true := by
  cases e : s.inos with
  | nil => rw [e] at h0; cases h0
  | cons x xs =>
   rw [e] at h0
   unfold rootB at h0
   rw [Bool.and_eq_true, decide_eq_true_eq] at h0
   exact ⟨x, xs, rfl, h0⟩
 obtain ⟨r, rs, he, hr1, hrd⟩ := hroot
 have hmany : ∀ (i : Nat) (x : Ino), s.inos[i]? = some x → (manyV s.inos).getD i 0 = linkI s.inos x.num := by
  intro i x hx
  unfold manyV
  rw [List.getD_eq_getElem?_getD, List.getElem?_map, hx]
  rfl
 apply Bool.eq_iff_iff.2
 rw [finalR_iff, finalM_iff]
 constructor
 ·intro h i x hx hq
  have hi := h i x hx
  rw [hmany i x hx]
  refine ⟨fun hd => hi.1 hq hd, fun hd => ?_⟩
  cases hb : (reachV s.inos).getD i false
  ·right
   rcases hi.2 hd with h1 | h1
   ·rw [hb] at h1; cases h1
   ·refine ⟨?_, h1⟩
    apply Classical.byContradiction
    intro hl
    obtain ⟨k, y, e, hy, hyd, hey, hen⟩ := linkI_pos s.inos x.num (by omega)
    have hry : Reach s.inos k := by
     rcases Nat.eq_zero_or_pos k with h2 | h2
     ·subst h2
      have : r = y := by rw [he] at hy; simpa using hy
      subst this
      refine .root 0 ?_
      rw [← hr1]
      exact atV_of hp hy
     ·exact (reachV_iff _ _).1 ((h k y hy).1 (.inr h2) hyd).2
    have hrx : Reach s.inos i := .step k i y e hry hy hyd hey (by rw [hen]; exact atV_of hp hx)
    rw [(reachV_iff _ _).2 hrx] at hb
    cases hb
  ·exact .inl rfl
 ·intro h i x hx
  refine ⟨fun hq hd => ?_, fun hd => ?_⟩
  ·have := (h i x hx (by rcases hq with h1 | h1; cases h1; exact .inr h1)).1 hd
   rwa [hmany i x hx] at this
  ·have hi : 0 < i := by
    rcases Nat.eq_zero_or_pos i with h2 | h2
    ·subst h2
     have : r = x := by rw [he] at hx; simpa using hx
     subst this
     rw [hd] at hrd
     cases hrd
    ·exact h2
   rcases (h i x hx (.inr hi)).2 hd with h1 | h1
   ·exact .inl h1
   ·exact .inr h1.2
theorem mayV_eq (s : St) : mayV s = ((decide (1 ≤ s.made.length) && decide (s.made.length ≤ 8) && madeG s.made) && (rootB s.inos && numsP s.made none s.inos && shapesM s.inos s.inos) && opensV s && finalM s s.inos true (manyV s.inos) (reachV s.inos)) := by
 unfold mayV
 rw [inosG_split]
 simp only [Option.isNone_none]
 cases h0 : rootB s.inos
 ·simp
 cases hn : numsP s.made none s.inos
 ·simp
 rw [final_same s h0 hn]
 cases hm : madeG s.made
 ·simp
 have hlen : s.inos.length ≤ 257 := by
  cases e : s.inos with
  | nil => simp
  | cons x xs =>
   rw [e] at h0 hn
   unfold rootB at h0
   rw [Bool.and_eq_true, decide_eq_true_eq] at h0
   have := nums_len s.made xs x.num hm hn (by omega)
   rw [List.length_cons]
   omega
 generalize finalM s s.inos true (manyV s.inos) (reachV s.inos) = F
 generalize shapesM s.inos s.inos = S
 generalize opensV s = O
 cases F <;> cases S <;> cases O <;> simp [hlen]
structure Good (s : St) : Prop where
 m1 : 1 ≤ s.made.length
 m8 : s.made.length ≤ 8
 mr : ∀ m ∈ s.made, 0 ≤ m ∧ m ≤ 32
 root : ∃ x, s.inos[0]? = some x ∧ x.num = 1 ∧ x.dir = true
 rise : s.inos.Pairwise (fun a b => a.num < b.num)
 given : ∀ (i : Nat) (x : Ino), 0 < i → s.inos[i]? = some x → givenV s.made x.num = true
 dirs : ∀ x ∈ s.inos, x.dir = true → x.data.size = 0 ∧ entsV s.inos x.ents = true
 files : ∀ x ∈ s.inos, x.dir = false → x.ents = [] ∧ x.data.size ≤ 256
 opn : opensV s = true
 one : ∀ (i : Nat) (x : Ino), 0 < i → s.inos[i]? = some x → x.dir = true → linkI s.inos x.num = 1 ∧ Reach s.inos i
 has : ∀ (i : Nat) (x : Ino), s.inos[i]? = some x → x.dir = false → Reach s.inos i ∨ openB s.opn x.num = true
theorem madeG_iff : ∀ (l : List Int), madeG l = true ↔ ∀ m ∈ l, 0 ≤ m ∧ m ≤ 32
 | [] => by simp [madeG]
 | x :: xs => by
  unfold madeG
  split
  ·rename_i h
   constructor
   ·intro h2; cases h2
   ·intro h2
    have := h2 x List.mem_cons_self
    omega
  ·rename_i h
   rw [madeG_iff xs]
   constructor
   ·intro h2 m hm
    rcases List.mem_cons.1 hm with rfl | hm
    ·omega
    ·exact h2 m hm
   ·intro h2 m hm
    exact h2 m (List.mem_cons_of_mem _ hm)
theorem shapesM_iff (is : List Ino) : ∀ (xs : List Ino), shapesM is xs = true ↔ ∀ x ∈ xs, (x.dir = true → x.data.size = 0 ∧ entsV is x.ents = true) ∧ (x.dir = false → x.ents = [] ∧ x.data.size ≤ 256)
 | [] => by simp [shapesM]
 | x :: xs => by
  have ih := shapesM_iff is xs
  unfold shapesM
  rw [List.forall_mem_cons, ← ih]
  cases hd : x.dir
  ·rw [if_neg (by decide)]
   split
   ·rename_i h
    constructor
    ·intro h2; cases h2
    ·intro h2
     have := h2.1.2 rfl
     rcases h with h | h
     ·exact absurd this.1 h
     ·omega
   ·rename_i h
    constructor
    ·intro h2
     refine ⟨⟨(fun h => by cases h), fun _ => ⟨?_, ?_⟩⟩, h2⟩
     ·exact Classical.byContradiction fun h3 => h (.inl h3)
     ·exact Nat.le_of_not_lt fun h3 => h (.inr h3)
    ·intro h2; exact h2.2
  ·rw [if_pos rfl]
   split
   ·rename_i h
    constructor
    ·intro h2; cases h2
    ·intro h2
     have := h2.1.1 rfl
     rcases h with h | h
     ·exact absurd this.1 h
     ·rw [this.2] at h; cases h
   ·rename_i h
    constructor
    ·intro h2
     refine ⟨⟨fun _ => ⟨?_, ?_⟩, (fun h => by cases h)⟩, h2⟩
     ·exact Classical.byContradiction fun h3 => h (.inl h3)
     ·cases h4 : entsV is x.ents
      ·exact absurd (.inr h4) h
      ·rfl
    ·intro h2; exact h2.2
theorem numsM_of (made : List Int) : ∀ (xs : List Ino) (p : Int), (∀ x ∈ xs, p < x.num) → xs.Pairwise (fun a b => a.num < b.num) → (∀ x ∈ xs, givenV made x.num = true) → numsM made xs p = true
 | [], _, _, _, _ => rfl
 | x :: xs, p, h1, h2, h3 => by
  rw [List.pairwise_cons] at h2
  have hx := h1 x List.mem_cons_self
  have hg := h3 x List.mem_cons_self
  unfold numsM
  have ih := numsM_of made xs x.num h2.1 h2.2 (fun y hy => h3 y (List.mem_cons_of_mem _ hy))
  simp [ih, hg]
  try omega
theorem good_iff (s : St) : mayV s = true ↔ Good s := by
 have hsplit := inosG_split s s.inos none (reachV s.inos)
 constructor
 ·intro h
  unfold mayV at h
  simp only [Bool.and_eq_true, decide_eq_true_eq] at h
  obtain ⟨⟨⟨⟨⟨⟨h1, h8⟩, hroot⟩, hopn⟩, hmade⟩, hlen⟩, hinos⟩ := h
  rw [hsplit, Bool.and_eq_true, Bool.and_eq_true] at hinos
  obtain ⟨hn, hsh, hfin⟩ := hinos
  obtain ⟨is, op, md⟩ := s
  cases is with
  | nil => simp [rootB] at hroot
  | cons x xs =>
   simp only [rootB, Bool.and_eq_true, decide_eq_true_eq] at hroot
   have hn0 := hn
   rw [numsP_cons, Bool.and_eq_true] at hn
   obtain ⟨p1, p2, p3⟩ := nums_pair _ _ _ hn.2
   have hshape := (shapesM_iff _ _).1 hsh
   have hf := (finalR_iff _ _ _ _).1 hfin
   refine ⟨h1, h8, (madeG_iff _).1 hmade, ⟨x, rfl, hroot.1, hroot.2⟩, ?_, ?_, fun y hy hd => (hshape y hy).1 hd, fun y hy hd => (hshape y hy).2 hd, hopn, ?_, ?_⟩
   ·exact numsP_pair hn0
   ·intro i y hi hy
    cases i with
    | zero => omega
    | succ i => exact p3 y (List.mem_of_getElem? hy)
   ·intro i y hi hy hd
    have := (hf i y hy).1 (.inr hi) hd
    exact ⟨this.1, (reachV_iff _ _).1 this.2⟩
   ·intro i y hy hd
    rcases (hf i y hy).2 hd with h | h
    ·exact .inl ((reachV_iff _ _).1 h)
    ·exact .inr h
 ·intro h
  obtain ⟨is, op, md⟩ := s
  obtain ⟨x0, hx0, hn0, hd0⟩ := h.root
  cases is with
  | nil => simp at hx0
  | cons x xs =>
   have ex : x = x0 := by simpa using hx0
   subst ex
   have hrise := h.rise
   rw [List.pairwise_cons] at hrise
   have hnm : numsM md xs x.num = true := numsM_of md xs x.num hrise.1 hrise.2 (fun y hy => by
    obtain ⟨i, hi⟩ := List.getElem?_of_mem hy
    exact h.given (i + 1) y (by omega) hi)
   have hnp : numsP md none (x :: xs) = true := by
    rw [numsP_cons, hnm]
    simp [badNum]
   have hlen := nums_len md xs x.num ((madeG_iff _).2 h.mr) hnm (by rw [hn0]; decide)
   have hsh : shapesM (x :: xs) (x :: xs) = true := (shapesM_iff _ _).2 fun y hy => ⟨fun hd => h.dirs y hy hd, fun hd => h.files y hy hd⟩
   have hfin : finalR ⟨x :: xs, op, md⟩ (x :: xs) true (reachV (x :: xs)) = true := by
    rw [finalR_iff]
    intro i y hy
    refine ⟨fun hi hd => ?_, fun hd => ?_⟩
    ·have := h.one i y (by rcases hi with hi | hi; cases hi; exact hi) hy hd
     exact ⟨this.1, (reachV_iff _ _).2 this.2⟩
    ·rcases h.has i y hy hd with h3 | h3
     ·exact .inl ((reachV_iff _ _).2 h3)
     ·exact .inr h3
   unfold mayV
   simp only [Bool.and_eq_true, decide_eq_true_eq]
   refine ⟨⟨⟨⟨⟨⟨h.m1, h.m8⟩, ?_⟩, h.opn⟩, (madeG_iff _).2 h.mr⟩, ?_⟩, ?_⟩
   ·simp [rootB, hn0, hd0]
   ·rw [List.length_cons]; omega
   ·rw [hsplit, Bool.and_eq_true, Bool.and_eq_true]
    exact ⟨hnp, hsh, hfin⟩
inductive Lev (is : List Ino) : Nat → Nat → Prop where
 | root : Lev is 0 0
 | step {k i j : Nat} {x : Ino} {e : En} : Lev is k i → is[i]? = some x → x.dir = true → e ∈ x.ents → atV is e.num = (j : Int) → Lev is (k + 1) j
theorem entsG_ne1 (is : List Ino) : ∀ (es : List En) (p : Option ByteArray) (many : Nat → Nat), entsG is es p many = true → ∀ e ∈ es, e.num ≠ 1 ∧ 0 ≤ atV is e.num
 | [], _, _, _, e, he => by simp at he
 | y :: es, p, many, h, e, he => by
  unfold entsG at h
  split at h
  ·cases h
  ·rename_i h1
   split at h
   ·cases h
   ·rcases List.mem_cons.1 he with rfl | he
    ·unfold entBad at h1
     simp only [Bool.or_eq_true, decide_eq_true_eq, not_or] at h1
     exact ⟨h1.1.2, by omega⟩
    ·exact entsG_ne1 is es _ _ h e he
theorem linkE_one {es : List En} {e : En} (h : e ∈ es) : 1 ≤ linkE es e.num := by
 induction es with
 | nil => simp at h
 | cons y ys ih =>
  unfold linkE
  rcases List.mem_cons.1 h with rfl | h
  ·rw [if_pos rfl]; omega
  ·have := ih h; omega
theorem linkI_at : ∀ (is : List Ino) (i : Nat) (x : Ino) (num : Int), is[i]? = some x → x.dir = true → linkE x.ents num ≤ linkI is num
 | [], i, x, num, h, _ => by simp at h
 | y :: ys, 0, x, num, h, hd => by
  have : y = x := by simpa using h
  subst this
  unfold linkI
  rw [hd, if_pos rfl]
  omega
 | y :: ys, i + 1, x, num, h, hd => by
  have := linkI_at ys i x num (by simpa using h) hd
  unfold linkI
  omega
theorem linkI_two : ∀ (is : List Ino) (i j : Nat) (x y : Ino) (num : Int), i < j → is[i]? = some x → is[j]? = some y → x.dir = true → y.dir = true → linkE x.ents num + linkE y.ents num ≤ linkI is num
 | [], i, j, x, y, num, _, h, _, _, _ => by simp at h
 | z :: zs, 0, j + 1, x, y, num, _, h, h2, hd, hd2 => by
  have : z = x := by simpa using h
  subst this
  have := linkI_at zs j y num (by simpa using h2) hd2
  unfold linkI
  rw [hd, if_pos rfl]
  omega
 | z :: zs, i + 1, j + 1, x, y, num, hij, h, h2, hd, hd2 => by
  have := linkI_two zs i j x y num (by omega) (by simpa using h) (by simpa using h2) hd hd2
  unfold linkI
  omega
theorem Good.idx {s : St} (h : Good s) {i : Nat} {x : Ino} (hx : s.inos[i]? = some x) : atV s.inos x.num = (i : Int) := atV_of h.rise hx
theorem Good.parent {s : St} (h : Good s) {i j k : Nat} {x y z : Ino} {e e' : En} (hk : 0 < k) (hz : s.inos[k]? = some z) (hzd : z.dir = true) (hx : s.inos[i]? = some x) (hxd : x.dir = true) (he : e ∈ x.ents) (hen : e.num = z.num)
  (hy : s.inos[j]? = some y) (hyd : y.dir = true) (he' : e' ∈ y.ents) (hen' : e'.num = z.num) : i = j := by
 have h1 := (h.one k z hk hz hzd).1
 have a1 := linkE_one he
 have a2 := linkE_one he'
 rw [hen] at a1
 rw [hen'] at a2
 rcases Nat.lt_trichotomy i j with hij | hij | hij
 ·have := linkI_two _ i j x y z.num hij hx hy hxd hyd; omega
 ·exact hij
 ·have := linkI_two _ j i y x z.num hij hy hx hyd hxd; omega
theorem Good.ent {s : St} (h : Good s) {i : Nat} {x : Ino} {e : En} (hx : s.inos[i]? = some x) (hd : x.dir = true) (he : e ∈ x.ents) : ∃ (j : Nat) (y : Ino), 0 < j ∧ s.inos[j]? = some y ∧ y.num = e.num ∧ atV s.inos e.num = (j : Int) := by
 have h1 := (h.dirs x (List.mem_of_getElem? hx) hd).2
 obtain ⟨h2, h3⟩ := entsG_ne1 _ _ _ _ h1 e he
 rcases atV_cases s.inos e.num with ⟨h4, _⟩ | ⟨j, y, h4, h5, h6, _⟩
 ·omega
 ·refine ⟨j, y, ?_, h5, h6, h4⟩
  obtain ⟨r, hr, hrn, _⟩ := h.root
  rcases Nat.eq_zero_or_pos j with rfl | hj
  ·rw [hr] at h5
   cases h5
   omega
  ·exact hj
theorem Good.lev_zero {s : St} (h : Good s) {k : Nat} (hl : Lev s.inos k 0) : k = 0 := by
 cases hl with
 | root => rfl
 | step hl hx hd he hj =>
  obtain ⟨j, y, hj0, hy, hyn, hat⟩ := h.ent hx hd he
  rw [hat] at hj
  omega
theorem Good.lev_one {s : St} (h : Good s) : ∀ (k k' i : Nat) (z : Ino), s.inos[i]? = some z → z.dir = true → Lev s.inos k i → Lev s.inos k' i → k = k'
 | 0, k', i, z, hz, hzd, h1, h2 => by
  cases h1 with
  | root => exact (h.lev_zero h2).symm
 | k + 1, 0, i, z, hz, hzd, h1, h2 => by
  cases h2 with
  | root => exact h.lev_zero h1
 | k + 1, k' + 1, i, z, hz, hzd, h1, h2 => by
  cases h1 with
  | step g1 hx hd he hj =>
   cases h2 with
   | step g2 hx2 hd2 he2 hj2 =>
    obtain ⟨j1, y1, hp1, hy1, hn1, ha1⟩ := h.ent hx hd he
    obtain ⟨j2, y2, hp2, hy2, hn2, ha2⟩ := h.ent hx2 hd2 he2
    rw [ha1] at hj
    rw [ha2] at hj2
    have e1 : j1 = i := by omega
    have e2 : j2 = i := by omega
    subst e1
    subst e2
    rw [hz] at hy1 hy2
    cases hy1
    cases hy2
    have e := h.parent hp1 hz hzd hx hd he hn1.symm hx2 hd2 he2 hn2.symm
    subst e
    have := h.lev_one k k' _ _ hx hd g1 g2
    omega
theorem nodup_bound : ∀ (n : Nat) (l : List Nat), l.Nodup → (∀ x ∈ l, x < n) → l.length ≤ n
 | 0, [], _, _ => Nat.le_refl _
 | 0, x :: l, _, h => absurd (h x List.mem_cons_self) (by omega)
 | n + 1, l, hn, h => by
  by_cases hm : n ∈ l
  ·have h1 := List.length_erase_of_mem hm
   have h2 := nodup_bound n (l.erase n) (hn.erase n) (fun x hx => by
    have h3 := List.mem_of_mem_erase hx
    have h4 := h x h3
    have h5 : x ≠ n := fun e => by
     subst e
     exact (List.Nodup.not_mem_erase hn) hx
    omega)
   have : 0 < l.length := List.length_pos_of_mem hm
   omega
  ·have := nodup_bound n l hn (fun x hx => by
    have h4 := h x hx
    have h5 : x ≠ n := fun e => hm (e ▸ hx)
    omega)
   omega
end Go.Proofs.YtilkhmhgjbhfnaaGreatDoor
