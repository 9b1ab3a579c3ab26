/- Parts of the proof, side by side: FsSweep, FsFr, FsWithin, FsRename, FsLooks, FsSized2. -/
import Derived.Test.YthhceopnnappgaaGreatM28
import Derived.Test.YthhceopnnappgaaGreatFsMake
import Derived.Test.YthhceopnnappgaaGreatM09
import Derived.Test.YthhceopnnappgaaGreatFsOpen
import Derived.Test.YthhceopnnappgaaGreatFsCopy
import Derived.Test.YthhceopnnappgaaGreatM26
import Derived.Test.YthhceopnnappgaaGreatM27
import Derived.Deep.RegionHeld3
import Derived.Test.YthhceopnnappgaaGreatM04
import Derived.Lib.BufferWrite
import Derived.Deep.WholeRow
import Derived.Deep.RegionWith
set_option linter.unusedVariables false
set_option linter.unusedSimpArgs false
namespace Go.Proofs.YthhceopnnappgaaGreat
open Go.RowKit
theorem dropI_mem : ∀ (is : List Ino) (num : Int) (x : Ino), x ∈ dropI is num → x ∈ is
 | [], _, _, h => by simp [dropI] at h
 | y :: is, num, x, h => by
  unfold dropI at h
  split at h
  ·exact List.mem_cons_of_mem _ (dropI_mem is num x h)
  ·rcases List.mem_cons.1 h with rfl | h
   ·exact List.mem_cons_self
   ·exact List.mem_cons_of_mem _ (dropI_mem is num x h)
theorem dropI_len : ∀ (is : List Ino) (num : Int), (dropI is num).length ≤ is.length ∧ bulkE (dropI is num) ≤ bulkE is
 | [], _ => ⟨Nat.le_refl _, Nat.le_refl _⟩
 | y :: is, num => by
  have ⟨h1, h2⟩ := dropI_len is num
  have e : bulkE (y :: is) = y.ents.length + bulkE is := rfl
  unfold dropI
  split
  ·exact ⟨by rw [List.length_cons]; omega, by omega⟩
  ·have e' : bulkE (y :: dropI is num) = y.ents.length + bulkE (dropI is num) := rfl
   exact ⟨by rw [List.length_cons, List.length_cons]; omega, by omega⟩
theorem Sized.dropI {s : St} (h : Sized s) (num : Int) : Sized { s with inos := Go.Proofs.YthhceopnnappgaaGreat.dropI s.inos num } := by
 have ⟨h1, h2⟩ := dropI_len s.inos num
 refine ⟨?_, fun x hx => h.text x (dropI_mem _ _ _ hx), fun x hx => h.nums.1 x (dropI_mem _ _ _ hx), h.nums.2⟩
 have := h.big
 show (Go.Proofs.YthhceopnnappgaaGreat.dropI s.inos num).length + bulkE (Go.Proofs.YthhceopnnappgaaGreat.dropI s.inos num) + s.opn.length + s.made.length ≤ _
 omega
def caRow (c : Ca) : Obj := .cells #[.int .i64 c.kind, .int .i64 c.core, .int .i64 c.fd, .int .i64 c.off, .int .i64 c.num, .string c.path, .string c.path2, .string c.data] 82 (0, 0)
structure Fr (B p : Nat) (s : St) (c : Ca) (w0 w : World) : Prop where
 own : Own B w p s
 call : w.heap[w0.heap.size]? = some (caRow c)
 res : ResAt w (w0.heap.size + 1) (.int .i64 0) (.int .i64 0) (.int .i64 0) (.bool false) (.string ⟨#[]⟩) (.slice none 0 0)
 bel : Below B w0 w
 aside : Aside p w0 w
 size : w0.heap.size + 2 ≤ w.heap.size
 hp : p < w0.heap.size
 hB : B ≤ w0.heap.size
theorem Fr.below {B p : Nat} {s : St} {c : Ca} {w0 w w' : World} (h : Fr B p s c w0 w) (hb : Below w.heap.size w w') : Fr B p s c w0 w' :=
 ⟨h.own.below hb, (hb.block _ (by have := h.size; omega)).trans h.call, (hb.block _ h.res.lt).trans h.res, h.bel.trans (hb.mono (by have := h.size; have := h.hB; omega)), h.aside.trans (Aside.below hb), Nat.le_trans h.size hb.size, h.hp, h.hB⟩
theorem Fr.step {B p : Nat} {s s' : St} {c : Ca} {w0 w w' : World} (h : Fr B p s c w0 w) (ho : Own B w' p s') (hb : Below B w w') (ha : Aside p w w') : Fr B p s' c w0 w' := by
 have hp := h.hp
 exact ⟨ho, (ha.same _ _ _ h.call (by decide) (by decide) (by omega)).trans h.call, (ha.same _ _ _ h.res (by decide) (by decide) (by omega)).trans h.res, h.bel.trans hb, h.aside.trans ha, Nat.le_trans h.size ha.size, h.hp, h.hB⟩
theorem Fr.six {B p : Nat} {s : St} {c : Ca} {w0 w : World} (h : Fr B p s c w0 w) (a b x y z t : Value) :
  ∃ w', (((((w.setCell ⟨w0.heap.size + 1, 0, none⟩ a).setCell ⟨w0.heap.size + 1, 1, none⟩ b).setCell ⟨w0.heap.size + 1, 2, none⟩ x).setCell ⟨w0.heap.size + 1, 3, none⟩ y).setCell ⟨w0.heap.size + 1, 4, none⟩ z).setCell ⟨w0.heap.size + 1, 5, none⟩ t = w' ∧
   ResAt w' (w0.heap.size + 1) a b x y z t ∧ Own B w' p s ∧ Below B w0 w' ∧ Aside p w0 w' := by
 obtain ⟨w', hw, hr, hk, hb, hn, hz⟩ := h.res.six a b x y z t
 exact ⟨w', hw, hr, h.own.keep hk, hb B w0 (by have := h.hB; omega) h.bel, ⟨Nat.le_trans h.aside.size hz, fun g cur t hg h1 h2 h3 => (hn g (by have := (Array.getElem?_eq_some_iff.1 hg).1; omega)).trans (h.aside.same g cur t hg h1 h2 h3)⟩⟩
theorem Fr.start {B p : Nat} {s : St} {w : World} (h : Own B w p s) (hB : B ≤ w.heap.size) (c : Ca) :
  ∃ W W2, w.alloc (.cells #[.int .i64 c.kind, .int .i64 c.core, .int .i64 c.fd, .int .i64 c.off, .int .i64 c.num, .string c.path, .string c.path2, .string c.data] 82) = W ∧
   W.alloc (.cells #[.int .i64 0, .int .i64 0, .int .i64 0, .bool false, .string ⟨#[]⟩, .slice none 0 0] 78) = W2 ∧ W.heap.size = w.heap.size + 1 ∧ Fr B p s c w W2 := by
 obtain ⟨W, hW, hbc, hal, hsz⟩ := box_ca w c
 obtain ⟨A, n, cp, E, m, d, D, k, e, _, hp, _⟩ := h.val
 have hal2 : Below W.heap.size W (W.alloc (.cells #[.int .i64 0, .int .i64 0, .int .i64 0, .bool false, .string ⟨#[]⟩, .slice none 0 0] 78)) := (Below.refl _ _).alloc (Nat.le_refl _) _
 have hb2 := Cv.next hal hal2
 refine ⟨W, _, hW, rfl, hsz, h.below hb2, (hal2.block _ (by omega)).trans hbc, ?_, hb2.mono hB, Aside.below hb2, ?_, hp, hB⟩
 ·rw [← hsz]; exact heap_alloc_new W _
 ·simp [hsz]
def Deep (is : List Ino) : Nat → Int → Prop
 | 0, _ => False
 | n + 1, top => ∀ x, inoAt is (atV is top) = some x → ∀ e ∈ x.ents, dirAt is e.num = true → Deep is n e.num
theorem bulkE_modify (f : List En → List En) (hf : ∀ es, (f es).length ≤ es.length) : ∀ (is : List Ino) (i : Nat), bulkE (is.modify i fun x => { x with ents := f x.ents }) ≤ bulkE is
 | [], _ => by simp
 | x :: xs, 0 => by
  have := hf x.ents
  show (f x.ents).length + bulkE xs ≤ x.ents.length + bulkE xs
  omega
 | x :: xs, i + 1 => by
  have := bulkE_modify f hf xs i
  show x.ents.length + bulkE (xs.modify i _) ≤ x.ents.length + bulkE xs
  omega
theorem modify_mem {α : Type} (f : α → α) : ∀ (l : List α) (i : Nat) (y : α), y ∈ l.modify i f → y ∈ l ∨ ∃ x ∈ l, y = f x
 | [], _, _, h => by simp at h
 | x :: xs, 0, y, h => by
  have h2 : y ∈ f x :: xs := h
  rcases List.mem_cons.1 h2 with rfl | h2
  ·exact .inr ⟨x, List.mem_cons_self, rfl⟩
  ·exact .inl (List.mem_cons_of_mem _ h2)
 | x :: xs, i + 1, y, h => by
  have h2 : y ∈ x :: xs.modify i f := h
  rcases List.mem_cons.1 h2 with rfl | h2
  ·exact .inl List.mem_cons_self
  ·rcases modify_mem f xs i y h2 with h3 | ⟨z, h3, h4⟩
   ·exact .inl (List.mem_cons_of_mem _ h3)
   ·exact .inr ⟨z, List.mem_cons_of_mem _ h3, h4⟩
theorem dropE_mem : ∀ (es : List En) (name : ByteArray) (e : En), e ∈ dropE es name → e ∈ es
 | [], _, _, h => by simp [dropE] at h
 | y :: es, name, e, h => by
  unfold dropE at h
  split at h
  ·exact List.mem_cons_of_mem _ (dropE_mem es name e h)
  ·rcases List.mem_cons.1 h with rfl | h
   ·exact List.mem_cons_self
   ·exact List.mem_cons_of_mem _ (dropE_mem es name e h)
theorem Sized.dropE {s : St} (h : Sized s) (dir : Int) (name : ByteArray) : Sized { s with inos := setEnts s.inos dir fun es => Go.Proofs.YthhceopnnappgaaGreat.dropE es name } := by
 refine ⟨?_, fun x hx => ?_, ⟨fun x hx => ?_, h.nums.2⟩⟩
 ·have h1 := bulkE_modify (fun es => Go.Proofs.YthhceopnnappgaaGreat.dropE es name) (fun es => dropE_len es name) s.inos (atV s.inos dir).toNat
  have := h.big
  have h2 : (setEnts s.inos dir fun es => Go.Proofs.YthhceopnnappgaaGreat.dropE es name).length = s.inos.length := by unfold setEnts; rw [List.length_modify]
  have h3 : bulkE (setEnts s.inos dir fun es => Go.Proofs.YthhceopnnappgaaGreat.dropE es name) ≤ bulkE s.inos := h1
  show (setEnts s.inos dir fun es => Go.Proofs.YthhceopnnappgaaGreat.dropE es name).length + bulkE (setEnts s.inos dir fun es => Go.Proofs.YthhceopnnappgaaGreat.dropE es name) + s.opn.length + s.made.length ≤ _
  omega
 ·rcases modify_mem _ _ _ _ hx with hx | ⟨z, hz, rfl⟩
  ·exact h.text x hx
  ·exact ⟨(h.text z hz).1, fun e he => (h.text z hz).2 e (dropE_mem _ _ _ he)⟩
 ·rcases modify_mem _ _ _ _ hx with hx | ⟨z, hz, rfl⟩
  ·exact h.nums.1 x hx
  ·exact ⟨(h.nums.1 z hz).1, (h.nums.1 z hz).2.1, fun e he => (h.nums.1 z hz).2.2 e (dropE_mem _ _ _ he)⟩
def NmsAt (lo : Option Nat) (w : World) (A : Option Addr) (n : Nat) (ns : List ByteArray) : Prop :=
 ns.length = n ∧ (0 < n → ∃ g off, A = some ⟨g, off, none⟩ ∧ g < w.heap.size ∧ Mine lo 9 w g ∧ ∀ j x, ns[j]? = some x → w.cell? ⟨g, off + j, none⟩ = some (.string x))
theorem NmsAt.below {lo : Option Nat} {w w' : World} {A : Option Addr} {n : Nat} {ns : List ByteArray} (h : NmsAt lo w A n ns) (hb : Below w.heap.size w w') : NmsAt lo w' A n ns :=
 ⟨h.1, fun hn => by
  obtain ⟨g, off, hA, hg, hm, hc⟩ := h.2 hn
  exact ⟨g, off, hA, Nat.lt_of_lt_of_le hg hb.size, hm.below hb, fun j x hx => (hb.cell (p := ⟨g, _, none⟩) hg).trans (hc j x hx)⟩⟩
theorem NmsAt.weak {lo : Option Nat} {w : World} {A : Option Addr} {n : Nat} {ns : List ByteArray} (h : NmsAt lo w A n ns) : NmsAt none w A n ns :=
 ⟨h.1, fun hn => by
  obtain ⟨g, off, hA, hg, hm, hc⟩ := h.2 hn
  exact ⟨g, off, hA, hg, Mine.any _ _ _, hc⟩⟩
theorem NmsAt.keep {B : Nat} {w w' : World} {A : Option Addr} {n : Nat} {ns : List ByteArray} (h : NmsAt (some B) w A n ns) (hk : KeepT 9 w w') : NmsAt (some B) w' A n ns :=
 ⟨h.1, fun hn => by
  obtain ⟨g, off, hA, hg, hm, hc⟩ := h.2 hn
  obtain ⟨m1, m2⟩ := hk.mine hm
  exact ⟨g, off, hA, Nat.lt_of_lt_of_le hg hk.size, m1, fun j x hx => (cell_same m2 _).trans (hc j x hx)⟩⟩
theorem NmsAt.lower {B B' : Nat} {w : World} {A : Option Addr} {n : Nat} {ns : List ByteArray} (h : NmsAt (some B) w A n ns) (hb : B' ≤ B) : NmsAt (some B') w A n ns :=
 ⟨h.1, fun hn => by
  obtain ⟨g, off, hA, hg, hm, hc⟩ := h.2 hn
  exact ⟨g, off, hA, hg, hm.mono hb, hc⟩⟩
theorem NmsAt.of_row {B : Nat} {w : World} {v : Value} {n : Nat} {ns : List ByteArray} (h : w.ownsRow B 9 1 v n (ns.map Value.string)) : ∃ A c, v = .slice A n c ∧ SlOk A n c ∧ NmsAt (some B) w A n ns := by
 obtain ⟨A, c, h1, h2, h3, h4⟩ := row_any h (by decide)
 have hl : ns.length = n := by have := h.1; simpa using this
 refine ⟨A, c, h1, ⟨h2, fun e => (h3 e).2⟩, hl, fun hn => ?_⟩
 obtain ⟨g, hA, hg, hm, hc⟩ := h4 hn
 refine ⟨g, 0, hA, hg, hm, fun j x hx => ?_⟩
 have hj := (List.getElem?_eq_some_iff.1 hx).1
 rw [Nat.zero_add, hc j (by omega), List.getElem?_map, hx]
 rfl
def ResIs (lo : Option Nat) (w : World) (v : Value) (r : Re) : Prop :=
 ∃ A n c, v = .agg #[.int .i64 r.code, .int .i64 r.fd, .int .i64 r.num, .bool r.dir, .string r.data, .slice A n c] ∧ SlOk A n c ∧ NmsAt lo w A n r.names
theorem ResIs.below {lo : Option Nat} {w w' : World} {v : Value} {r : Re} (h : ResIs lo w v r) (hb : Below w.heap.size w w') : ResIs lo w' v r := by
 obtain ⟨A, n, c, h1, h2, h3⟩ := h
 exact ⟨A, n, c, h1, h2, h3.below hb⟩
theorem ResIs.weak {lo : Option Nat} {w : World} {v : Value} {r : Re} (h : ResIs lo w v r) : ResIs none w v r := by
 obtain ⟨A, n, c, h1, h2, h3⟩ := h
 exact ⟨A, n, c, h1, h2, h3.weak⟩
structure Lk (a b d : Value) (s : St) (c : Ca) (w0 w : World) : Prop where
 box : OutAt w w0.heap.size a b d
 call : w.heap[w0.heap.size + 1]? = some (caRow c)
 res : ResAt w (w0.heap.size + 2) (.int .i64 0) (.int .i64 0) (.int .i64 0) (.bool false) (.string ⟨#[]⟩) (.slice none 0 0)
 st : StAt none w (.agg #[a, b, d]) s
 bel : Below w0.heap.size w0 w
 size : w0.heap.size + 3 ≤ w.heap.size
theorem Lk.below {a b d : Value} {s : St} {c : Ca} {w0 w w' : World} (h : Lk a b d s c w0 w) (hb : Below w.heap.size w w') : Lk a b d s c w0 w' :=
 ⟨(hb.block _ (by have := h.size; omega)).trans h.box, (hb.block _ (by have := h.size; omega)).trans h.call, (hb.block _ h.res.lt).trans h.res, h.st.below hb, h.bel.trans (hb.mono (by have := h.size; omega)), Nat.le_trans h.size hb.size⟩
theorem Lk.six {a b d : Value} {s : St} {c : Ca} {w0 w : World} (h : Lk a b d s c w0 w) (q r x y z t : Value) :
  ∃ w', (((((w.setCell ⟨w0.heap.size + 2, 0, none⟩ q).setCell ⟨w0.heap.size + 2, 1, none⟩ r).setCell ⟨w0.heap.size + 2, 2, none⟩ x).setCell ⟨w0.heap.size + 2, 3, none⟩ y).setCell ⟨w0.heap.size + 2, 4, none⟩ z).setCell ⟨w0.heap.size + 2, 5, none⟩ t = w' ∧
   ResAt w' (w0.heap.size + 2) q r x y z t ∧ Below w0.heap.size w0 w' ∧ ∀ ty, 78 ≠ ty → KeepT ty w w' := by
 obtain ⟨w', hw, hr, hk, hb, _, _⟩ := h.res.six q r x y z t
 exact ⟨w', hw, hr, hb w0.heap.size w0 (by omega) h.bel, hk⟩
theorem Lk.start {w : World} {s : St} {A : Option Addr} {n cp : Nat} {E : Option Addr} {m d : Nat} {D : Option Addr} {k e : Nat} (h : StAt none w (.agg #[.slice A n cp, .slice E m d, .slice D k e]) s) (c : Ca) :
  ∃ W W2 W3, w.alloc (.cells #[.slice A n cp, .slice E m d, .slice D k e] 26) = W ∧ W.alloc (.cells #[.int .i64 c.kind, .int .i64 c.core, .int .i64 c.fd, .int .i64 c.off, .int .i64 c.num, .string c.path, .string c.path2, .string c.data] 82) = W2 ∧
   W2.alloc (.cells #[.int .i64 0, .int .i64 0, .int .i64 0, .bool false, .string ⟨#[]⟩, .slice none 0 0] 78) = W3 ∧ W.heap.size = w.heap.size + 1 ∧ W2.heap.size = w.heap.size + 2 ∧ Lk (.slice A n cp) (.slice E m d) (.slice D k e) s c w W3 := by
 have h1 : Below w.heap.size w (w.alloc (.cells #[.slice A n cp, .slice E m d, .slice D k e] 26)) := (Below.refl _ _).alloc (Nat.le_refl _) _
 obtain ⟨W2, hW2, hbc, hal, hsz⟩ := box_ca (w.alloc (.cells #[.slice A n cp, .slice E m d, .slice D k e] 26)) c
 have hs1 : (w.alloc (.cells #[.slice A n cp, .slice E m d, .slice D k e] 26)).heap.size = w.heap.size + 1 := by simp
 have hal2 : Below W2.heap.size W2 (W2.alloc (.cells #[.int .i64 0, .int .i64 0, .int .i64 0, .bool false, .string ⟨#[]⟩, .slice none 0 0] 78)) := (Below.refl _ _).alloc (Nat.le_refl _) _
 have hb2 := Cv.next hal hal2
 rw [hs1] at hbc hsz
 refine ⟨_, W2, _, rfl, hW2, rfl, hs1, by omega, ?_, ?_, ?_, h.below (Cv.next h1 hb2), Cv.next h1 hb2, by simp; omega⟩
 ·exact (hb2.block _ (by omega)).trans (heap_alloc_new w _)
 ·exact (hal2.block _ (by omega)).trans hbc
 ·rw [show w.heap.size + 2 = W2.heap.size by omega]; exact heap_alloc_new W2 _
theorem Sized.setData {s : St} (h : Sized s) {i : Nat} {x : Ino} (hx : s.inos[i]? = some x) (d : ByteArray) (hd : d.size ≤ 140737488355328) : Sized { s with inos := s.inos.set i { x with data := d } } := by
 have hmem : x ∈ s.inos := List.mem_of_getElem? hx
 have hb : ∀ (is : List Ino) (i : Nat), is[i]? = some x → bulkE (is.set i { x with data := d }) = bulkE is := by
  intro is
  induction is with
  | nil => intro i h; simp at h
  | cons y ys ih =>
   intro i h
   cases i with
   | zero =>
    have : y = x := by simpa using h
    subst this
    rfl
   | succ i =>
    have := ih i (by simpa using h)
    show y.ents.length + bulkE (ys.set i _) = y.ents.length + bulkE ys
    rw [this]
 refine ⟨?_, fun y hy => ?_, ⟨fun y hy => ?_, h.nums.2⟩⟩
 ·show (s.inos.set i _).length + bulkE (s.inos.set i _) + _ + _ ≤ _
  rw [List.length_set, hb _ _ hx]
  exact h.big
 ·rcases List.mem_or_eq_of_mem_set hy with hy | rfl
  ·exact h.text y hy
  ·exact ⟨hd, (h.text x hmem).2⟩
 ·rcases List.mem_or_eq_of_mem_set hy with hy | rfl
  ·exact h.nums.1 y hy
  ·exact h.nums.1 x hmem
end Go.Proofs.YthhceopnnappgaaGreat
