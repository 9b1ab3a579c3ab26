/- Parts of the proof, side by side: St, FsReach. -/
import Derived.Test.YthhceopnnappgaaGreatDoorM00
import Derived.WalkKit
import Derived.BigQuiet
import Derived.Deep.QuietTactic
set_option linter.unusedVariables false
set_option linter.unusedSimpArgs false
namespace Go.Proofs.YthhceopnnappgaaGreatDoor
open Go.RowKit
def Mine (lo : Option Nat) (t : TypeId) (w : World) (g : Nat) : Prop := ∀ B, lo = some B → B ≤ g ∧ ∃ cur, w.heap[g]? = some (.cells cur t (0, 0))
theorem Mine.any (t : TypeId) (w : World) (g : Nat) : Mine none t w g := fun B h => by cases h
theorem Mine.below {lo : Option Nat} {t : TypeId} {w w' : World} {g : Nat} (h : Mine lo t w g) (hb : Below w.heap.size w w') : Mine lo t w' g := fun B hB => by
 obtain ⟨h1, cur, h2⟩ := h B hB
 exact ⟨h1, cur, (hb.block g (Array.getElem?_eq_some_iff.1 h2).1).trans h2⟩
theorem Mine.mono {B B' : Nat} {t : TypeId} {w : World} {g : Nat} (h : Mine (some B) t w g) (hb : B' ≤ B) : Mine (some B') t w g := fun C hC => by
 obtain ⟨h1, h2⟩ := h B rfl
 cases hC
 exact ⟨by omega, h2⟩
def SlOk (A : Option Addr) (n c : Nat) : Prop := n ≤ c ∧ (A = none → c = 0)
def EntsAt (lo : Option Nat) (w : World) (A : Option Addr) (n : Nat) (es : List En) : Prop :=
 es.length = n ∧ (0 < n → ∃ g off, A = some ⟨g, off, none⟩ ∧ g < w.heap.size ∧ Mine lo 84 w g ∧ ∀ j e, es[j]? = some e → w.cell? ⟨g, off + j * 2, none⟩ = some (.string e.name) ∧ w.cell? ⟨g, off + j * 2 + 1, none⟩ = some (.int .i64 e.num))
def InosAt (lo : Option Nat) (w : World) (A : Option Addr) (n : Nat) (is : List Ino) : Prop :=
 is.length = n ∧ (0 < n → ∃ g off, A = some ⟨g, off, none⟩ ∧ g < w.heap.size ∧ Mine lo 52 w g ∧ ∀ j x, is[j]? = some x → w.cell? ⟨g, off + j * 4, none⟩ = some (.int .i64 x.num) ∧ w.cell? ⟨g, off + j * 4 + 1, none⟩ = some (.bool x.dir) ∧
  (∃ B m c, w.cell? ⟨g, off + j * 4 + 2, none⟩ = some (.slice B m c) ∧ SlOk B m c ∧ EntsAt lo w B m x.ents) ∧ w.cell? ⟨g, off + j * 4 + 3, none⟩ = some (.string x.data))
def DescsAt (lo : Option Nat) (w : World) (A : Option Addr) (n : Nat) (ds : List Ds) : Prop :=
 ds.length = n ∧ (0 < n → ∃ g off, A = some ⟨g, off, none⟩ ∧ g < w.heap.size ∧ Mine lo 67 w g ∧ ∀ j d, ds[j]? = some d → w.cell? ⟨g, off + j * 3, none⟩ = some (.int .i64 d.core) ∧ w.cell? ⟨g, off + j * 3 + 1, none⟩ = some (.int .i64 d.fd) ∧ w.cell? ⟨g, off + j * 3 + 2, none⟩ = some (.int .i64 d.num))
def IntsAt (lo : Option Nat) (w : World) (A : Option Addr) (n : Nat) (xs : List Int) : Prop :=
 xs.length = n ∧ (0 < n → ∃ g off, A = some ⟨g, off, none⟩ ∧ g < w.heap.size ∧ Mine lo 3 w g ∧ ∀ j x, xs[j]? = some x → w.cell? ⟨g, off + j, none⟩ = some (.int .i64 x))
structure Sized (s : St) : Prop where
 big : s.inos.length + bulkE s.inos + s.opn.length + s.made.length ≤ 1099511627776
 text : ∀ x ∈ s.inos, x.data.size ≤ 140737488355328 ∧ ∀ e ∈ x.ents, e.name.size ≤ 140737488355328
 nums : (∀ x ∈ s.inos, -9223372036854775808 ≤ x.num ∧ x.num ≤ 9223372036854775807 ∧ ∀ e ∈ x.ents, -9223372036854775808 ≤ e.num ∧ e.num ≤ 9223372036854775807) ∧ (∀ x ∈ s.made, -9223372036854775808 ≤ x ∧ x ≤ 9223372036854775807)
structure StAt (lo : Option Nat) (w : World) (v : Value) (s : St) : Prop where
 at_ : ∃ A n c B m d D k e, v = .agg #[.slice A n c, .slice B m d, .slice D k e] ∧ InosAt lo w A n s.inos ∧ DescsAt lo w B m s.opn ∧ IntsAt lo w D k s.made ∧ SlOk A n c ∧ SlOk B m d ∧ SlOk D k e
 sized : Sized s
theorem EntsAt.below {lo : Option Nat} {w w' : World} {A : Option Addr} {n : Nat} {es : List En} (h : EntsAt lo w A n es) (hb : Below w.heap.size w w') : EntsAt lo w' A n es :=
 ⟨h.1, fun hn => by
  obtain ⟨g, off, hA, hg, hm, hc⟩ := h.2 hn
  exact ⟨g, off, hA, Nat.lt_of_lt_of_le hg hb.size, hm.below hb, fun j e he => ⟨(hb.cell (p := ⟨g, _, none⟩) hg).trans (hc j e he).1, (hb.cell (p := ⟨g, _, none⟩) hg).trans (hc j e he).2⟩⟩⟩
theorem InosAt.below {lo : Option Nat} {w w' : World} {A : Option Addr} {n : Nat} {is : List Ino} (h : InosAt lo w A n is) (hb : Below w.heap.size w w') : InosAt lo w' A n is :=
 ⟨h.1, fun hn => by
  obtain ⟨g, off, hA, hg, hm, hc⟩ := h.2 hn
  refine ⟨g, off, hA, Nat.lt_of_lt_of_le hg hb.size, hm.below hb, fun j x hx => ?_⟩
  obtain ⟨h1, h2, ⟨B, m, c, h3, h4, h5⟩, h6⟩ := hc j x hx
  exact ⟨(hb.cell (p := ⟨g, _, none⟩) hg).trans h1, (hb.cell (p := ⟨g, _, none⟩) hg).trans h2, ⟨B, m, c, (hb.cell (p := ⟨g, _, none⟩) hg).trans h3, h4, h5.below hb⟩, (hb.cell (p := ⟨g, _, none⟩) hg).trans h6⟩⟩
theorem DescsAt.below {lo : Option Nat} {w w' : World} {A : Option Addr} {n : Nat} {ds : List Ds} (h : DescsAt lo w A n ds) (hb : Below w.heap.size w w') : DescsAt lo w' A n ds :=
 ⟨h.1, fun hn => by
  obtain ⟨g, off, hA, hg, hm, hc⟩ := h.2 hn
  exact ⟨g, off, hA, Nat.lt_of_lt_of_le hg hb.size, hm.below hb, fun j e he => ⟨(hb.cell (p := ⟨g, _, none⟩) hg).trans (hc j e he).1, (hb.cell (p := ⟨g, _, none⟩) hg).trans (hc j e he).2.1, (hb.cell (p := ⟨g, _, none⟩) hg).trans (hc j e he).2.2⟩⟩⟩
theorem IntsAt.below {lo : Option Nat} {w w' : World} {A : Option Addr} {n : Nat} {xs : List Int} (h : IntsAt lo w A n xs) (hb : Below w.heap.size w w') : IntsAt lo w' A n xs :=
 ⟨h.1, fun hn => by
  obtain ⟨g, off, hA, hg, hm, hc⟩ := h.2 hn
  exact ⟨g, off, hA, Nat.lt_of_lt_of_le hg hb.size, hm.below hb, fun j x hx => (hb.cell (p := ⟨g, _, none⟩) hg).trans (hc j x hx)⟩⟩
theorem StAt.below {lo : Option Nat} {w w' : World} {v : Value} {s : St} (h : StAt lo w v s) (hb : Below w.heap.size w w') : StAt lo w' v s := by
 obtain ⟨⟨A, n, c, B, m, d, D, k, e, h1, h2, h3, h4, h5, h6, h7⟩, hbig⟩ := h
 exact ⟨⟨A, n, c, B, m, d, D, k, e, h1, h2.below hb, h3.below hb, h4.below hb, h5, h6, h7⟩, hbig⟩
theorem EntsAt.weak {lo : Option Nat} {w : World} {A : Option Addr} {n : Nat} {es : List En} (h : EntsAt lo w A n es) : EntsAt none w A n es :=
 ⟨h.1, fun hn => by
  obtain ⟨g, off, hA, hg, hm, hc⟩ := h.2 hn
  exact ⟨g, off, hA, hg, Mine.any _ _ _, hc⟩⟩
theorem InosAt.weak {lo : Option Nat} {w : World} {A : Option Addr} {n : Nat} {is : List Ino} (h : InosAt lo w A n is) : InosAt none w A n is :=
 ⟨h.1, fun hn => by
  obtain ⟨g, off, hA, hg, hm, hc⟩ := h.2 hn
  refine ⟨g, off, hA, hg, Mine.any _ _ _, fun j x hx => ?_⟩
  obtain ⟨h1, h2, ⟨B, m, c, h3, h4, h5⟩, h6⟩ := hc j x hx
  exact ⟨h1, h2, ⟨B, m, c, h3, h4, h5.weak⟩, h6⟩⟩
theorem DescsAt.weak {lo : Option Nat} {w : World} {A : Option Addr} {n : Nat} {ds : List Ds} (h : DescsAt lo w A n ds) : DescsAt none w A n ds :=
 ⟨h.1, fun hn => by
  obtain ⟨g, off, hA, hg, hm, hc⟩ := h.2 hn
  exact ⟨g, off, hA, hg, Mine.any _ _ _, hc⟩⟩
theorem IntsAt.weak {lo : Option Nat} {w : World} {A : Option Addr} {n : Nat} {xs : List Int} (h : IntsAt lo w A n xs) : IntsAt none w A n xs :=
 ⟨h.1, fun hn => by
  obtain ⟨g, off, hA, hg, hm, hc⟩ := h.2 hn
  exact ⟨g, off, hA, hg, Mine.any _ _ _, hc⟩⟩
theorem StAt.weak {lo : Option Nat} {w : World} {v : Value} {s : St} (h : StAt lo w v s) : StAt none w v s := by
 obtain ⟨⟨A, n, c, B, m, d, D, k, e, h1, h2, h3, h4, h5, h6, h7⟩, hbig⟩ := h
 exact ⟨⟨A, n, c, B, m, d, D, k, e, h1, h2.weak, h3.weak, h4.weak, h5, h6, h7⟩, hbig⟩
theorem EntsAt.drewN {lo : Option Nat} {w : World} {A : Option Addr} {n : Nat} {es : List En} (h : EntsAt lo w A n es) (q : Nat) : EntsAt lo (w.drewN q) A n es := h
theorem InosAt.drewN {lo : Option Nat} {w : World} {A : Option Addr} {n : Nat} {is : List Ino} (h : InosAt lo w A n is) (q : Nat) : InosAt lo (w.drewN q) A n is := h
theorem DescsAt.drewN {lo : Option Nat} {w : World} {A : Option Addr} {n : Nat} {ds : List Ds} (h : DescsAt lo w A n ds) (q : Nat) : DescsAt lo (w.drewN q) A n ds := h
theorem IntsAt.drewN {lo : Option Nat} {w : World} {A : Option Addr} {n : Nat} {xs : List Int} (h : IntsAt lo w A n xs) (q : Nat) : IntsAt lo (w.drewN q) A n xs := h
theorem StAt.drewN {lo : Option Nat} {w : World} {v : Value} {s : St} (h : StAt lo w v s) (q : Nat) : StAt lo (w.drewN q) v s := ⟨h.at_, h.sized⟩
theorem bulkE_le {is : List Ino} {j : Nat} {x : Ino} (h : is[j]? = some x) : x.ents.length ≤ bulkE is := by
 induction is generalizing j with
 | nil => simp at h
 | cons y ys ih =>
  cases j with
  | zero =>
   simp at h
   subst h
   show y.ents.length ≤ y.ents.length + bulkE ys
   omega
  | succ j =>
   simp at h
   have := ih h
   show x.ents.length ≤ y.ents.length + bulkE ys
   omega
theorem InosAt.get {lo : Option Nat} {w : World} {A : Option Addr} {n : Nat} {is : List Ino} (h : InosAt lo w A n is) (j : Nat) (hj : j < n) : ∃ g off x B m c, A = some ⟨g, off, none⟩ ∧ g < w.heap.size ∧ is[j]? = some x ∧ is.drop j = x :: is.drop (j + 1) ∧ x ∈ is ∧ w.cell? ⟨g, off + j * 4, none⟩ = some (.int .i64 x.num) ∧ w.cell? ⟨g, off + j * 4 + 1, none⟩ = some (.bool x.dir) ∧
  w.cell? ⟨g, off + j * 4 + 2, none⟩ = some (.slice B m c) ∧ SlOk B m c ∧ EntsAt lo w B m x.ents ∧ w.cell? ⟨g, off + j * 4 + 3, none⟩ = some (.string x.data) := by
 obtain ⟨g, off, hA, hg, hm, hc⟩ := h.2 (by omega)
 have hl : j < is.length := by rw [h.1]; exact hj
 obtain ⟨h1, h2, ⟨B, m, c, h3, h4, h5⟩, h6⟩ := hc j _ (List.getElem?_eq_getElem hl)
 exact ⟨g, off, is[j], B, m, c, hA, hg, List.getElem?_eq_getElem hl, List.drop_eq_getElem_cons hl, List.getElem_mem hl, h1, h2, h3, h4, h5, h6⟩
theorem EntsAt.get {lo : Option Nat} {w : World} {A : Option Addr} {n : Nat} {es : List En} (h : EntsAt lo w A n es) (j : Nat) (hj : j < n) : ∃ g off e, A = some ⟨g, off, none⟩ ∧ g < w.heap.size ∧ es[j]? = some e ∧ es.drop j = e :: es.drop (j + 1) ∧ e ∈ es ∧ w.cell? ⟨g, off + j * 2, none⟩ = some (.string e.name) ∧ w.cell? ⟨g, off + j * 2 + 1, none⟩ = some (.int .i64 e.num) := by
 obtain ⟨g, off, hA, hg, hm, hc⟩ := h.2 (by omega)
 have hl : j < es.length := by rw [h.1]; exact hj
 obtain ⟨h1, h2⟩ := hc j _ (List.getElem?_eq_getElem hl)
 exact ⟨g, off, es[j], hA, hg, List.getElem?_eq_getElem hl, List.drop_eq_getElem_cons hl, List.getElem_mem hl, h1, h2⟩
theorem DescsAt.get {lo : Option Nat} {w : World} {A : Option Addr} {n : Nat} {ds : List Ds} (h : DescsAt lo w A n ds) (j : Nat) (hj : j < n) : ∃ g off d, A = some ⟨g, off, none⟩ ∧ g < w.heap.size ∧ ds[j]? = some d ∧ ds.drop j = d :: ds.drop (j + 1) ∧ d ∈ ds ∧ w.cell? ⟨g, off + j * 3, none⟩ = some (.int .i64 d.core) ∧ w.cell? ⟨g, off + j * 3 + 1, none⟩ = some (.int .i64 d.fd) ∧ w.cell? ⟨g, off + j * 3 + 2, none⟩ = some (.int .i64 d.num) := by
 obtain ⟨g, off, hA, hg, hm, hc⟩ := h.2 (by omega)
 have hl : j < ds.length := by rw [h.1]; exact hj
 obtain ⟨h1, h2, h3⟩ := hc j _ (List.getElem?_eq_getElem hl)
 exact ⟨g, off, ds[j], hA, hg, List.getElem?_eq_getElem hl, List.drop_eq_getElem_cons hl, List.getElem_mem hl, h1, h2, h3⟩
theorem IntsAt.get {lo : Option Nat} {w : World} {A : Option Addr} {n : Nat} {xs : List Int} (h : IntsAt lo w A n xs) (j : Nat) (hj : j < n) : ∃ g off x, A = some ⟨g, off, none⟩ ∧ g < w.heap.size ∧ xs[j]? = some x ∧ xs.drop j = x :: xs.drop (j + 1) ∧ x ∈ xs ∧ w.cell? ⟨g, off + j, none⟩ = some (.int .i64 x) := by
 obtain ⟨g, off, hA, hg, hm, hc⟩ := h.2 (by omega)
 have hl : j < xs.length := by rw [h.1]; exact hj
 exact ⟨g, off, xs[j], hA, hg, List.getElem?_eq_getElem hl, List.drop_eq_getElem_cons hl, List.getElem_mem hl, hc j _ (List.getElem?_eq_getElem hl)⟩
end Go.Proofs.YthhceopnnappgaaGreatDoor
namespace Go.Proofs.YthhceopnnappgaaGreatDoor
inductive Reach (is : List Ino) : Nat → Prop where
 | root (k : Nat) : atV is 1 = (k : Int) → Reach is k
 | step (k j : Nat) (x : Ino) (e : En) : Reach is k → is[k]? = some x → x.dir = true → e ∈ x.ents → atV is e.num = (j : Int) → Reach is j
structure Found (is : List Ino) (todo : List Int) (f : List Bool) : Prop where
 len : f.length = is.length
 sound : ∀ k, f.getD k false = true → Reach is k
 left_ : ∀ t ∈ todo, ∀ j : Nat, atV is t = (j : Int) → Reach is j
 closed : ∀ (k : Nat) (x : Ino), f.getD k false = true → is[k]? = some x → x.dir = true → ∀ e ∈ x.ents, ∀ j : Nat, atV is e.num = (j : Int) → f.getD j false = true ∨ e.num ∈ todo
 root : ∀ j : Nat, atV is 1 = (j : Int) → f.getD j false = true ∨ (1 : Int) ∈ todo
theorem Found.done {is : List Ino} {f : List Bool} (h : Found is [] f) (k : Nat) : f.getD k false = true ↔ Reach is k := by
 refine ⟨h.sound k, fun hr => ?_⟩
 induction hr with
 | root k hk => rcases h.root k hk with h1 | h1; exact h1; simp at h1
 | step k j x e _ hx hd he hj ih => rcases h.closed k x ih hx hd e he j hj with h1 | h1; exact h1; simp at h1
def sumUn : List Ino → List Bool → Nat
 | [], _ => 0
 | x :: xs, f => (if f.headD false then 0 else x.ents.length) + sumUn xs f.tail
theorem sumUn_start : ∀ (is : List Ino) (n : Nat), sumUn is (List.replicate n false) = bulkE is
 | [], _ => rfl
 | x :: xs, 0 => by
  show (if false = true then 0 else x.ents.length) + sumUn xs (List.replicate 0 false) = x.ents.length + bulkE xs
  rw [sumUn_start xs 0]
  simp
 | x :: xs, n + 1 => by
  show (if false = true then 0 else x.ents.length) + sumUn xs (List.replicate n false) = x.ents.length + bulkE xs
  rw [sumUn_start xs n]
  simp
theorem sumUn_set : ∀ (is : List Ino) (f : List Bool) (k : Nat) (x : Ino), k < f.length → f.getD k false = false → is[k]? = some x → sumUn is f = x.ents.length + sumUn is (f.set k true)
 | [], _, _, _, _, _, h => by simp at h
 | y :: ys, [], _, _, hk, _, _ => by simp at hk
 | y :: ys, b :: f, 0, x, _, hf, hx => by
  have e : y = x := by simpa using hx
  subst e
  have hb : b = false := by simpa using hf
  subst hb
  show (if false = true then 0 else y.ents.length) + sumUn ys f = y.ents.length + ((if true = true then 0 else y.ents.length) + sumUn ys f)
  simp
 | y :: ys, b :: f, k + 1, x, hk, hf, hx => by
  have ih := sumUn_set ys f k x (by simpa using hk) (by simpa using hf) (by simpa using hx)
  show (if b = true then 0 else y.ents.length) + sumUn ys f = x.ents.length + ((if b = true then 0 else y.ents.length) + sumUn ys (f.set k true))
  omega
theorem getD_set (f : List Bool) (k j : Nat) (hk : k < f.length) : (f.set k true).getD j false = if j = k then true else f.getD j false := by
 rw [List.getD_eq_getElem?_getD, List.getElem?_set]
 by_cases h : k = j
 ·subst h
  simp [hk]
 ·rw [if_neg h, if_neg (Ne.symm h), List.getD_eq_getElem?_getD]
theorem atV_lt {is : List Ino} {t : Int} {k : Nat} (h : atV is t = (k : Int)) : ∃ x, is[k]? = some x ∧ x.num = t := by
 rcases atV_cases is t with ⟨h1, _⟩ | ⟨j, x, h1, h2, h3, _⟩
 ·omega
 ·have : j = k := by omega
  subst this
  exact ⟨x, h2, h3⟩
theorem inoAt_some {is : List Ino} {k : Int} {x : Ino} (h : inoAt is k = some x) : ∃ j : Nat, k = (j : Int) ∧ is[j]? = some x := by
 unfold inoAt at h
 by_cases hk : k < 0
 ·rw [if_pos hk] at h; cases h
 ·rw [if_neg hk] at h
  exact ⟨k.toNat, by omega, h⟩
theorem inoAt_none {is : List Ino} {t : Int} (h : inoAt is (atV is t) = none) (j : Nat) : atV is t ≠ (j : Int) := fun e => by
 obtain ⟨x, hx, _⟩ := atV_lt e
 rw [e, inoAt_nat, hx] at h
 cases h
theorem mem_last {todo : List Int} {t : Int} (h : todo.getLast? = some t) (u : Int) : u ∈ todo ↔ u ∈ todo.dropLast ∨ u = t := by
 obtain ⟨ys, rfl⟩ := List.getLast?_eq_some_iff.1 h
 simp
theorem Found.skip {is : List Ino} {todo : List Int} {f : List Bool} {t : Int} (h : Found is todo f) (hl : todo.getLast? = some t) (hs : ∀ j : Nat, atV is t = (j : Int) → f.getD j false = true) : Found is todo.dropLast f where
 len := h.len
 sound := h.sound
 left_ := fun u hu => h.left_ u ((mem_last hl u).2 (.inl hu))
 closed := fun k x hk hx hd e he j hj => by
  rcases h.closed k x hk hx hd e he j hj with h1 | h1
  ·exact .inl h1
  ·rcases (mem_last hl _).1 h1 with h2 | h2
   ·exact .inr h2
   ·exact .inl (hs j (by rw [← h2]; exact hj))
 root := fun j hj => by
  rcases h.root j hj with h1 | h1
  ·exact .inl h1
  ·rcases (mem_last hl _).1 h1 with h2 | h2
   ·exact .inr h2
   ·exact .inl (hs j (by rw [← h2]; exact hj))
theorem Found.take {is : List Ino} {todo : List Int} {f : List Bool} {t : Int} {k : Nat} {x : Ino} (h : Found is todo f) (hl : todo.getLast? = some t) (hk : atV is t = (k : Int)) (hx : is[k]? = some x) :
  Found is (todo.dropLast ++ (if x.dir then x.ents.map (·.num) else [])) (f.set k true) := by
 have hkl : k < f.length := by rw [h.len]; exact (List.getElem?_eq_some_iff.1 hx).1
 have hr : Reach is k := h.left_ t ((mem_last hl t).2 (.inr rfl)) k hk
 have old : ∀ j, f.getD j false = true → (f.set k true).getD j false = true := fun j hj => by rw [getD_set f k j hkl]; split; rfl; exact hj
 have new : (f.set k true).getD k false = true := by rw [getD_set f k k hkl, if_pos rfl]
 refine ⟨by rw [List.length_set]; exact h.len, fun j hj => ?_, fun u hu j hj => ?_, fun j y hj hy hd e he i hi => ?_, fun j hj => ?_⟩
 ·rw [getD_set f k j hkl] at hj
  by_cases e : j = k
  ·subst e; exact hr
  ·rw [if_neg e] at hj; exact h.sound j hj
 ·rcases List.mem_append.1 hu with hu | hu
  ·exact h.left_ u ((mem_last hl u).2 (.inl hu)) j hj
  ·by_cases hd : x.dir = true
   ·rw [if_pos hd] at hu
    obtain ⟨e, he, rfl⟩ := List.mem_map.1 hu
    exact .step k j x e hr hx hd he hj
   ·rw [if_neg hd] at hu
    simp at hu
 ·by_cases ej : j = k
  ·subst ej
   have : x = y := by rw [hx] at hy; exact Option.some.inj hy
   subst this
   exact .inr (List.mem_append.2 (.inr (by rw [if_pos hd]; exact List.mem_map_of_mem he)))
  ·rw [getD_set f k j hkl, if_neg ej] at hj
   rcases h.closed j y hj hy hd e he i hi with h1 | h1
   ·exact .inl (old i h1)
   ·rcases (mem_last hl _).1 h1 with h2 | h2
    ·exact .inr (List.mem_append.2 (.inl h2))
    ·rw [h2, hk] at hi
     have : k = i := by omega
     subst this
     exact .inl new
 ·rcases h.root j hj with h1 | h1
  ·exact .inl (old j h1)
  ·rcases (mem_last hl _).1 h1 with h2 | h2
   ·exact .inr (List.mem_append.2 (.inl h2))
   ·rw [h2, hk] at hj
    have : k = j := by omega
    subst this
    exact .inl new
theorem reachF_spec : ∀ (n : Nat) (is : List Ino) (todo : List Int) (f : List Bool), Found is todo f → todo.length + sumUn is f ≤ n → Found is [] (reachF is n todo f)
 | 0, is, todo, f, h, hn => by
  have : todo = [] := List.eq_nil_of_length_eq_zero (by omega)
  subst this
  exact h
 | n + 1, is, todo, f, h, hn => by
  unfold reachF
  cases hl : todo.getLast? with
  | none =>
   have : todo = [] := List.getLast?_eq_none_iff.1 hl
   subst this
   exact h
  | some t =>
   have hlen : todo.length = todo.dropLast.length + 1 := by
    obtain ⟨ys, rfl⟩ := List.getLast?_eq_some_iff.1 hl
    simp
   simp only
   cases hx : inoAt is (atV is t) with
   | none =>
    simp only
    exact reachF_spec n is _ f (h.skip hl fun j hj => absurd hj (inoAt_none hx j)) (by omega)
   | some x =>
    simp only
    obtain ⟨k, hk, hx2⟩ := inoAt_some hx
    have ek : (atV is t).toNat = k := by omega
    rw [ek]
    by_cases hf : f.getD k false = true
    ·rw [if_pos hf]
     exact reachF_spec n is _ f (h.skip hl fun j hj => by
      have : j = k := by omega
      rw [this]; exact hf) (by omega)
    ·rw [if_neg hf]
     have hkl : k < f.length := by rw [h.len]; exact (List.getElem?_eq_some_iff.1 hx2).1
     have hs := sumUn_set is f k x hkl (by simpa using hf) hx2
     refine reachF_spec n is _ _ (h.take hl hk hx2) ?_
     rw [List.length_append]
     have : (if x.dir = true then x.ents.map (·.num) else []).length ≤ x.ents.length := by split <;> simp
     omega
theorem Found.start (is : List Ino) : Found is [1] (List.replicate is.length false) := by
 have hno : ∀ k, (List.replicate is.length false).getD k false = false := fun k => by
  rw [List.getD_eq_getElem?_getD, List.getElem?_replicate]
  split <;> rfl
 refine ⟨by simp, fun k hk => ?_, fun t ht j hj => ?_, fun k x hk => ?_, fun j hj => .inr (by simp)⟩
 ·rw [hno] at hk; cases hk
 ·have e : t = 1 := by simpa using ht
  rw [e] at hj
  exact .root j hj
 ·rw [hno] at hk; cases hk
theorem reachV_found (is : List Ino) : Found is [] (reachV is) := reachF_spec _ is _ _ (Found.start is) (by rw [sumUn_start]; simp)
theorem reachV_iff (is : List Ino) (k : Nat) : (reachV is).getD k false = true ↔ Reach is k := (reachV_found is).done k
theorem reachV_len (is : List Ino) : (reachV is).length = is.length := (reachV_found is).len
theorem Found.same {is : List Ino} {f : List Bool} (h : Found is [] f) : f = reachV is := by
 apply List.ext_getElem?
 intro k
 have h1 := h.done k
 rw [← reachV_iff] at h1
 have hl := h.len
 have hv := reachV_len is
 by_cases hk : k < is.length
 ·rw [List.getD_eq_getElem?_getD, List.getD_eq_getElem?_getD, List.getElem?_eq_getElem (by omega), List.getElem?_eq_getElem (by omega)] at h1
  rw [List.getElem?_eq_getElem (by omega), List.getElem?_eq_getElem (by omega)]
  simp only [Option.getD_some] at h1
  congr 1
  exact Bool.eq_iff_iff.2 h1
 ·rw [List.getElem?_eq_none (by omega), List.getElem?_eq_none (by omega)]
end Go.Proofs.YthhceopnnappgaaGreatDoor
