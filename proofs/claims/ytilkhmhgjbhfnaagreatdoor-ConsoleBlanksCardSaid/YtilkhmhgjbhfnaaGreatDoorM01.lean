/- Parts of the proof, side by side: FsReach, FsRead, Ext, FsRead2, StRow, FsReached, PlainPath, PlainPath2. -/
import Derived.Test.YtilkhmhgjbhfnaaGreatDoorM00
import Derived.Lib.Hide
import Derived.WalkKit
import Derived.BigQuiet
import Derived.Deep.QuietTactic
import Derived.StillTailTactics
import Derived.Laws.AppendOwnNone
import Derived.Laws.AppendOwn
import Derived.Deep.OwnRows
import Derived.Deep.LoopGhost
set_option linter.unusedVariables false
set_option linter.unusedSimpArgs false
namespace Go.Proofs.YtilkhmhgjbhfnaaGreatDoor
inductive Reach (is : List Ino) : Nat → Prop where
 | root (k : Nat) : atV is 1 = (k : Int) → Reach is k
 | step (k j : Nat) (x : Ino) (e : En) : Reach is k → is[k]? = some x → x.dir = true → e ∈ x.ents → atV is e.num = (j : Int) → Reach is j
structure Found (is : List Ino) (todo : List Int) (f : List Bool) : Prop where
 len : f.length = is.length
 sound : ∀ k, f.getD k false = true → Reach is k
 left_ : ∀ t ∈ todo, ∀ j : Nat, atV is t = (j : Int) → Reach is j
 closed : ∀ (k : Nat) (x : Ino), f.getD k false = true → is[k]? = some x → x.dir = true → ∀ e ∈ x.ents, ∀ j : Nat, atV is e.num = (j : Int) → f.getD j false = true ∨ e.num ∈ todo
 root : ∀ j : Nat, atV is 1 = (j : Int) → f.getD j false = true ∨ (1 : Int) ∈ todo
theorem Found.done {is : List Ino} {f : List Bool} (h : Found is [] f) (k : Nat) : f.getD k false = true ↔ Reach is k := by
 refine ⟨h.sound k, fun hr => ?_⟩
 induction hr with
 | root k hk => rcases h.root k hk with h1 | h1; exact h1; simp at h1
 | step k j x e _ hx hd he hj ih => rcases h.closed k x ih hx hd e he j hj with h1 | h1; exact h1; simp at h1
def sumUn : List Ino → List Bool → Nat
 | [], _ => 0
 | x :: xs, f => (if f.headD false then 0 else x.ents.length) + sumUn xs f.tail
theorem sumUn_start : ∀ (is : List Ino) (n : Nat), sumUn is (List.replicate n false) = bulkE is
 | [], _ => rfl
 | x :: xs, 0 => by
  show (if false = true then 0 else x.ents.length) + sumUn xs (List.replicate 0 false) = x.ents.length + bulkE xs
  rw [sumUn_start xs 0]
  simp
 | x :: xs, n + 1 => by
  show (if false = true then 0 else x.ents.length) + sumUn xs (List.replicate n false) = x.ents.length + bulkE xs
  rw [sumUn_start xs n]
  simp
theorem sumUn_set : ∀ (is : List Ino) (f : List Bool) (k : Nat) (x : Ino), k < f.length → f.getD k false = false → is[k]? = some x → sumUn is f = x.ents.length + sumUn is (f.set k true)
 | [], _, _, _, _, _, h => by simp at h
 | y :: ys, [], _, _, hk, _, _ => by simp at hk
 | y :: ys, b :: f, 0, x, _, hf, hx => by
  have e : y = x := by simpa using hx
  subst e
  have hb : b = false := by simpa using hf
  subst hb
  show (if false = true then 0 else y.ents.length) + sumUn ys f = y.ents.length + ((if true = true then 0 else y.ents.length) + sumUn ys f)
  simp
 | y :: ys, b :: f, k + 1, x, hk, hf, hx => by
  have ih := sumUn_set ys f k x (by simpa using hk) (by simpa using hf) (by simpa using hx)
  show (if b = true then 0 else y.ents.length) + sumUn ys f = x.ents.length + ((if b = true then 0 else y.ents.length) + sumUn ys (f.set k true))
  omega
theorem getD_set (f : List Bool) (k j : Nat) (hk : k < f.length) : (f.set k true).getD j false = if j = k then true else f.getD j false := by
 rw [List.getD_eq_getElem?_getD, List.getElem?_set]
 by_cases h : k = j
 ·subst h
  simp [hk]
 ·rw [if_neg h, if_neg (Ne.symm h), List.getD_eq_getElem?_getD]
theorem atV_lt {is : List Ino} {t : Int} {k : Nat} (h : atV is t = (k : Int)) : ∃ x, is[k]? = some x ∧ x.num = t := by
 rcases atV_cases is t with ⟨h1, _⟩ | ⟨j, x, h1, h2, h3, _⟩
 ·omega
 ·have : j = k := by omega
  subst this
  exact ⟨x, h2, h3⟩
theorem inoAt_some {is : List Ino} {k : Int} {x : Ino} (h : inoAt is k = some x) : ∃ j : Nat, k = (j : Int) ∧ is[j]? = some x := by
 unfold inoAt at h
 by_cases hk : k < 0
 ·rw [if_pos hk] at h; cases h
 ·rw [if_neg hk] at h
  exact ⟨k.toNat, by omega, h⟩
theorem inoAt_none {is : List Ino} {t : Int} (h : inoAt is (atV is t) = none) (j : Nat) : atV is t ≠ (j : Int) := fun e => by
 obtain ⟨x, hx, _⟩ := atV_lt e
 rw [e, inoAt_nat, hx] at h
 cases h
theorem mem_last {todo : List Int} {t : Int} (h : todo.getLast? = some t) (u : Int) : u ∈ todo ↔ u ∈ todo.dropLast ∨ u = t := by
 obtain ⟨ys, rfl⟩ := List.getLast?_eq_some_iff.1 h
 simp
theorem Found.skip {is : List Ino} {todo : List Int} {f : List Bool} {t : Int} (h : Found is todo f) (hl : todo.getLast? = some t) (hs : ∀ j : Nat, atV is t = (j : Int) → f.getD j false = true) : Found is todo.dropLast f where
 len := h.len
 sound := h.sound
 left_ := fun u hu => h.left_ u ((mem_last hl u).2 (.inl hu))
 closed := fun k x hk hx hd e he j hj => by
  rcases h.closed k x hk hx hd e he j hj with h1 | h1
  ·exact .inl h1
  ·rcases (mem_last hl _).1 h1 with h2 | h2
   ·exact .inr h2
   ·exact .inl (hs j (by rw [← h2]; exact hj))
 root := fun j hj => by
  rcases h.root j hj with h1 | h1
  ·exact .inl h1
  ·rcases (mem_last hl _).1 h1 with h2 | h2
   ·exact .inr h2
   ·exact .inl (hs j (by rw [← h2]; exact hj))
theorem Found.take {is : List Ino} {todo : List Int} {f : List Bool} {t : Int} {k : Nat} {x : Ino} (h : Found is todo f) (hl : todo.getLast? = some t) (hk : atV is t = (k : Int)) (hx : is[k]? = some x) :
  Found is (todo.dropLast ++ (if x.dir then x.ents.map (·.num) else [])) (f.set k true) := by
 have hkl : k < f.length := by rw [h.len]; exact (List.getElem?_eq_some_iff.1 hx).1
 have hr : Reach is k := h.left_ t ((mem_last hl t).2 (.inr rfl)) k hk
 have old : ∀ j, f.getD j false = true → (f.set k true).getD j false = true := fun j hj => by rw [getD_set f k j hkl]; split; rfl; exact hj
 have new : (f.set k true).getD k false = true := by rw [getD_set f k k hkl, if_pos rfl]
 refine ⟨by rw [List.length_set]; exact h.len, fun j hj => ?_, fun u hu j hj => ?_, fun j y hj hy hd e he i hi => ?_, fun j hj => ?_⟩
 ·rw [getD_set f k j hkl] at hj
  by_cases e : j = k
  ·subst e; exact hr
  ·rw [if_neg e] at hj; exact h.sound j hj
 ·rcases List.mem_append.1 hu with hu | hu
  ·exact h.left_ u ((mem_last hl u).2 (.inl hu)) j hj
  ·by_cases hd : x.dir = true
   ·rw [if_pos hd] at hu
    obtain ⟨e, he, rfl⟩ := List.mem_map.1 hu
    exact .step k j x e hr hx hd he hj
   ·rw [if_neg hd] at hu
    simp at hu
 ·by_cases ej : j = k
  ·subst ej
   have : x = y := by rw [hx] at hy; exact Option.some.inj hy
   subst this
   exact .inr (List.mem_append.2 (.inr (by rw [if_pos hd]; exact List.mem_map_of_mem he)))
  ·rw [getD_set f k j hkl, if_neg ej] at hj
   rcases h.closed j y hj hy hd e he i hi with h1 | h1
   ·exact .inl (old i h1)
   ·rcases (mem_last hl _).1 h1 with h2 | h2
    ·exact .inr (List.mem_append.2 (.inl h2))
    ·rw [h2, hk] at hi
     have : k = i := by omega
     subst this
     exact .inl new
 ·rcases h.root j hj with h1 | h1
  ·exact .inl (old j h1)
  ·rcases (mem_last hl _).1 h1 with h2 | h2
   ·exact .inr (List.mem_append.2 (.inl h2))
   ·rw [h2, hk] at hj
    have : k = j := by omega
    subst this
    exact .inl new
theorem reachF_spec : ∀ (n : Nat) (is : List Ino) (todo : List Int) (f : List Bool), Found is todo f → todo.length + sumUn is f ≤ n → Found is [] (reachF is n todo f)
 | 0, is, todo, f, h, hn => by
  have : todo = [] := List.eq_nil_of_length_eq_zero (by omega)
  subst this
  exact h
 | n + 1, is, todo, f, h, hn => by
  unfold reachF
  cases hl : todo.getLast? with
  | none =>
   have : todo = [] := List.getLast?_eq_none_iff.1 hl
   subst this
   exact h
  | some t =>
   have hlen : todo.length = todo.dropLast.length + 1 := by
    obtain ⟨ys, rfl⟩ := List.getLast?_eq_some_iff.1 hl
    simp
   simp only
   cases hx : inoAt is (atV is t) with
   | none =>
    simp only
    exact reachF_spec n is _ f (h.skip hl fun j hj => absurd hj (inoAt_none hx j)) (by omega)
   | some x =>
    simp only
    obtain ⟨k, hk, hx2⟩ := inoAt_some hx
    have ek : (atV is t).toNat = k := by omega
    rw [ek]
    by_cases hf : f.getD k false = true
    ·rw [if_pos hf]
     exact reachF_spec n is _ f (h.skip hl fun j hj => by
      have : j = k := by omega
      rw [this]; exact hf) (by omega)
    ·rw [if_neg hf]
     have hkl : k < f.length := by rw [h.len]; exact (List.getElem?_eq_some_iff.1 hx2).1
     have hs := sumUn_set is f k x hkl (by simpa using hf) hx2
     refine reachF_spec n is _ _ (h.take hl hk hx2) ?_
     rw [List.length_append]
     have : (if x.dir = true then x.ents.map (·.num) else []).length ≤ x.ents.length := by split <;> simp
     omega
theorem Found.start (is : List Ino) : Found is [1] (List.replicate is.length false) := by
 have hno : ∀ k, (List.replicate is.length false).getD k false = false := fun k => by
  rw [List.getD_eq_getElem?_getD, List.getElem?_replicate]
  split <;> rfl
 refine ⟨by simp, fun k hk => ?_, fun t ht j hj => ?_, fun k x hk => ?_, fun j hj => .inr (by simp)⟩
 ·rw [hno] at hk; cases hk
 ·have e : t = 1 := by simpa using ht
  rw [e] at hj
  exact .root j hj
 ·rw [hno] at hk; cases hk
theorem reachV_found (is : List Ino) : Found is [] (reachV is) := reachF_spec _ is _ _ (Found.start is) (by rw [sumUn_start]; simp)
theorem reachV_iff (is : List Ino) (k : Nat) : (reachV is).getD k false = true ↔ Reach is k := (reachV_found is).done k
theorem reachV_len (is : List Ino) : (reachV is).length = is.length := (reachV_found is).len
theorem Found.same {is : List Ino} {f : List Bool} (h : Found is [] f) : f = reachV is := by
 apply List.ext_getElem?
 intro k
 have h1 := h.done k
 rw [← reachV_iff] at h1
 have hl := h.len
 have hv := reachV_len is
 by_cases hk : k < is.length
 ·rw [List.getD_eq_getElem?_getD, List.getD_eq_getElem?_getD, List.getElem?_eq_getElem (by omega), List.getElem?_eq_getElem (by omega)] at h1
  rw [List.getElem?_eq_getElem (by omega), List.getElem?_eq_getElem (by omega)]
  simp only [Option.getD_some] at h1
  congr 1
  exact Bool.eq_iff_iff.2 h1
 ·rw [List.getElem?_eq_none (by omega), List.getElem?_eq_none (by omega)]
end Go.Proofs.YtilkhmhgjbhfnaaGreatDoor
namespace Go.Proofs.YtilkhmhgjbhfnaaGreatDoor
open Go.RowKit
theorem box_st (w : World) (A : Option Addr) (n c : Nat) (B : Option Addr) (m d : Nat) (D : Option Addr) (k e : Nat) : ∃ W, w.alloc (.cells #[.slice A n c, .slice B m d, .slice D k e] 31) = W ∧ W.cell? ⟨w.heap.size, 0, .none⟩ = some (.slice A n c) ∧ W.cell? ⟨w.heap.size, 1, .none⟩ = some (.slice B m d) ∧ W.cell? ⟨w.heap.size, 2, .none⟩ = some (.slice D k e) ∧ Below w.heap.size w W ∧ w.heap.size < W.heap.size := by
 refine ⟨_, rfl, ?_, ?_, ?_, (Below.refl _ _).alloc (Nat.le_refl _) _, by simp⟩
 ·exact (World.cell?_alloc_mark w _ _ (0, 0) _).trans rfl
 ·exact (World.cell?_alloc_mark w _ _ (0, 0) _).trans rfl
 ·exact (World.cell?_alloc_mark w _ _ (0, 0) _).trans rfl
structure Ext (W : World) where
 w : World
 bel : Below W.heap.size W w
instance extSome (W : World) : Nonempty (Ext W) := ⟨⟨W, Below.refl _ _⟩⟩
theorem Ext.cell {W : World} (x : Ext W) (p : Addr) (h : (W.cell? p).isSome = true) : x.w.cell? p = W.cell? p := by
 obtain ⟨u, hu⟩ := Option.isSome_iff_exists.1 h
 exact x.bel.cell (World.block_lt_of_cell? W p hu)
theorem wp_region_ext {P : Program} {id : Nat} {Q : Exit → Act → World → Prop} {a : Act} {w : World} {l : List Oper} (hm : P.follows .mixedOrders = true) (hB : Region.lexB .any l.toArray = true)
  (h : wpQuiet P l.toArray (fun w' => ∃ x : Ext w, w' = x.w) (fun a' => ∀ w', (∃ x : Ext w, w' = x.w) → Q .normal a' w') l a) : (Code.region id l.toArray true).wp P Q a w :=
 wp_region_quiet (C := fun w' => ∃ x : Ext w, w' = x.w) hm hB ⟨⟨w.drew, Cv.drewN_below (Below.refl _ _) 1⟩, rfl⟩ (by simpa using h)
theorem wre {P : Program} {id : Nat} {Q : Exit → Act → World → Prop} {a : Act} {w : World} {l : List Oper}
  (h : wpQuiet P l.toArray (fun w' => ∃ x : Ext w, w' = x.w) (fun a' => ∀ w', (∃ x : Ext w, w' = x.w) → Q .normal a' w') l a) (hm : P.follows .mixedOrders = true := by kernel_rfl) (hB : Region.lexB .any l.toArray = true := by kernel_rfl) : (Code.region id l.toArray true).wp P Q a w :=
 wp_region_ext hm hB h
theorem Calls.ext_of {P : Program} {f : FuncId} {args : Array Value} {W : World} {x : Ext W} {v : Value}
  (h : Calls P f args x.w fun e w' => e = .returned v ∧ Below x.w.heap.size x.w w') : Calls P f args x.w fun e w'' => e = .returned v ∧ ∃ y : Ext W, w'' = y.w :=
 h.mono fun _ w' ⟨he, hb⟩ => ⟨he, ⟨w', Cv.next x.bel hb⟩, rfl⟩
theorem Calls.ext_of_same {P : Program} {f : FuncId} {args : Array Value} {W : World} {x : Ext W} {v : Value}
  (h : Calls P f args x.w fun e w' => e = .returned v ∧ x.w = w') : Calls P f args x.w fun e w'' => e = .returned v ∧ ∃ y : Ext W, w'' = y.w :=
 h.mono fun _ w' ⟨he, hb⟩ => ⟨he, x, hb.symm⟩
theorem still_of_quiet {P : Program} {ops : Array Oper} {w : World} {Q : Act → Prop} : ∀ (l : List Oper) (a : Act), wpQuiet P ops (fun w' => w' = w) Q l a → wpStill P ops w Q l a
 | [], a, h => h
 | o :: rest, a, h => by
  unfold wpQuiet at h
  unfold wpStill
  split at h
  ·rename_i hw
   rw [if_pos hw]
   obtain ⟨v, h1, h2⟩ := h
   have h3 := h1 w rfl
   unfold Oper.quietAt at h3
   unfold Oper.still
   generalize (execOp a.eval o).run P w = r at h3 ⊢
   have h4 := still_of_quiet rest _ h2
   cases r with
   | ok n w' =>
    cases n <;> simp only [Oper.quietUpon] at h3
    case value u =>
     obtain ⟨e1, e2⟩ := h3
     subst e1 e2
     exact ⟨rfl, h4⟩
    case skip =>
     obtain ⟨e1, e2⟩ := h3
     subst e1 e2
     exact ⟨rfl, h4⟩
    case enter f args =>
     obtain ⟨e1, hc⟩ := h3
     subst e1
     exact ⟨rfl, v, hc, h4⟩
   | halt x w' => simp only [Oper.quietUpon] at h3
  ·rename_i hw
   rw [if_neg hw]
   exact still_of_quiet rest _ h
theorem wp_region_quiet_tail {P : Program} {id : Nat} {Q : Exit → Act → World → Prop} {a : Act} {w : World} {l : List Oper} (n : Nat) (hm : P.follows .mixedOrders = true) (hB : Region.lexTailB .any l.toArray n = true)
  (h : wpQuiet P l.toArray (fun w' => w' = w.drew) (fun a' => wpList P l.toArray Q (l.drop n) a' w.drew) (l.take n) a) : (Code.region id l.toArray true).wp P Q a w :=
 wp_region_still_tail n hm hB (still_of_quiet _ _ h)
theorem ba_list_ne {a b : ByteArray} (h : a ≠ b) : (a.toList == b.toList) = false := by
 rw [beq_eq_false_iff_ne, ByteArray.toList_eq, ByteArray.toList_eq]
 intro e
 apply h
 cases a with | mk da => cases b with | mk db => exact congrArg ByteArray.mk (Array.toList_inj.1 e)
theorem ba_list_eq {a b : ByteArray} (h : a = b) : (a.toList == b.toList) = true := by rw [h]; exact beq_self_eq_true _
theorem linkE_len : ∀ (es : List En) (num : Int), linkE es num ≤ es.length
 | [], _ => Nat.le_refl _
 | e :: es, num => by
  unfold linkE
  have := linkE_len es num
  rw [List.length_cons]
  split <;> omega
theorem linkI_len : ∀ (is : List Ino) (num : Int), linkI is num ≤ bulkE is
 | [], _ => Nat.le_refl _
 | x :: xs, num => by
  unfold linkI
  have := linkI_len xs num
  have h2 := linkE_len x.ents num
  show _ ≤ x.ents.length + bulkE xs
  split <;> omega
theorem flat_get {α : Type} (f : α → List Value) (k : Nat) (hk : ∀ x, (f x).length = k) : ∀ (l : List α) (j : Nat) (x : α), l[j]? = some x → ∀ i, i < k → (l.flatMap f)[j * k + i]? = (f x)[i]?
 | [], j, x, h, i, hi => by simp at h
 | y :: l, 0, x, h, i, hi => by
  have : y = x := by simpa using h
  subst this
  rw [List.flatMap_cons, List.getElem?_append_left (by rw [hk]; omega)]
  simp
 | y :: l, j + 1, x, h, i, hi => by
  have e : (j + 1) * k = k + j * k := by rw [Nat.add_mul]; omega
  rw [List.flatMap_cons, List.getElem?_append_right (by rw [hk]; omega), hk]
  have h2 : l[j]? = some x := by simpa using h
  rw [← flat_get f k hk l j x h2 i hi]
  congr 1
  omega
theorem flat_len {α : Type} (f : α → List Value) (k : Nat) (hk : ∀ x, (f x).length = k) : ∀ (l : List α), (l.flatMap f).length = l.length * k
 | [] => by simp
 | y :: l => by rw [List.flatMap_cons, List.length_append, hk, flat_len f k hk l, List.length_cons, Nat.add_mul]; omega
theorem row_any {w : World} {B : Nat} {e : TypeId} {size : Nat} {v : Value} {n : Nat} {xs : List Value} (h : w.ownsRow B e size v n xs) (hs : 0 < size) :
  ∃ A c, v = .slice A n c ∧ n ≤ c ∧ (A = none → n = 0 ∧ c = 0) ∧ (0 < n → ∃ g, A = some ⟨g, 0, none⟩ ∧ g < w.heap.size ∧ Mine (some B) e w g ∧ ∀ j, j < n * size → w.cell? ⟨g, j, none⟩ = xs[j]?) := by
 have h0 := h
 rcases h.2 with ⟨rfl, rfl⟩ | ⟨g, cap, cur, rfl, hb, hg, hnc, hcm, hcs, htk⟩
 ·exact ⟨none, 0, rfl, Nat.le_refl _, fun _ => ⟨rfl, rfl⟩, fun h => absurd h (by omega)⟩
 ·refine ⟨some ⟨g, 0, none⟩, cap, rfl, hnc, fun e => (by cases e), fun hn => ⟨g, rfl, (Array.getElem?_eq_some_iff.1 hg).1, fun C hC => ?_, fun j hj => h0.cellAt j hj⟩⟩
  cases hC
  exact ⟨hb, cur, hg⟩
def enV (e : En) : List Value := [.string e.name, .int .i64 e.num]
def dsV (d : Ds) : List Value := [.int .i64 d.core, .int .i64 d.fd, .int .i64 d.num]
def inoV (z : Ino × Value) : List Value := [.int .i64 z.1.num, .bool z.1.dir, z.2, .string z.1.data]
def FlagsAt (w : World) (G n : Nat) (f : List Bool) : Prop := ∃ cur : Array Value, w.heap[G]? = some (.cells cur 4 (0, 0)) ∧ ∀ j, j < n → cur[j]? = some (.bool (f.getD j false))
theorem FlagsAt.lt {w : World} {G n : Nat} {f : List Bool} (h : FlagsAt w G n f) : G < w.heap.size := by
 obtain ⟨cur, hh, _⟩ := h
 exact (Array.getElem?_eq_some_iff.1 hh).1
theorem FlagsAt.same {w w' : World} {G n : Nat} {f : List Bool} (h : FlagsAt w G n f) (hb : w'.heap[G]? = w.heap[G]?) : FlagsAt w' G n f := by
 obtain ⟨cur, hh, hc⟩ := h
 exact ⟨cur, hb.trans hh, hc⟩
theorem FlagsAt.below {w w' : World} {G n : Nat} {f : List Bool} (h : FlagsAt w G n f) (hb : Below w.heap.size w w') : FlagsAt w' G n f := h.same (hb.block G h.lt)
theorem FlagsAt.get {w : World} {G n : Nat} {f : List Bool} (h : FlagsAt w G n f) (j : Nat) (hj : j < n) : w.cell? ⟨G, j, .none⟩ = some (.bool (f.getD j false)) ∧ w.frozen? ⟨G, j, .none⟩ = false := by
 obtain ⟨cur, hh, hc⟩ := h
 exact ⟨by rw [cell_of_row w G j cur _ (0, 0) hh]; exact hc j hj, frozen_of_row w G j cur _ hh⟩
theorem FlagsAt.set {w : World} {G n : Nat} {f : List Bool} (h : FlagsAt w G n f) (b : Nat) (hb : b < n) (hf : b < f.length) : FlagsAt (w.setCell ⟨G, b, .none⟩ (.bool true)) G n (f.set b true) := by
 obtain ⟨cur, hh, hc⟩ := h
 refine ⟨_, heap_setCell_same w G b cur _ _ hh, fun j hj => ?_⟩
 rw [Array.getElem?_setIfInBounds, getD_set f b j hf]
 by_cases e : b = j
 ·subst e
  have : b < cur.size := (Array.getElem?_eq_some_iff.1 (hc b hb)).1
  simp [this]
 ·rw [if_neg e, if_neg (fun e2 => e e2.symm)]
  exact hc j hj
theorem infoFlag : (Tryz.prog.info? 4).map (fun i => (i.zero, i.size, i.bytes)) = some (some (.bool false), 1, 1) := by kernel_rfl
theorem infoNum : (Tryz.prog.info? 3).map (fun i => (i.zero, i.size, i.bytes)) = some (some (.int .i64 0), 1, 8) := by kernel_rfl
theorem new_one (w : World) (v : Value) (t : TypeId) : ∀ j u, ([v] : List Value)[j]? = some u → (w.alloc (.cells #[v] t)).cell? ((⟨w.heap.size, 0, .none⟩ : Addr).add j) = some u := by
 intro j u hu
 have e : (⟨w.heap.size, 0, .none⟩ : Addr).add j = ⟨w.heap.size, j, .none⟩ := by unfold Addr.add; split <;> simp_all
 rw [e]
 exact (World.cell?_alloc_mark w _ _ (0, 0) _).trans (by simpa using hu)
theorem row_below {B : Nat} {e : TypeId} {k : Nat} {w w' : World} {v : Value} {n : Nat} {xs : List Value} (h : w.ownsRow B e k v n xs) (hb : Below w.heap.size w w') : w'.ownsRow B e k v n xs := by
 obtain ⟨hl, h⟩ := h
 refine ⟨hl, ?_⟩
 rcases h with h | ⟨g, cap, cur, hv, hB, hg, r⟩
 ·exact Or.inl h
 ·exact Or.inr ⟨g, cap, cur, hv, hB, (hb.block g (Array.getElem?_eq_some_iff.1 hg).1).trans hg, r⟩
end Go.Proofs.YtilkhmhgjbhfnaaGreatDoor
namespace Go.Proofs.YtilkhmhgjbhfnaaGreatDoor
theorem checkL_cases (l : List UInt8) : checkL l = 0 ∨ checkL l = 800 ∨ checkL l = 801 := by
 unfold checkL
 split
 ·exact Or.inr (Or.inr rfl)
 ·split
  ·exact Or.inr (Or.inl rfl)
  ·split
   ·exact Or.inr (Or.inl rfl)
   ·exact Or.inl rfl
def scanP : List UInt8 → List UInt8 → List (List UInt8) → List (List UInt8) × Nat
 | [], _, out => if 4 < out.length then ([], 1102) else (out, 0)
 | b :: r, cur, out => if b = 47 then (if checkL cur = 0 then scanP r [] (out ++ [cur]) else if checkL cur = 801 then ([], 1101) else ([], 1100)) else scanP r (cur ++ [b]) out
def parseL (l : List UInt8) : List (List UInt8) × Nat :=
 if 64 < l.length then ([], 1101) else if ¬ l.head? = some 47 then ([], 1100) else if l.length = 1 then ([], 0) else scanP (l.drop 1 ++ [47]) [] []
theorem scanP_nil (cur : List UInt8) (out : List (List UInt8)) : scanP [] cur out = if 4 < out.length then ([], 1102) else (out, 0) := rfl
theorem scanP_other (b : UInt8) (r cur : List UInt8) (out : List (List UInt8)) (h : ¬ b = 47) : scanP (b :: r) cur out = scanP r (cur ++ [b]) out := by
 show (if b = 47 then _ else _) = _
 rw [if_neg h]
theorem scanP_ok (r cur : List UInt8) (out : List (List UInt8)) (h : checkL cur = 0) : scanP (47 :: r) cur out = scanP r [] (out ++ [cur]) := by
 show (if (47 : UInt8) = 47 then _ else _) = _
 rw [if_pos rfl, if_pos h]
theorem scanP_long (r cur : List UInt8) (out : List (List UInt8)) (h : checkL cur = 801) : scanP (47 :: r) cur out = ([], 1101) := by
 show (if (47 : UInt8) = 47 then _ else _) = _
 rw [if_pos rfl, if_neg (by omega), if_pos h]
theorem scanP_form (r cur : List UInt8) (out : List (List UInt8)) (h : checkL cur = 800) : scanP (47 :: r) cur out = ([], 1100) := by
 show (if (47 : UInt8) = 47 then _ else _) = _
 rw [if_pos rfl, if_neg (by omega), if_neg (by omega)]
def piece (l : List UInt8) (i j : Nat) : List UInt8 := (l.take j).drop i
theorem piece_self (l : List UInt8) (i : Nat) : piece l i i = [] := by
 unfold piece
 exact List.drop_eq_nil_of_le (by rw [List.length_take]; omega)
theorem extract_piece (s : ByteArray) (i j : Nat) : s.extract i j = ⟨(piece s.data.toList i j).toArray⟩ := by
 apply ByteArray.ext
 apply Array.ext'
 simp [piece, List.extract_eq_take_drop, List.drop_take]
theorem drop_out (l : List UInt8) (j : Nat) (h : j = l.length + 1) : (l ++ [47]).drop j = [] := by
 subst h
 simp
theorem path_head (s : ByteArray) : s.data.toList.head? = some 47 ↔ ∃ h : 0 < s.size, s[0] = 47 := by
 constructor
 ·intro h
  have hl : 0 < s.data.toList.length := by
   cases e : s.data.toList with
   | nil => rw [e] at h; simp at h
   | cons a l => simp
  have hs : 0 < s.size := hl
  refine ⟨hs, ?_⟩
  rw [List.head?_eq_getElem?, List.getElem?_eq_getElem hl] at h
  exact Option.some.inj h
 ·rintro ⟨h, e⟩
  have hl : 0 < s.data.toList.length := h
  rw [List.head?_eq_getElem?, List.getElem?_eq_getElem hl]
  exact congrArg some e
end Go.Proofs.YtilkhmhgjbhfnaaGreatDoor
namespace Go.Proofs.YtilkhmhgjbhfnaaGreatDoor
open Go.Lib (decodeN)
theorem decodeN_slash (n b0 b1 b2 b3 : Nat) (h : b0 = 47) : decodeN n b0 b1 b2 b3 = (47, 1) := by
 unfold decodeN; rw [if_pos (by omega), h]
theorem decodeN_noslash (n b0 b1 b2 b3 : Nat) (h : ¬ b0 = 47) : ¬ (decodeN n b0 b1 b2 b3).1 = 47 ∧ (2 ≤ (decodeN n b0 b1 b2 b3).2 → b1 / 64 = 2) ∧ (3 ≤ (decodeN n b0 b1 b2 b3).2 → b2 / 64 = 2) ∧ (4 ≤ (decodeN n b0 b1 b2 b3).2 → b3 / 64 = 2) := by
 unfold decodeN
 repeat' split
 all_goals (simp only; omega)
theorem decodeL_slash (l : List UInt8) (h : l.getD 0 0 = 47) : decodeL l = (47, 1) := decodeN_slash _ _ _ _ _ (by rw [h]; rfl)
theorem toNat_47 {b : UInt8} (h : ¬ b = 47) : ¬ b.toNat = 47 := fun e => h (UInt8.toNat_inj.1 e)
theorem decodeL_noslash (l : List UInt8) (h : ¬ l.getD 0 0 = 47) : ¬ (decodeL l).1 = 47 ∧ ∀ b ∈ l.take (decodeL l).2, ¬ b = 47 := by
 have hn := decodeN_noslash l.length (l.getD 0 0).toNat (l.getD 1 0).toNat (l.getD 2 0).toNat (l.getD 3 0).toNat (toNat_47 h)
 have hw := decodeL_width l
 refine ⟨hn.1, fun b hb e => ?_⟩
 obtain ⟨j, hj, rfl⟩ := List.getElem_of_mem hb
 have hj1 : j < (decodeL l).2 ∧ j < l.length := by rw [List.length_take] at hj; omega
 rw [List.getElem_take] at e
 have hg : l.getD j 0 = 47 := by rw [List.getD_eq_getElem?_getD, List.getElem?_eq_getElem hj1.2]; exact e
 have hd : (decodeL l).2 = (decodeN l.length (l.getD 0 0).toNat (l.getD 1 0).toNat (l.getD 2 0).toNat (l.getD 3 0).toNat).2 := rfl
 rw [← hd] at hn
 match j, hg, hj1 with
 | 0, hg, _ => exact h hg
 | 1, hg, hj1 => have := hn.2.1 (by omega); rw [hg] at this; exact absurd this (by decide)
 | 2, hg, hj1 => have := hn.2.2.1 (by omega); rw [hg] at this; exact absurd this (by decide)
 | 3, hg, hj1 => have := hn.2.2.2 (by omega); rw [hg] at this; exact absurd this (by decide)
 | j + 4, _, hj1 => omega
theorem scanP_skip (bs : List UInt8) : ∀ (r cur : List UInt8) (out : List (List UInt8)), (∀ b ∈ bs, ¬ b = 47) → scanP (bs ++ r) cur out = scanP r (cur ++ bs) out := by
 induction bs with
 | nil => intro r cur out _; simp
 | cons b bs ih =>
  intro r cur out h
  show scanP (b :: (bs ++ r)) cur out = _
  rw [scanP_other _ _ _ _ (h b (by simp)), ih r _ out (fun c hc => h c (by simp [hc]))]
  simp
theorem piece_more (l : List UInt8) (i j k : Nat) (hij : i ≤ j) (hj : j + k ≤ l.length) : piece l i (j + k) = piece l i j ++ (l.drop j).take k := by
 unfold piece
 rw [List.take_add, List.drop_append_of_le_length (by rw [List.length_take]; omega)]
theorem piece_left (l t : List UInt8) (i j : Nat) (hj : j ≤ l.length) : piece (l ++ t) i j = piece l i j := by
 unfold piece; rw [List.take_append_of_le_length hj]
theorem scanP_rune (t : List UInt8) (p j : Nat) (out : List (List UInt8)) (hpj : p ≤ j) (hj : j < t.length) (h : ¬ t.getD j 0 = 47) :
  scanP (t.drop j) (piece t p j) out = scanP (t.drop (j + (decodeL (t.drop j)).2)) (piece t p (j + (decodeL (t.drop j)).2)) out := by
 have hne : t.drop j ≠ [] := by intro e; have := congrArg List.length e; rw [List.length_drop] at this; simp at this; omega
 have hf := decodeL_fits _ hne
 rw [List.length_drop] at hf
 have h0 : ¬ (t.drop j).getD 0 0 = 47 := by simpa [List.getD_eq_getElem?_getD, List.getElem?_drop] using h
 have hs := (decodeL_noslash _ h0).2
 rw [piece_more t p j _ hpj (by omega), ← scanP_skip _ _ _ _ hs, ← List.drop_drop, List.take_append_drop]
end Go.Proofs.YtilkhmhgjbhfnaaGreatDoor
