/- Parts of the proof, side by side: ShapeGrowsP, DoRound. -/
import Derived.Test.YthhceopnnappgaaGreatDoorM42
import Derived.Test.YthhceopnnappgaaGreatDoorM41
import Derived.Test.YthhceopnnappgaaGreatDoorM18
set_option linter.unusedVariables false
set_option linter.unusedSimpArgs false
namespace Go.Proofs.YthhceopnnappgaaGreatDoor
def caQ (kind : Int) : Ca := ⟨kind, 0, 0, 0, 0, ⟨#[47, 113]⟩, ⟨#[]⟩, ⟨#[]⟩⟩
def callsG (O G : Bool) : List Ca := caQ 0 :: ((if O then [caQ 2] else []) ++ (if G then [caQ 9] else []))
def stG (N : Nat) (O G : Bool) (q : Nat) : St := ((callsG O G).take q).foldl (fun s c => (doV s c).1) (newV N)
theorem stG_step {N : Nat} {O G : Bool} {q : Nat} {c : Ca} (h : (callsG O G)[q]? = some c) : stG N O G (q + 1) = (doV (stG N O G q) c).1 := by
 unfold stG
 rw [List.take_add_one, h]
 simp
def callC (c : Ca) : List Value := [.int .i64 c.kind, .int .i64 c.core, .int .i64 c.fd, .int .i64 c.off, .int .i64 c.num, .string c.path, .string c.path2, .string c.data]
def cellsG (O G : Bool) : List Value := (callsG O G).flatMap callC
theorem callsG_len (O G : Bool) : 1 ≤ (callsG O G).length ∧ (callsG O G).length ≤ 3 ∧ (cellsG O G).length = (callsG O G).length * 8 := by cases O <;> cases G <;> decide
theorem callsG_path {O G : Bool} {q : Nat} {c : Ca} (h : (callsG O G)[q]? = some c) : c.path.size ≤ 140737488355328 ∧ c.path2.size ≤ 140737488355328 := by
 have hm := List.mem_of_getElem? h
 have : c = caQ 0 ∨ c = caQ 2 ∨ c = caQ 9 := by
  cases O <;> cases G <;> simp [callsG] at hm <;> (first | exact .inl hm | (rcases hm with rfl | rfl | rfl <;> simp) | (rcases hm with rfl | rfl <;> simp))
 rcases this with rfl | rfl | rfl <;> exact ⟨by decide, by decide⟩
theorem cellsG_at {O G : Bool} {q : Nat} {c : Ca} (h : (callsG O G)[q]? = some c) (i : Nat) (hi : i < 8) : (cellsG O G)[q * 8 + i]? = (callC c)[i]? := by
 have hq : q < 3 := by have := (List.getElem?_eq_some_iff.1 h).1; have := (callsG_len O G).2.1; omega
 have h3 : q = 0 ∨ q = 1 ∨ q = 2 := by omega
 have h8 : i = 0 ∨ i = 1 ∨ i = 2 ∨ i = 3 ∨ i = 4 ∨ i = 5 ∨ i = 6 ∨ i = 7 := by omega
 cases O <;> cases G <;> rcases h3 with rfl | rfl | rfl <;> (first | (cases h; done) | (cases h; rcases h8 with rfl | rfl | rfl | rfl | rfl | rfl | rfl | rfl <;> rfl))
def filG (G : Bool) : List UInt8 := [100, 32, 47, 32, 49, 10] ++ if G then [] else [102, 32, 47, 113, 32, 50, 32, 45, 10]
def preG (O G : Bool) : List UInt8 := filG G ++ ((if G && O then [117, 32, 50, 32, 45, 10] else []) ++ ((if O then [111, 32, 48, 32, 48, 32, 50, 10] else []) ++ [109, 32, 49]))
def zerG : Nat → List UInt8
 | 0 => []
 | n + 1 => zerG n ++ [32, 48]
theorem zerG_len : ∀ n, (zerG n).length = 2 * n
 | 0 => rfl
 | n + 1 => by simp only [zerG, List.length_append, zerG_len n, List.length_cons, List.length_nil]; omega
theorem grows_text (N : Nat) (h1 : 1 ≤ N) (h8 : N ≤ 8) (O G : Bool) : ofO (stG N O G (callsG O G).length) = preG O G ++ zerG (N - 1) ++ [10] ∧ filesO (stG N O G (callsG O G).length) = filG G ∧ codeO (stG N O G (callsG O G).length) = 0 := by
 have : N = 1 ∨ N = 2 ∨ N = 3 ∨ N = 4 ∨ N = 5 ∨ N = 6 ∨ N = 7 ∨ N = 8 := by omega
 rcases this with rfl | rfl | rfl | rfl | rfl | rfl | rfl | rfl <;> cases O <;> cases G <;> exact ⟨by decide +kernel, by decide +kernel, by decide +kernel⟩
end Go.Proofs.YthhceopnnappgaaGreatDoor
namespace Go.Proofs.YthhceopnnappgaaGreatDoor
open Go.RowKit
theorem StAt.set {B : Nat} {w : World} {v : Value} {s : St} (h : StAt (some B) w v s) {g : Nat} {t : TypeId} (hg : ∃ cur, w.heap[g]? = some (.cells cur t (0, 0))) (h1 : t ≠ 52) (h2 : t ≠ 84) (h3 : t ≠ 67) (h4 : t ≠ 3) (k : Nat) (u : Value) :
  StAt (some B) (w.setCell ⟨g, k, none⟩ u) v s := by
 obtain ⟨cur, hc⟩ := hg
 exact h.keep3 (KeepT.set hc h1) (KeepT.set hc h2) (KeepT.set hc h3) (KeepT.set hc h4)
theorem tag_set {w : World} {g g' k : Nat} {u : Value} {t : TypeId} (h : ∃ cur, w.heap[g]? = some (.cells cur t (0, 0))) : ∃ cur, (w.setCell ⟨g', k, none⟩ u).heap[g]? = some (.cells cur t (0, 0)) := by
 obtain ⟨cur, hc⟩ := h
 by_cases e : g = g'
 ·subst e
  exact ⟨_, heap_setCell_same w g k _ _ u hc⟩
 ·exact ⟨cur, (Below.heap_setCell w ⟨g', k, none⟩ u g e).trans hc⟩
theorem StAt.alloc {lo : Option Nat} {w : World} {v : Value} {s : St} (h : StAt lo w v s) (o : Obj) : StAt lo (w.alloc o) v s := h.below ((Below.refl _ _).alloc (Nat.le_refl _) _)
theorem StAt.set3 {B : Nat} {w : World} {v : Value} {s : St} (h : StAt (some B) w v s) {g : Nat} {cur : Array Value} (hg : w.heap[g]? = some (.cells cur 26 (0, 0))) (x y z : Value) :
  StAt (some B) (((w.setCell ⟨g, 0, none⟩ x).setCell ⟨g, 1, none⟩ y).setCell ⟨g, 2, none⟩ z) v s :=
 (((h.set ⟨_, hg⟩ (by decide) (by decide) (by decide) (by decide) 0 x).set (tag_set ⟨_, hg⟩) (by decide) (by decide) (by decide) (by decide) 1 y).set (tag_set (tag_set ⟨_, hg⟩)) (by decide) (by decide) (by decide) (by decide) 2 z)
theorem StAt.set6 {B : Nat} {w : World} {v : Value} {s : St} (h : StAt (some B) w v s) {g : Nat} {cur : Array Value} (hg : w.heap[g]? = some (.cells cur 44 (0, 0))) (x y z p q r : Value) :
  StAt (some B) ((((((w.setCell ⟨g, 0, none⟩ x).setCell ⟨g, 1, none⟩ y).setCell ⟨g, 2, none⟩ z).setCell ⟨g, 3, none⟩ p).setCell ⟨g, 4, none⟩ q).setCell ⟨g, 5, none⟩ r) v s :=
 ((((((h.set ⟨_, hg⟩ (by decide) (by decide) (by decide) (by decide) 0 x).set (tag_set ⟨_, hg⟩) (by decide) (by decide) (by decide) (by decide) 1 y).set (tag_set (tag_set ⟨_, hg⟩)) (by decide) (by decide) (by decide) (by decide) 2 z).set (tag_set (tag_set (tag_set ⟨_, hg⟩))) (by decide) (by decide) (by decide) (by decide) 3 p).set
  (tag_set (tag_set (tag_set (tag_set ⟨_, hg⟩)))) (by decide) (by decide) (by decide) (by decide) 4 q).set (tag_set (tag_set (tag_set (tag_set (tag_set ⟨_, hg⟩))))) (by decide) (by decide) (by decide) (by decide) 5 r)
theorem below_set3 {B : Nat} {u w : World} (h : Below B u w) {g : Nat} (hg : B ≤ g) (x y z : Value) : Below B u (((w.setCell ⟨g, 0, none⟩ x).setCell ⟨g, 1, none⟩ y).setCell ⟨g, 2, none⟩ z) :=
 ((h.setCell (p := ⟨g, 0, none⟩) hg x).setCell (p := ⟨g, 1, none⟩) hg y).setCell (p := ⟨g, 2, none⟩) hg z
theorem below_set6 {B : Nat} {u w : World} (h : Below B u w) {g : Nat} (hg : B ≤ g) (x y z p q r : Value) : Below B u ((((((w.setCell ⟨g, 0, none⟩ x).setCell ⟨g, 1, none⟩ y).setCell ⟨g, 2, none⟩ z).setCell ⟨g, 3, none⟩ p).setCell ⟨g, 4, none⟩ q).setCell ⟨g, 5, none⟩ r) :=
 (((((h.setCell (p := ⟨g, 0, none⟩) hg x).setCell (p := ⟨g, 1, none⟩) hg y).setCell (p := ⟨g, 2, none⟩) hg z).setCell (p := ⟨g, 3, none⟩) hg p).setCell (p := ⟨g, 4, none⟩) hg q).setCell (p := ⟨g, 5, none⟩) hg r
theorem row_far3 {w : World} {b g : Nat} {o : Option Obj} (h : w.heap[b]? = o) (hne : b ≠ g) (x y z : Value) : (((w.setCell ⟨g, 0, none⟩ x).setCell ⟨g, 1, none⟩ y).setCell ⟨g, 2, none⟩ z).heap[b]? = o := row_far (row_far (row_far h hne) hne) hne
theorem row_far6 {w : World} {b g : Nat} {o : Option Obj} (h : w.heap[b]? = o) (hne : b ≠ g) (x y z p q r : Value) : ((((((w.setCell ⟨g, 0, none⟩ x).setCell ⟨g, 1, none⟩ y).setCell ⟨g, 2, none⟩ z).setCell ⟨g, 3, none⟩ p).setCell ⟨g, 4, none⟩ q).setCell ⟨g, 5, none⟩ r).heap[b]? = o :=
 row_far (row_far (row_far (row_far (row_far (row_far h hne) hne) hne) hne) hne) hne
theorem sz_lt (w : World) (o : Obj) : w.heap.size < (w.alloc o).heap.size := by simp
theorem sz_eq (w : World) (o : Obj) : w.heap.size + 1 = (w.alloc o).heap.size := by simp
theorem sz_set3 (w : World) (g : Nat) (x y z : Value) : w.heap.size = (((w.setCell ⟨g, 0, none⟩ x).setCell ⟨g, 1, none⟩ y).setCell ⟨g, 2, none⟩ z).heap.size := by simp [World.setCell]
theorem sz_set6 (w : World) (g : Nat) (x y z p q r : Value) : w.heap.size = ((((((w.setCell ⟨g, 0, none⟩ x).setCell ⟨g, 1, none⟩ y).setCell ⟨g, 2, none⟩ z).setCell ⟨g, 3, none⟩ p).setCell ⟨g, 4, none⟩ q).setCell ⟨g, 5, none⟩ r).heap.size := by simp [World.setCell]
theorem ne_up (n : Nat) : n ≠ n + 1 := by omega
theorem ne_down (n : Nat) : n + 1 ≠ n := by omega
theorem le_up (n : Nat) : n ≤ n + 1 := by omega
theorem round1 {wr w5 : World} {a b c x y z p q r v : Value} {s : St} {B : Nat} (h : StAt (some B) w5 v s) (hb : Below wr.heap.size wr w5) :
  OutAt ((w5.alloc (.cells #[a, b, c] 26)).alloc (.cells #[x, y, z, p, q, r] 44)) w5.heap.size a b c ∧ StAt (some B) ((w5.alloc (.cells #[a, b, c] 26)).alloc (.cells #[x, y, z, p, q, r] 44)) v s ∧ Below wr.heap.size wr ((w5.alloc (.cells #[a, b, c] 26)).alloc (.cells #[x, y, z, p, q, r] 44)) ∧ wr.heap.size ≤ w5.heap.size := by
 have hle := hb.size
 exact ⟨row_past (row_new w5 _ _ rfl) (sz_lt _ _), ((h.alloc _).alloc _), (hb.alloc hle _).alloc (Nat.le_trans hle (Nat.le_of_lt (sz_lt _ _))) _, hle⟩
theorem round2 {wr w5 : World} {a b c x y z p q r v : Value} {s : St} {B : Nat} (h : StAt (some B) w5 v s) (hb : Below wr.heap.size wr w5) :
  OutAt ((w5.alloc (.cells #[x, y, z, p, q, r] 44)).alloc (.cells #[a, b, c] 26)) (w5.heap.size + 1) a b c ∧ StAt (some B) ((w5.alloc (.cells #[x, y, z, p, q, r] 44)).alloc (.cells #[a, b, c] 26)) v s ∧ Below wr.heap.size wr ((w5.alloc (.cells #[x, y, z, p, q, r] 44)).alloc (.cells #[a, b, c] 26)) ∧ wr.heap.size ≤ (w5.heap.size + 1) := by
 have hle := hb.size
 exact ⟨row_new (w5.alloc _) _ _ (sz_eq _ _), ((h.alloc _).alloc _), (hb.alloc hle _).alloc (Nat.le_trans hle (Nat.le_of_lt (sz_lt _ _))) _, Nat.le_trans hle (le_up _)⟩
theorem round3 {wr w5 : World} {a b c x y z p q r v : Value} {s : St} {B : Nat} (h : StAt (some B) w5 v s) (hb : Below wr.heap.size wr w5) (h0 : w5.heap[wr.heap.size]? = some (.cells #[.slice none 0 0, .slice none 0 0, .slice none 0 0] 26)) :
  OutAt ((((w5.setCell ⟨wr.heap.size, 0, none⟩ a).setCell ⟨wr.heap.size, 1, none⟩ b).setCell ⟨wr.heap.size, 2, none⟩ c).alloc (.cells #[x, y, z, p, q, r] 44)) wr.heap.size a b c ∧ StAt (some B) ((((w5.setCell ⟨wr.heap.size, 0, none⟩ a).setCell ⟨wr.heap.size, 1, none⟩ b).setCell ⟨wr.heap.size, 2, none⟩ c).alloc (.cells #[x, y, z, p, q, r] 44)) v s ∧ Below wr.heap.size wr ((((w5.setCell ⟨wr.heap.size, 0, none⟩ a).setCell ⟨wr.heap.size, 1, none⟩ b).setCell ⟨wr.heap.size, 2, none⟩ c).alloc (.cells #[x, y, z, p, q, r] 44)) ∧ wr.heap.size ≤ wr.heap.size := by
 have hle := hb.size
 have l0 := (Array.getElem?_eq_some_iff.1 h0).1
 exact ⟨row_past (row_three h0 _ _ _) (Nat.lt_of_lt_of_eq l0 (sz_set3 _ _ _ _ _)), ((h.set3 h0 _ _ _).alloc _), (below_set3 hb (Nat.le_refl _) _ _ _).alloc (Nat.le_trans hle (Nat.le_of_eq (sz_set3 _ _ _ _ _))) _, Nat.le_refl _⟩
theorem round4 {wr w5 : World} {a b c x y z p q r v : Value} {s : St} {B : Nat} (h : StAt (some B) w5 v s) (hb : Below wr.heap.size wr w5) (h0 : w5.heap[wr.heap.size]? = some (.cells #[.slice none 0 0, .slice none 0 0, .slice none 0 0] 26)) (h1 : w5.heap[wr.heap.size + 1]? = some (.cells #[.int .i64 0, .int .i64 0, .int .i64 0, .bool false, .string ⟨#[]⟩, .slice none 0 0] 44)) :
  OutAt (((((((((w5.setCell ⟨wr.heap.size, 0, none⟩ a).setCell ⟨wr.heap.size, 1, none⟩ b).setCell ⟨wr.heap.size, 2, none⟩ c).setCell ⟨(wr.heap.size + 1), 0, none⟩ x).setCell ⟨(wr.heap.size + 1), 1, none⟩ y).setCell ⟨(wr.heap.size + 1), 2, none⟩ z).setCell ⟨(wr.heap.size + 1), 3, none⟩ p).setCell ⟨(wr.heap.size + 1), 4, none⟩ q).setCell ⟨(wr.heap.size + 1), 5, none⟩ r) wr.heap.size a b c ∧ StAt (some B) (((((((((w5.setCell ⟨wr.heap.size, 0, none⟩ a).setCell ⟨wr.heap.size, 1, none⟩ b).setCell ⟨wr.heap.size, 2, none⟩ c).setCell ⟨(wr.heap.size + 1), 0, none⟩ x).setCell ⟨(wr.heap.size + 1), 1, none⟩ y).setCell ⟨(wr.heap.size + 1), 2, none⟩ z).setCell ⟨(wr.heap.size + 1), 3, none⟩ p).setCell ⟨(wr.heap.size + 1), 4, none⟩ q).setCell ⟨(wr.heap.size + 1), 5, none⟩ r) v s ∧ Below wr.heap.size wr (((((((((w5.setCell ⟨wr.heap.size, 0, none⟩ a).setCell ⟨wr.heap.size, 1, none⟩ b).setCell ⟨wr.heap.size, 2, none⟩ c).setCell ⟨(wr.heap.size + 1), 0, none⟩ x).setCell ⟨(wr.heap.size + 1), 1, none⟩ y).setCell ⟨(wr.heap.size + 1), 2, none⟩ z).setCell ⟨(wr.heap.size + 1), 3, none⟩ p).setCell ⟨(wr.heap.size + 1), 4, none⟩ q).setCell ⟨(wr.heap.size + 1), 5, none⟩ r) ∧ wr.heap.size ≤ wr.heap.size := by
 have hle := hb.size
 have l0 := (Array.getElem?_eq_some_iff.1 h0).1
 exact ⟨row_far6 (row_three h0 _ _ _) (ne_up _) _ _ _ _ _ _, ((h.set3 h0 _ _ _).set6 (row_far3 h1 (ne_down _) _ _ _) _ _ _ _ _ _), below_set6 (below_set3 hb (Nat.le_refl _) _ _ _) (le_up _) _ _ _ _ _ _, Nat.le_refl _⟩
theorem round5 {wr w5 : World} {a b c x y z p q r v : Value} {s : St} {B : Nat} (h : StAt (some B) w5 v s) (hb : Below wr.heap.size wr w5) (h0 : w5.heap[wr.heap.size]? = some (.cells #[.int .i64 0, .int .i64 0, .int .i64 0, .bool false, .string ⟨#[]⟩, .slice none 0 0] 44)) :
  OutAt (((((((w5.setCell ⟨wr.heap.size, 0, none⟩ x).setCell ⟨wr.heap.size, 1, none⟩ y).setCell ⟨wr.heap.size, 2, none⟩ z).setCell ⟨wr.heap.size, 3, none⟩ p).setCell ⟨wr.heap.size, 4, none⟩ q).setCell ⟨wr.heap.size, 5, none⟩ r).alloc (.cells #[a, b, c] 26)) w5.heap.size a b c ∧ StAt (some B) (((((((w5.setCell ⟨wr.heap.size, 0, none⟩ x).setCell ⟨wr.heap.size, 1, none⟩ y).setCell ⟨wr.heap.size, 2, none⟩ z).setCell ⟨wr.heap.size, 3, none⟩ p).setCell ⟨wr.heap.size, 4, none⟩ q).setCell ⟨wr.heap.size, 5, none⟩ r).alloc (.cells #[a, b, c] 26)) v s ∧ Below wr.heap.size wr (((((((w5.setCell ⟨wr.heap.size, 0, none⟩ x).setCell ⟨wr.heap.size, 1, none⟩ y).setCell ⟨wr.heap.size, 2, none⟩ z).setCell ⟨wr.heap.size, 3, none⟩ p).setCell ⟨wr.heap.size, 4, none⟩ q).setCell ⟨wr.heap.size, 5, none⟩ r).alloc (.cells #[a, b, c] 26)) ∧ wr.heap.size ≤ w5.heap.size := by
 have hle := hb.size
 have l0 := (Array.getElem?_eq_some_iff.1 h0).1
 exact ⟨row_new _ _ _ (sz_set6 _ _ _ _ _ _ _ _), ((h.set6 h0 _ _ _ _ _ _).alloc _), (below_set6 hb (Nat.le_refl _) _ _ _ _ _ _).alloc (Nat.le_trans hle (Nat.le_of_eq (sz_set6 _ _ _ _ _ _ _ _))) _, hle⟩
theorem round6 {wr w5 : World} {a b c x y z p q r v : Value} {s : St} {B : Nat} (h : StAt (some B) w5 v s) (hb : Below wr.heap.size wr w5) (h0 : w5.heap[wr.heap.size]? = some (.cells #[.int .i64 0, .int .i64 0, .int .i64 0, .bool false, .string ⟨#[]⟩, .slice none 0 0] 44)) (h1 : w5.heap[wr.heap.size + 1]? = some (.cells #[.slice none 0 0, .slice none 0 0, .slice none 0 0] 26)) :
  OutAt (((((((((w5.setCell ⟨(wr.heap.size + 1), 0, none⟩ a).setCell ⟨(wr.heap.size + 1), 1, none⟩ b).setCell ⟨(wr.heap.size + 1), 2, none⟩ c).setCell ⟨wr.heap.size, 0, none⟩ x).setCell ⟨wr.heap.size, 1, none⟩ y).setCell ⟨wr.heap.size, 2, none⟩ z).setCell ⟨wr.heap.size, 3, none⟩ p).setCell ⟨wr.heap.size, 4, none⟩ q).setCell ⟨wr.heap.size, 5, none⟩ r) (wr.heap.size + 1) a b c ∧ StAt (some B) (((((((((w5.setCell ⟨(wr.heap.size + 1), 0, none⟩ a).setCell ⟨(wr.heap.size + 1), 1, none⟩ b).setCell ⟨(wr.heap.size + 1), 2, none⟩ c).setCell ⟨wr.heap.size, 0, none⟩ x).setCell ⟨wr.heap.size, 1, none⟩ y).setCell ⟨wr.heap.size, 2, none⟩ z).setCell ⟨wr.heap.size, 3, none⟩ p).setCell ⟨wr.heap.size, 4, none⟩ q).setCell ⟨wr.heap.size, 5, none⟩ r) v s ∧ Below wr.heap.size wr (((((((((w5.setCell ⟨(wr.heap.size + 1), 0, none⟩ a).setCell ⟨(wr.heap.size + 1), 1, none⟩ b).setCell ⟨(wr.heap.size + 1), 2, none⟩ c).setCell ⟨wr.heap.size, 0, none⟩ x).setCell ⟨wr.heap.size, 1, none⟩ y).setCell ⟨wr.heap.size, 2, none⟩ z).setCell ⟨wr.heap.size, 3, none⟩ p).setCell ⟨wr.heap.size, 4, none⟩ q).setCell ⟨wr.heap.size, 5, none⟩ r) ∧ wr.heap.size ≤ (wr.heap.size + 1) := by
 have hle := hb.size
 have l0 := (Array.getElem?_eq_some_iff.1 h0).1
 exact ⟨row_far6 (row_three h1 _ _ _) (ne_down _) _ _ _ _ _ _, ((h.set3 h1 _ _ _).set6 (row_far3 h0 (ne_up _) _ _ _) _ _ _ _ _ _), below_set6 (below_set3 hb (le_up _) _ _ _) (Nat.le_refl _) _ _ _ _ _ _, le_up _⟩
end Go.Proofs.YthhceopnnappgaaGreatDoor
