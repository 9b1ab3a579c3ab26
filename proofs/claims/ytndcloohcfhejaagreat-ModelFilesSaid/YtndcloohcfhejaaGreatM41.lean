/- Parts of the proof, side by side: MadeP, DoRound. -/
import Derived.Test.YtndcloohcfhejaaGreatFsEqual
import Derived.Test.YtndcloohcfhejaaGreatM36
import Derived.Test.YtndcloohcfhejaaGreatM10
set_option linter.unusedVariables false
set_option linter.unusedSimpArgs false
namespace Go.Proofs.YtndcloohcfhejaaGreat
def callM (q : Nat) : Ca := match q with
 | 0 => ⟨1, 0, 0, 0, 0, ⟨#[47, 100]⟩, ⟨#[]⟩, ⟨#[]⟩⟩
 | 1 => ⟨1, 0, 0, 0, 0, ⟨#[47, 101]⟩, ⟨#[]⟩, ⟨#[]⟩⟩
 | 2 => ⟨0, 0, 0, 0, 0, ⟨#[47, 102]⟩, ⟨#[]⟩, ⟨#[]⟩⟩
 | 3 => ⟨8, 0, 0, 0, 0, ⟨#[47, 102]⟩, ⟨#[47, 103]⟩, ⟨#[]⟩⟩
 | 4 => ⟨0, 0, 0, 0, 0, ⟨#[47, 100, 47, 104]⟩, ⟨#[]⟩, ⟨#[]⟩⟩
 | 5 => ⟨2, 0, 0, 0, 0, ⟨#[47, 102]⟩, ⟨#[]⟩, ⟨#[]⟩⟩
 | _ => ⟨5, 0, 0, 0, 0, ⟨#[]⟩, ⟨#[]⟩, ⟨#[48, 49, 50, 51, 52, 53, 54, 55, 56, 57]⟩⟩
def stM (n q : Nat) : St := match q with
 | 0 => ⟨[⟨1, true, [], ⟨#[]⟩⟩], [], 0 :: List.replicate (n - 1) 0⟩
 | 1 => ⟨[⟨1, true, [⟨⟨#[100]⟩, 2⟩], ⟨#[]⟩⟩, ⟨2, true, [], ⟨#[]⟩⟩], [], 1 :: List.replicate (n - 1) 0⟩
 | 2 => ⟨[⟨1, true, [⟨⟨#[100]⟩, 2⟩, ⟨⟨#[101]⟩, 10⟩], ⟨#[]⟩⟩, ⟨2, true, [], ⟨#[]⟩⟩, ⟨10, true, [], ⟨#[]⟩⟩], [], 2 :: List.replicate (n - 1) 0⟩
 | 3 => ⟨[⟨1, true, [⟨⟨#[100]⟩, 2⟩, ⟨⟨#[101]⟩, 10⟩, ⟨⟨#[102]⟩, 18⟩], ⟨#[]⟩⟩, ⟨2, true, [], ⟨#[]⟩⟩, ⟨10, true, [], ⟨#[]⟩⟩, ⟨18, false, [], ⟨#[]⟩⟩], [], 3 :: List.replicate (n - 1) 0⟩
 | 4 => ⟨[⟨1, true, [⟨⟨#[100]⟩, 2⟩, ⟨⟨#[101]⟩, 10⟩, ⟨⟨#[102]⟩, 18⟩, ⟨⟨#[103]⟩, 18⟩], ⟨#[]⟩⟩, ⟨2, true, [], ⟨#[]⟩⟩, ⟨10, true, [], ⟨#[]⟩⟩, ⟨18, false, [], ⟨#[]⟩⟩], [], 3 :: List.replicate (n - 1) 0⟩
 | 5 => ⟨[⟨1, true, [⟨⟨#[100]⟩, 2⟩, ⟨⟨#[101]⟩, 10⟩, ⟨⟨#[102]⟩, 18⟩, ⟨⟨#[103]⟩, 18⟩], ⟨#[]⟩⟩, ⟨2, true, [⟨⟨#[104]⟩, 26⟩], ⟨#[]⟩⟩, ⟨10, true, [], ⟨#[]⟩⟩, ⟨18, false, [], ⟨#[]⟩⟩, ⟨26, false, [], ⟨#[]⟩⟩], [], 4 :: List.replicate (n - 1) 0⟩
 | 6 => ⟨[⟨1, true, [⟨⟨#[100]⟩, 2⟩, ⟨⟨#[101]⟩, 10⟩, ⟨⟨#[102]⟩, 18⟩, ⟨⟨#[103]⟩, 18⟩], ⟨#[]⟩⟩, ⟨2, true, [⟨⟨#[104]⟩, 26⟩], ⟨#[]⟩⟩, ⟨10, true, [], ⟨#[]⟩⟩, ⟨18, false, [], ⟨#[]⟩⟩, ⟨26, false, [], ⟨#[]⟩⟩], [⟨0, 0, 18⟩], 4 :: List.replicate (n - 1) 0⟩
 | _ => ⟨[⟨1, true, [⟨⟨#[100]⟩, 2⟩, ⟨⟨#[101]⟩, 10⟩, ⟨⟨#[102]⟩, 18⟩, ⟨⟨#[103]⟩, 18⟩], ⟨#[]⟩⟩, ⟨2, true, [⟨⟨#[104]⟩, 26⟩], ⟨#[]⟩⟩, ⟨10, true, [], ⟨#[]⟩⟩, ⟨18, false, [], ⟨#[48, 49, 50, 51, 52, 53, 54, 55, 56, 57]⟩⟩, ⟨26, false, [], ⟨#[]⟩⟩], [⟨0, 0, 18⟩], 4 :: List.replicate (n - 1) 0⟩
def madeV (n : Nat) : St := ⟨[⟨1, true, [⟨⟨#[100]⟩, 2⟩, ⟨⟨#[101]⟩, 10⟩, ⟨⟨#[102]⟩, 18⟩, ⟨⟨#[103]⟩, 18⟩], ⟨#[]⟩⟩, ⟨2, true, [⟨⟨#[104]⟩, 26⟩], ⟨#[]⟩⟩, ⟨10, true, [], ⟨#[]⟩⟩, ⟨18, false, [], ⟨#[48, 49, 50, 51, 52, 53, 54, 55, 56, 57]⟩⟩, ⟨26, false, [], ⟨#[]⟩⟩], [⟨0, 0, 18⟩], 4 :: List.replicate (n - 1) 0⟩
theorem stM_first (n : Nat) (hn : n = 1 ∨ n = 3) : stM n 0 = newV n := by rcases hn with rfl | rfl <;> decide +kernel
theorem stM_step (n q : Nat) (hn : n = 1 ∨ n = 3) (hq : q < 7) : (doV (stM n q) (callM q)).1 = stM n (q + 1) := by
 rcases hn with rfl | rfl
 ·have : ∀ q < 7, (doV (stM 1 q) (callM q)).1 = stM 1 (q + 1) := by decide +kernel
  exact this q hq
 ·have : ∀ q < 7, (doV (stM 3 q) (callM q)).1 = stM 3 (q + 1) := by decide +kernel
  exact this q hq
theorem may_made (n : Nat) (hn : n = 1 ∨ n = 3) : mayV (madeV n) = true := by rcases hn with rfl | rfl <;> decide +kernel
def pathR (k : Nat) : ByteArray := match k with
 | 0 => ⟨#[47, 100]⟩
 | 1 => ⟨#[47, 101]⟩
 | 2 => ⟨#[47, 102]⟩
 | 3 => ⟨#[47, 100, 47, 104]⟩
 | 4 => ⟨#[47, 122]⟩
 | 5 => ⟨#[47, 102, 47, 120]⟩
 | 6 => ⟨#[47, 122, 47, 120]⟩
 | _ => ⟨#[47]⟩
def unlinkW (k : Nat) : Int := match k with
 | 0 => 8
 | 1 => 8
 | 2 => 0
 | 3 => 0
 | 4 => 1
 | 5 => 7
 | 6 => 1
 | _ => 9
def removeW (k : Nat) : Int := match k with
 | 0 => 3
 | 1 => 0
 | 2 => 7
 | 3 => 7
 | 4 => 1
 | 5 => 7
 | 6 => 1
 | _ => 9
theorem removes_code : ∀ k < 8, (doV (madeV 1) ⟨9, 0, 0, 0, 0, pathR k, ⟨#[]⟩, ⟨#[]⟩⟩).2.code = unlinkW k ∧ (doV (madeV 1) ⟨10, 0, 0, 0, 0, pathR k, ⟨#[]⟩, ⟨#[]⟩⟩).2.code = removeW k := by decide +kernel
theorem removes_gone9 : ∀ k < 8, unlinkW k = 0 → (doV (doV (madeV 1) ⟨9, 0, 0, 0, 0, pathR k, ⟨#[]⟩, ⟨#[]⟩⟩).1 ⟨13, 0, 0, 0, 0, pathR k, ⟨#[]⟩, ⟨#[]⟩⟩).2.code = 1 := by decide +kernel
theorem removes_gone10 : ∀ k < 8, removeW k = 0 → (doV (doV (madeV 1) ⟨10, 0, 0, 0, 0, pathR k, ⟨#[]⟩, ⟨#[]⟩⟩).1 ⟨13, 0, 0, 0, 0, pathR k, ⟨#[]⟩, ⟨#[]⟩⟩).2.code = 1 := by decide +kernel
def pathC (k : Nat) : ByteArray := match k with
 | 0 => ⟨#[]⟩
 | 1 => ⟨#[97]⟩
 | 2 => ⟨#[47, 97, 47, 47, 98]⟩
 | 3 => ⟨#[47, 97, 98, 99, 100, 101, 102, 103, 104, 105, 106, 107, 108, 109]⟩
 | 4 => ⟨#[47, 97, 47, 98, 47, 99, 47, 100, 47, 101]⟩
 | 5 => ⟨#[47, 46, 46]⟩
 | 6 => ⟨#[47, 102, 47]⟩
 | _ => ⟨#[47, 1]⟩
def wantC (k : Nat) : Int := match k with
 | 0 => 9
 | 1 => 9
 | 2 => 9
 | 3 => 6
 | 4 => 6
 | 5 => 9
 | 6 => 9
 | _ => 9
def kindC (k : Nat) : Int := match k with
 | 0 => 0
 | 1 => 1
 | 2 => 2
 | 3 => 8
 | 4 => 9
 | 5 => 10
 | 6 => 11
 | 7 => 12
 | 8 => 13
 | _ => 14
def kindF (k : Nat) : Int := match k with
 | 0 => 3
 | 1 => 4
 | 2 => 5
 | 3 => 6
 | 4 => 7
 | _ => 15
theorem codes_path : ∀ i < 10, ∀ k < 8, (doV (madeV 1) ⟨kindC i, 0, 0, 0, 0, pathC k, ⟨#[47, 110]⟩, ⟨#[]⟩⟩).2.code = wantC k := by decide +kernel
theorem codes_link : ∀ k < 8, (doV (madeV 1) ⟨8, 0, 0, 0, 0, ⟨#[47, 102]⟩, pathC k, ⟨#[]⟩⟩).2.code = wantC k := by decide +kernel
theorem codes_fd : ∀ i < 6, ∀ f : Nat, f < 11 → ((doV (madeV 1) ⟨kindF i, 0, (f : Int) - 5, 0, 0, ⟨#[]⟩, ⟨#[]⟩, ⟨#[]⟩⟩).2.code == 4) = ((f : Int) - 5 != 0) := by decide +kernel
theorem codes_kind : ∀ i : Nat, i < 4 → (doV (madeV 1) ⟨17 + (i : Int), 0, 0, 0, 0, ⟨#[]⟩, ⟨#[]⟩, ⟨#[]⟩⟩).2.code = 9 := by decide +kernel
theorem codes_sync : (doV (madeV 1) ⟨16, 1, 0, 0, 0, ⟨#[]⟩, ⟨#[]⟩, ⟨#[]⟩⟩).2.code = 9 := by decide +kernel
def linkedA (f : Bool) : ByteArray := if f then ⟨#[47, 103]⟩ else ⟨#[47, 102]⟩
def linkedB (f : Bool) : ByteArray := if f then ⟨#[47, 102]⟩ else ⟨#[47, 103]⟩
def linkedT (f : Bool) : St := (doV (madeV 1) ⟨9, 0, 0, 0, 0, linkedA f, ⟨#[]⟩, ⟨#[]⟩⟩).1
def linkedO (f c : Bool) : St := if c then (doV (linkedT f) ⟨3, 0, 0, 0, 0, ⟨#[]⟩, ⟨#[]⟩, ⟨#[]⟩⟩).1 else linkedT f
def linkedU (f c : Bool) : St := (doV (linkedO f c) ⟨9, 0, 0, 0, 0, linkedB f, ⟨#[]⟩, ⟨#[]⟩⟩).1
theorem linked_x : ∀ f, (doV (madeV 1) ⟨14, 0, 0, 0, 0, linkedA f, ⟨#[]⟩, ⟨#[]⟩⟩).2.num = 2 := by decide +kernel
theorem linked_r : ∀ f, (doV (madeV 1) ⟨9, 0, 0, 0, 0, linkedA f, ⟨#[]⟩, ⟨#[]⟩⟩).2.code = 0 := by decide +kernel
theorem linked_y : ∀ f, (doV (linkedT f) ⟨14, 0, 0, 0, 0, linkedB f, ⟨#[]⟩, ⟨#[]⟩⟩).2.num = 1 := by decide +kernel
theorem linked_q : ∀ f c, (doV (linkedO f c) ⟨9, 0, 0, 0, 0, linkedB f, ⟨#[]⟩, ⟨#[]⟩⟩).2.code = 0 := by decide +kernel
theorem linked_z : ∀ f c, (doV (linkedU f c) ⟨4, 0, 0, 0, 10, ⟨#[]⟩, ⟨#[]⟩, ⟨#[]⟩⟩).2.code = if c then 4 else 0 := by decide +kernel
theorem linked_n : ∀ f c, (linkedU f c).inos.length = if c then 4 else 5 := by decide +kernel
theorem linked_s : ∀ f c, (doV (linkedU f c) ⟨13, 0, 0, 0, 0, linkedB f, ⟨#[]⟩, ⟨#[]⟩⟩).2.code = 1 := by decide +kernel
def opensS (c : Int) : Nat → St
 | 0 => madeV 3
 | i + 1 => (doV (opensS c i) ⟨2, c, 0, 0, 0, ⟨#[47, 103]⟩, ⟨#[]⟩, ⟨#[]⟩⟩).1
theorem opens_r1 : ∀ i < 7, ∀ a < 2, (doV (opensS (1 + (a : Nat)) i) ⟨2, 1 + (a : Nat), 0, 0, 0, ⟨#[47, 103]⟩, ⟨#[]⟩, ⟨#[]⟩⟩).2.code = (if i < 4 then 0 else 10) ∧ (i < 4 → (doV (opensS (1 + (a : Nat)) i) ⟨2, 1 + (a : Nat), 0, 0, 0, ⟨#[47, 103]⟩, ⟨#[]⟩, ⟨#[]⟩⟩).2.fd = i) := by decide +kernel
def opensT (a k g : Nat) : St := (doV (opensS (1 + (a : Nat)) k) ⟨3, 1 + (a : Nat), (g : Nat), 0, 0, ⟨#[]⟩, ⟨#[]⟩, ⟨#[]⟩⟩).1
theorem opens_t : ∀ a < 2, ∀ k < 8, ∀ g < 4, ((doV (opensS (1 + (a : Nat)) k) ⟨3, 1 + (a : Nat), (g : Nat), 0, 0, ⟨#[]⟩, ⟨#[]⟩, ⟨#[]⟩⟩).2.code == 0) = decide (g < k) ∧ (doV (opensT a k g) ⟨7, 1 + (a : Nat), (g : Nat), 0, 0, ⟨#[]⟩, ⟨#[]⟩, ⟨#[]⟩⟩).2.code = 4 ∧ (doV (opensT a k g) ⟨7, 0, 0, 0, 0, ⟨#[]⟩, ⟨#[]⟩, ⟨#[]⟩⟩).2.code = 0 := by decide +kernel
theorem opens_s : ∀ a < 2, ∀ k < 8, (doV (opensS (1 + (a : Nat)) k) ⟨2, 1 + (a : Nat), 0, 0, 0, ⟨#[47, 100]⟩, ⟨#[]⟩, ⟨#[]⟩⟩).2.code = 8 ∧ (doV (opensS (1 + (a : Nat)) k) ⟨7, 2 - (a : Nat), 0, 0, 0, ⟨#[]⟩, ⟨#[]⟩, ⟨#[]⟩⟩).2.code = 4 := by decide +kernel
end Go.Proofs.YtndcloohcfhejaaGreat
namespace Go.Proofs.YtndcloohcfhejaaGreat
open Go.RowKit
theorem StAt.set {B : Nat} {w : World} {v : Value} {s : St} (h : StAt (some B) w v s) {g : Nat} {t : TypeId} (hg : ∃ cur, w.heap[g]? = some (.cells cur t (0, 0))) (h1 : t ≠ 75) (h2 : t ≠ 77) (h3 : t ≠ 79) (h4 : t ≠ 3) (k : Nat) (u : Value) :
  StAt (some B) (w.setCell ⟨g, k, none⟩ u) v s := by
 obtain ⟨cur, hc⟩ := hg
 exact h.keep3 (KeepT.set hc h1) (KeepT.set hc h2) (KeepT.set hc h3) (KeepT.set hc h4)
theorem tag_set {w : World} {g g' k : Nat} {u : Value} {t : TypeId} (h : ∃ cur, w.heap[g]? = some (.cells cur t (0, 0))) : ∃ cur, (w.setCell ⟨g', k, none⟩ u).heap[g]? = some (.cells cur t (0, 0)) := by
 obtain ⟨cur, hc⟩ := h
 by_cases e : g = g'
 ·subst e
  exact ⟨_, heap_setCell_same w g k _ _ u hc⟩
 ·exact ⟨cur, (Below.heap_setCell w ⟨g', k, none⟩ u g e).trans hc⟩
theorem StAt.alloc {lo : Option Nat} {w : World} {v : Value} {s : St} (h : StAt lo w v s) (o : Obj) : StAt lo (w.alloc o) v s := h.below ((Below.refl _ _).alloc (Nat.le_refl _) _)
theorem StAt.set3 {B : Nat} {w : World} {v : Value} {s : St} (h : StAt (some B) w v s) {g : Nat} {cur : Array Value} (hg : w.heap[g]? = some (.cells cur 27 (0, 0))) (x y z : Value) :
  StAt (some B) (((w.setCell ⟨g, 0, none⟩ x).setCell ⟨g, 1, none⟩ y).setCell ⟨g, 2, none⟩ z) v s :=
 (((h.set ⟨_, hg⟩ (by decide) (by decide) (by decide) (by decide) 0 x).set (tag_set ⟨_, hg⟩) (by decide) (by decide) (by decide) (by decide) 1 y).set (tag_set (tag_set ⟨_, hg⟩)) (by decide) (by decide) (by decide) (by decide) 2 z)
theorem StAt.set6 {B : Nat} {w : World} {v : Value} {s : St} (h : StAt (some B) w v s) {g : Nat} {cur : Array Value} (hg : w.heap[g]? = some (.cells cur 31 (0, 0))) (x y z p q r : Value) :
  StAt (some B) ((((((w.setCell ⟨g, 0, none⟩ x).setCell ⟨g, 1, none⟩ y).setCell ⟨g, 2, none⟩ z).setCell ⟨g, 3, none⟩ p).setCell ⟨g, 4, none⟩ q).setCell ⟨g, 5, none⟩ r) v s :=
 ((((((h.set ⟨_, hg⟩ (by decide) (by decide) (by decide) (by decide) 0 x).set (tag_set ⟨_, hg⟩) (by decide) (by decide) (by decide) (by decide) 1 y).set (tag_set (tag_set ⟨_, hg⟩)) (by decide) (by decide) (by decide) (by decide) 2 z).set (tag_set (tag_set (tag_set ⟨_, hg⟩))) (by decide) (by decide) (by decide) (by decide) 3 p).set
  (tag_set (tag_set (tag_set (tag_set ⟨_, hg⟩)))) (by decide) (by decide) (by decide) (by decide) 4 q).set (tag_set (tag_set (tag_set (tag_set (tag_set ⟨_, hg⟩))))) (by decide) (by decide) (by decide) (by decide) 5 r)
theorem below_set3 {B : Nat} {u w : World} (h : Below B u w) {g : Nat} (hg : B ≤ g) (x y z : Value) : Below B u (((w.setCell ⟨g, 0, none⟩ x).setCell ⟨g, 1, none⟩ y).setCell ⟨g, 2, none⟩ z) :=
 ((h.setCell (p := ⟨g, 0, none⟩) hg x).setCell (p := ⟨g, 1, none⟩) hg y).setCell (p := ⟨g, 2, none⟩) hg z
theorem below_set6 {B : Nat} {u w : World} (h : Below B u w) {g : Nat} (hg : B ≤ g) (x y z p q r : Value) : Below B u ((((((w.setCell ⟨g, 0, none⟩ x).setCell ⟨g, 1, none⟩ y).setCell ⟨g, 2, none⟩ z).setCell ⟨g, 3, none⟩ p).setCell ⟨g, 4, none⟩ q).setCell ⟨g, 5, none⟩ r) :=
 (((((h.setCell (p := ⟨g, 0, none⟩) hg x).setCell (p := ⟨g, 1, none⟩) hg y).setCell (p := ⟨g, 2, none⟩) hg z).setCell (p := ⟨g, 3, none⟩) hg p).setCell (p := ⟨g, 4, none⟩) hg q).setCell (p := ⟨g, 5, none⟩) hg r
theorem row_far3 {w : World} {b g : Nat} {o : Option Obj} (h : w.heap[b]? = o) (hne : b ≠ g) (x y z : Value) : (((w.setCell ⟨g, 0, none⟩ x).setCell ⟨g, 1, none⟩ y).setCell ⟨g, 2, none⟩ z).heap[b]? = o := row_far (row_far (row_far h hne) hne) hne
theorem row_far6 {w : World} {b g : Nat} {o : Option Obj} (h : w.heap[b]? = o) (hne : b ≠ g) (x y z p q r : Value) : ((((((w.setCell ⟨g, 0, none⟩ x).setCell ⟨g, 1, none⟩ y).setCell ⟨g, 2, none⟩ z).setCell ⟨g, 3, none⟩ p).setCell ⟨g, 4, none⟩ q).setCell ⟨g, 5, none⟩ r).heap[b]? = o :=
 row_far (row_far (row_far (row_far (row_far (row_far h hne) hne) hne) hne) hne) hne
theorem sz_lt (w : World) (o : Obj) : w.heap.size < (w.alloc o).heap.size := by simp
theorem sz_eq (w : World) (o : Obj) : w.heap.size + 1 = (w.alloc o).heap.size := by simp
theorem sz_set3 (w : World) (g : Nat) (x y z : Value) : w.heap.size = (((w.setCell ⟨g, 0, none⟩ x).setCell ⟨g, 1, none⟩ y).setCell ⟨g, 2, none⟩ z).heap.size := by simp [World.setCell]
theorem sz_set6 (w : World) (g : Nat) (x y z p q r : Value) : w.heap.size = ((((((w.setCell ⟨g, 0, none⟩ x).setCell ⟨g, 1, none⟩ y).setCell ⟨g, 2, none⟩ z).setCell ⟨g, 3, none⟩ p).setCell ⟨g, 4, none⟩ q).setCell ⟨g, 5, none⟩ r).heap.size := by simp [World.setCell]
theorem ne_up (n : Nat) : n ≠ n + 1 := by omega
theorem ne_down (n : Nat) : n + 1 ≠ n := by omega
theorem le_up (n : Nat) : n ≤ n + 1 := by omega
theorem round1 {wr w5 : World} {a b c x y z p q r v : Value} {s : St} {B : Nat} (h : StAt (some B) w5 v s) (hb : Below wr.heap.size wr w5) :
  OutAt ((w5.alloc (.cells #[a, b, c] 27)).alloc (.cells #[x, y, z, p, q, r] 31)) w5.heap.size a b c ∧ StAt (some B) ((w5.alloc (.cells #[a, b, c] 27)).alloc (.cells #[x, y, z, p, q, r] 31)) v s ∧ Below wr.heap.size wr ((w5.alloc (.cells #[a, b, c] 27)).alloc (.cells #[x, y, z, p, q, r] 31)) ∧ wr.heap.size ≤ w5.heap.size := by
 have hle := hb.size
 exact ⟨row_past (row_new w5 _ _ rfl) (sz_lt _ _), ((h.alloc _).alloc _), (hb.alloc hle _).alloc (Nat.le_trans hle (Nat.le_of_lt (sz_lt _ _))) _, hle⟩
theorem round2 {wr w5 : World} {a b c x y z p q r v : Value} {s : St} {B : Nat} (h : StAt (some B) w5 v s) (hb : Below wr.heap.size wr w5) :
  OutAt ((w5.alloc (.cells #[x, y, z, p, q, r] 31)).alloc (.cells #[a, b, c] 27)) (w5.heap.size + 1) a b c ∧ StAt (some B) ((w5.alloc (.cells #[x, y, z, p, q, r] 31)).alloc (.cells #[a, b, c] 27)) v s ∧ Below wr.heap.size wr ((w5.alloc (.cells #[x, y, z, p, q, r] 31)).alloc (.cells #[a, b, c] 27)) ∧ wr.heap.size ≤ (w5.heap.size + 1) := by
 have hle := hb.size
 exact ⟨row_new (w5.alloc _) _ _ (sz_eq _ _), ((h.alloc _).alloc _), (hb.alloc hle _).alloc (Nat.le_trans hle (Nat.le_of_lt (sz_lt _ _))) _, Nat.le_trans hle (le_up _)⟩
theorem round3 {wr w5 : World} {a b c x y z p q r v : Value} {s : St} {B : Nat} (h : StAt (some B) w5 v s) (hb : Below wr.heap.size wr w5) (h0 : w5.heap[wr.heap.size]? = some (.cells #[.slice none 0 0, .slice none 0 0, .slice none 0 0] 27)) :
  OutAt ((((w5.setCell ⟨wr.heap.size, 0, none⟩ a).setCell ⟨wr.heap.size, 1, none⟩ b).setCell ⟨wr.heap.size, 2, none⟩ c).alloc (.cells #[x, y, z, p, q, r] 31)) wr.heap.size a b c ∧ StAt (some B) ((((w5.setCell ⟨wr.heap.size, 0, none⟩ a).setCell ⟨wr.heap.size, 1, none⟩ b).setCell ⟨wr.heap.size, 2, none⟩ c).alloc (.cells #[x, y, z, p, q, r] 31)) v s ∧ Below wr.heap.size wr ((((w5.setCell ⟨wr.heap.size, 0, none⟩ a).setCell ⟨wr.heap.size, 1, none⟩ b).setCell ⟨wr.heap.size, 2, none⟩ c).alloc (.cells #[x, y, z, p, q, r] 31)) ∧ wr.heap.size ≤ wr.heap.size := by
 have hle := hb.size
 have l0 := (Array.getElem?_eq_some_iff.1 h0).1
 exact ⟨row_past (row_three h0 _ _ _) (Nat.lt_of_lt_of_eq l0 (sz_set3 _ _ _ _ _)), ((h.set3 h0 _ _ _).alloc _), (below_set3 hb (Nat.le_refl _) _ _ _).alloc (Nat.le_trans hle (Nat.le_of_eq (sz_set3 _ _ _ _ _))) _, Nat.le_refl _⟩
theorem round4 {wr w5 : World} {a b c x y z p q r v : Value} {s : St} {B : Nat} (h : StAt (some B) w5 v s) (hb : Below wr.heap.size wr w5) (h0 : w5.heap[wr.heap.size]? = some (.cells #[.slice none 0 0, .slice none 0 0, .slice none 0 0] 27)) (h1 : w5.heap[wr.heap.size + 1]? = some (.cells #[.int .i64 0, .int .i64 0, .int .i64 0, .bool false, .string ⟨#[]⟩, .slice none 0 0] 31)) :
  OutAt (((((((((w5.setCell ⟨wr.heap.size, 0, none⟩ a).setCell ⟨wr.heap.size, 1, none⟩ b).setCell ⟨wr.heap.size, 2, none⟩ c).setCell ⟨(wr.heap.size + 1), 0, none⟩ x).setCell ⟨(wr.heap.size + 1), 1, none⟩ y).setCell ⟨(wr.heap.size + 1), 2, none⟩ z).setCell ⟨(wr.heap.size + 1), 3, none⟩ p).setCell ⟨(wr.heap.size + 1), 4, none⟩ q).setCell ⟨(wr.heap.size + 1), 5, none⟩ r) wr.heap.size a b c ∧ StAt (some B) (((((((((w5.setCell ⟨wr.heap.size, 0, none⟩ a).setCell ⟨wr.heap.size, 1, none⟩ b).setCell ⟨wr.heap.size, 2, none⟩ c).setCell ⟨(wr.heap.size + 1), 0, none⟩ x).setCell ⟨(wr.heap.size + 1), 1, none⟩ y).setCell ⟨(wr.heap.size + 1), 2, none⟩ z).setCell ⟨(wr.heap.size + 1), 3, none⟩ p).setCell ⟨(wr.heap.size + 1), 4, none⟩ q).setCell ⟨(wr.heap.size + 1), 5, none⟩ r) v s ∧ Below wr.heap.size wr (((((((((w5.setCell ⟨wr.heap.size, 0, none⟩ a).setCell ⟨wr.heap.size, 1, none⟩ b).setCell ⟨wr.heap.size, 2, none⟩ c).setCell ⟨(wr.heap.size + 1), 0, none⟩ x).setCell ⟨(wr.heap.size + 1), 1, none⟩ y).setCell ⟨(wr.heap.size + 1), 2, none⟩ z).setCell ⟨(wr.heap.size + 1), 3, none⟩ p).setCell ⟨(wr.heap.size + 1), 4, none⟩ q).setCell ⟨(wr.heap.size + 1), 5, none⟩ r) ∧ wr.heap.size ≤ wr.heap.size := by
 have hle := hb.size
 have l0 := (Array.getElem?_eq_some_iff.1 h0).1
 exact ⟨row_far6 (row_three h0 _ _ _) (ne_up _) _ _ _ _ _ _, ((h.set3 h0 _ _ _).set6 (row_far3 h1 (ne_down _) _ _ _) _ _ _ _ _ _), below_set6 (below_set3 hb (Nat.le_refl _) _ _ _) (le_up _) _ _ _ _ _ _, Nat.le_refl _⟩
theorem round5 {wr w5 : World} {a b c x y z p q r v : Value} {s : St} {B : Nat} (h : StAt (some B) w5 v s) (hb : Below wr.heap.size wr w5) (h0 : w5.heap[wr.heap.size]? = some (.cells #[.int .i64 0, .int .i64 0, .int .i64 0, .bool false, .string ⟨#[]⟩, .slice none 0 0] 31)) :
  OutAt (((((((w5.setCell ⟨wr.heap.size, 0, none⟩ x).setCell ⟨wr.heap.size, 1, none⟩ y).setCell ⟨wr.heap.size, 2, none⟩ z).setCell ⟨wr.heap.size, 3, none⟩ p).setCell ⟨wr.heap.size, 4, none⟩ q).setCell ⟨wr.heap.size, 5, none⟩ r).alloc (.cells #[a, b, c] 27)) w5.heap.size a b c ∧ StAt (some B) (((((((w5.setCell ⟨wr.heap.size, 0, none⟩ x).setCell ⟨wr.heap.size, 1, none⟩ y).setCell ⟨wr.heap.size, 2, none⟩ z).setCell ⟨wr.heap.size, 3, none⟩ p).setCell ⟨wr.heap.size, 4, none⟩ q).setCell ⟨wr.heap.size, 5, none⟩ r).alloc (.cells #[a, b, c] 27)) v s ∧ Below wr.heap.size wr (((((((w5.setCell ⟨wr.heap.size, 0, none⟩ x).setCell ⟨wr.heap.size, 1, none⟩ y).setCell ⟨wr.heap.size, 2, none⟩ z).setCell ⟨wr.heap.size, 3, none⟩ p).setCell ⟨wr.heap.size, 4, none⟩ q).setCell ⟨wr.heap.size, 5, none⟩ r).alloc (.cells #[a, b, c] 27)) ∧ wr.heap.size ≤ w5.heap.size := by
 have hle := hb.size
 have l0 := (Array.getElem?_eq_some_iff.1 h0).1
 exact ⟨row_new _ _ _ (sz_set6 _ _ _ _ _ _ _ _), ((h.set6 h0 _ _ _ _ _ _).alloc _), (below_set6 hb (Nat.le_refl _) _ _ _ _ _ _).alloc (Nat.le_trans hle (Nat.le_of_eq (sz_set6 _ _ _ _ _ _ _ _))) _, hle⟩
theorem round6 {wr w5 : World} {a b c x y z p q r v : Value} {s : St} {B : Nat} (h : StAt (some B) w5 v s) (hb : Below wr.heap.size wr w5) (h0 : w5.heap[wr.heap.size]? = some (.cells #[.int .i64 0, .int .i64 0, .int .i64 0, .bool false, .string ⟨#[]⟩, .slice none 0 0] 31)) (h1 : w5.heap[wr.heap.size + 1]? = some (.cells #[.slice none 0 0, .slice none 0 0, .slice none 0 0] 27)) :
  OutAt (((((((((w5.setCell ⟨(wr.heap.size + 1), 0, none⟩ a).setCell ⟨(wr.heap.size + 1), 1, none⟩ b).setCell ⟨(wr.heap.size + 1), 2, none⟩ c).setCell ⟨wr.heap.size, 0, none⟩ x).setCell ⟨wr.heap.size, 1, none⟩ y).setCell ⟨wr.heap.size, 2, none⟩ z).setCell ⟨wr.heap.size, 3, none⟩ p).setCell ⟨wr.heap.size, 4, none⟩ q).setCell ⟨wr.heap.size, 5, none⟩ r) (wr.heap.size + 1) a b c ∧ StAt (some B) (((((((((w5.setCell ⟨(wr.heap.size + 1), 0, none⟩ a).setCell ⟨(wr.heap.size + 1), 1, none⟩ b).setCell ⟨(wr.heap.size + 1), 2, none⟩ c).setCell ⟨wr.heap.size, 0, none⟩ x).setCell ⟨wr.heap.size, 1, none⟩ y).setCell ⟨wr.heap.size, 2, none⟩ z).setCell ⟨wr.heap.size, 3, none⟩ p).setCell ⟨wr.heap.size, 4, none⟩ q).setCell ⟨wr.heap.size, 5, none⟩ r) v s ∧ Below wr.heap.size wr (((((((((w5.setCell ⟨(wr.heap.size + 1), 0, none⟩ a).setCell ⟨(wr.heap.size + 1), 1, none⟩ b).setCell ⟨(wr.heap.size + 1), 2, none⟩ c).setCell ⟨wr.heap.size, 0, none⟩ x).setCell ⟨wr.heap.size, 1, none⟩ y).setCell ⟨wr.heap.size, 2, none⟩ z).setCell ⟨wr.heap.size, 3, none⟩ p).setCell ⟨wr.heap.size, 4, none⟩ q).setCell ⟨wr.heap.size, 5, none⟩ r) ∧ wr.heap.size ≤ (wr.heap.size + 1) := by
 have hle := hb.size
 have l0 := (Array.getElem?_eq_some_iff.1 h0).1
 exact ⟨row_far6 (row_three h1 _ _ _) (ne_down _) _ _ _ _ _ _, ((h.set3 h1 _ _ _).set6 (row_far3 h0 (ne_up _) _ _ _) _ _ _ _ _ _), below_set6 (below_set3 hb (le_up _) _ _ _) (Nat.le_refl _) _ _ _ _ _ _, le_up _⟩
end Go.Proofs.YtndcloohcfhejaaGreat
