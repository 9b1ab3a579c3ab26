/- A round of a law's loop 'o, _ := Do(s, cs[i]); s = o': what its drawn region makes, whatever the order. -/
import Derived.Test.YtndcloohcfhejaaGreatM34
import Derived.Test.YtndcloohcfhejaaGreatM10
set_option linter.unusedVariables false
set_option linter.unusedSimpArgs false
namespace Go.Proofs.YtndcloohcfhejaaGreat
open Go.RowKit
theorem StAt.set {B : Nat} {w : World} {v : Value} {s : St} (h : StAt (some B) w v s) {g : Nat} {t : TypeId} (hg : ∃ cur,w.heap[g]? = some (.cells cur t (0,0))) (h1 : t ≠ 75) (h2 : t ≠ 77) (h3 : t ≠ 79) (h4 : t ≠ 3) (k : Nat) (u : Value) :
  StAt (some B) (w.setCell ⟨g,k,none⟩ u) v s:=by
 obtain ⟨cur,hc⟩:=hg
 exact h.keep3 (KeepT.set hc h1) (KeepT.set hc h2) (KeepT.set hc h3) (KeepT.set hc h4)
theorem tag_set {w : World} {g g' k : Nat} {u : Value} {t : TypeId} (h : ∃ cur,w.heap[g]? = some (.cells cur t (0,0))) : ∃ cur,(w.setCell ⟨g',k,none⟩ u).heap[g]? = some (.cells cur t (0,0)):=by
 obtain ⟨cur,hc⟩:=h
 by_cases e : g = g'
 ·subst e
  exact ⟨_,heap_setCell_same w g k _ _ u hc⟩
 ·exact ⟨cur,(Below.heap_setCell w ⟨g',k,none⟩ u g e).trans hc⟩
theorem StAt.alloc {lo : Option Nat} {w : World} {v : Value} {s : St} (h : StAt lo w v s) (o : Obj) : StAt lo (w.alloc o) v s:=h.below ((Below.refl _ _).alloc (Nat.le_refl _) _)
theorem StAt.set3 {B : Nat} {w : World} {v : Value} {s : St} (h : StAt (some B) w v s) {g : Nat} {cur : Array Value} (hg : w.heap[g]? = some (.cells cur 27 (0,0))) (x y z : Value) :
  StAt (some B) (((w.setCell ⟨g,0,none⟩ x).setCell ⟨g,1,none⟩ y).setCell ⟨g,2,none⟩ z) v s:=
 (((h.set ⟨_,hg⟩ (by decide) (by decide) (by decide) (by decide) 0 x).set (tag_set ⟨_,hg⟩) (by decide) (by decide) (by decide) (by decide) 1 y).set (tag_set (tag_set ⟨_,hg⟩)) (by decide) (by decide) (by decide) (by decide) 2 z)
theorem StAt.set6 {B : Nat} {w : World} {v : Value} {s : St} (h : StAt (some B) w v s) {g : Nat} {cur : Array Value} (hg : w.heap[g]? = some (.cells cur 31 (0,0))) (x y z p q r : Value) :
  StAt (some B) ((((((w.setCell ⟨g,0,none⟩ x).setCell ⟨g,1,none⟩ y).setCell ⟨g,2,none⟩ z).setCell ⟨g,3,none⟩ p).setCell ⟨g,4,none⟩ q).setCell ⟨g,5,none⟩ r) v s:=
 ((((((h.set ⟨_, hg⟩ (by decide) (by decide) (by decide) (by decide) 0 x).set (tag_set ⟨_, hg⟩) (by decide) (by decide) (by decide) (by decide) 1 y).set (tag_set (tag_set ⟨_, hg⟩)) (by decide) (by decide) (by decide) (by decide) 2 z).set (tag_set (tag_set (tag_set ⟨_, hg⟩))) (by decide) (by decide) (by decide) (by decide) 3 p).set
  (tag_set (tag_set (tag_set (tag_set ⟨_,hg⟩)))) (by decide) (by decide) (by decide) (by decide) 4 q).set (tag_set (tag_set (tag_set (tag_set (tag_set ⟨_,hg⟩))))) (by decide) (by decide) (by decide) (by decide) 5 r)
theorem below_set3 {B : Nat} {u w : World} (h : Below B u w) {g : Nat} (hg : B ≤ g) (x y z : Value) : Below B u (((w.setCell ⟨g,0,none⟩ x).setCell ⟨g,1,none⟩ y).setCell ⟨g,2,none⟩ z):=
 ((h.setCell (p:=⟨g,0,none⟩) hg x).setCell (p:=⟨g,1,none⟩) hg y).setCell (p:=⟨g,2,none⟩) hg z
theorem below_set6 {B : Nat} {u w : World} (h : Below B u w) {g : Nat} (hg : B ≤ g) (x y z p q r : Value) : Below B u ((((((w.setCell ⟨g,0,none⟩ x).setCell ⟨g,1,none⟩ y).setCell ⟨g,2,none⟩ z).setCell ⟨g,3,none⟩ p).setCell ⟨g,4,none⟩ q).setCell ⟨g,5,none⟩ r):=
 (((((h.setCell (p:=⟨g,0,none⟩) hg x).setCell (p:=⟨g,1,none⟩) hg y).setCell (p:=⟨g,2,none⟩) hg z).setCell (p:=⟨g,3,none⟩) hg p).setCell (p:=⟨g,4,none⟩) hg q).setCell (p:=⟨g,5,none⟩) hg r
theorem row_far3 {w : World} {b g : Nat} {o : Option Obj} (h : w.heap[b]? = o) (hne : b ≠ g) (x y z : Value) : (((w.setCell ⟨g,0,none⟩ x).setCell ⟨g,1,none⟩ y).setCell ⟨g,2,none⟩ z).heap[b]? = o:=row_far (row_far (row_far h hne) hne) hne
theorem row_far6 {w : World} {b g : Nat} {o : Option Obj} (h : w.heap[b]? = o) (hne : b ≠ g) (x y z p q r : Value) : ((((((w.setCell ⟨g,0,none⟩ x).setCell ⟨g,1,none⟩ y).setCell ⟨g,2,none⟩ z).setCell ⟨g,3,none⟩ p).setCell ⟨g,4,none⟩ q).setCell ⟨g,5,none⟩ r).heap[b]? = o:=
 row_far (row_far (row_far (row_far (row_far (row_far h hne) hne) hne) hne) hne) hne
theorem sz_lt (w : World) (o : Obj) : w.heap.size < (w.alloc o).heap.size:=by simp
theorem sz_eq (w : World) (o : Obj) : w.heap.size + 1 = (w.alloc o).heap.size:=by simp
theorem sz_set3 (w : World) (g : Nat) (x y z : Value) : w.heap.size = (((w.setCell ⟨g,0,none⟩ x).setCell ⟨g,1,none⟩ y).setCell ⟨g,2,none⟩ z).heap.size:=by simp [World.setCell]
theorem sz_set6 (w : World) (g : Nat) (x y z p q r : Value) : w.heap.size = ((((((w.setCell ⟨g,0,none⟩ x).setCell ⟨g,1,none⟩ y).setCell ⟨g,2,none⟩ z).setCell ⟨g,3,none⟩ p).setCell ⟨g,4,none⟩ q).setCell ⟨g,5,none⟩ r).heap.size:=by simp [World.setCell]
theorem ne_up (n : Nat) : n ≠ n + 1:=by omega
theorem ne_down (n : Nat) : n + 1 ≠ n:=by omega
theorem le_up (n : Nat) : n ≤ n + 1:=by omega
theorem round1 {wr w5 : World} {a b c x y z p q r v : Value} {s : St} {B : Nat} (h : StAt (some B) w5 v s) (hb : Below wr.heap.size wr w5) :
  OutAt ((w5.alloc (.cells #[a,b,c] 27)).alloc (.cells #[x,y,z,p,q,r] 31)) w5.heap.size a b c ∧ StAt (some B) ((w5.alloc (.cells #[a,b,c] 27)).alloc (.cells #[x,y,z,p,q,r] 31)) v s ∧ Below wr.heap.size wr ((w5.alloc (.cells #[a,b,c] 27)).alloc (.cells #[x,y,z,p,q,r] 31)) ∧ wr.heap.size ≤ w5.heap.size:=by
 have hle:=hb.size
 exact ⟨row_past (row_new w5 _ _ rfl) (sz_lt _ _),((h.alloc _).alloc _),(hb.alloc hle _).alloc (Nat.le_trans hle (Nat.le_of_lt (sz_lt _ _))) _,hle⟩
theorem round2 {wr w5 : World} {a b c x y z p q r v : Value} {s : St} {B : Nat} (h : StAt (some B) w5 v s) (hb : Below wr.heap.size wr w5) :
  OutAt ((w5.alloc (.cells #[x,y,z,p,q,r] 31)).alloc (.cells #[a,b,c] 27)) (w5.heap.size + 1) a b c ∧ StAt (some B) ((w5.alloc (.cells #[x,y,z,p,q,r] 31)).alloc (.cells #[a,b,c] 27)) v s ∧ Below wr.heap.size wr ((w5.alloc (.cells #[x,y,z,p,q,r] 31)).alloc (.cells #[a,b,c] 27)) ∧ wr.heap.size ≤ (w5.heap.size + 1):=by
 have hle:=hb.size
 exact ⟨row_new (w5.alloc _) _ _ (sz_eq _ _),((h.alloc _).alloc _),(hb.alloc hle _).alloc (Nat.le_trans hle (Nat.le_of_lt (sz_lt _ _))) _,Nat.le_trans hle (le_up _)⟩
theorem round3 {wr w5 : World} {a b c x y z p q r v : Value} {s : St} {B : Nat} (h : StAt (some B) w5 v s) (hb : Below wr.heap.size wr w5) (h0 : w5.heap[wr.heap.size]? = some (.cells #[.slice none 0 0,.slice none 0 0,.slice none 0 0] 27)) :
  OutAt ((((w5.setCell ⟨wr.heap.size,0,none⟩ a).setCell ⟨wr.heap.size,1,none⟩ b).setCell ⟨wr.heap.size,2,none⟩ c).alloc (.cells #[x,y,z,p,q,r] 31)) wr.heap.size a b c ∧ StAt (some B) ((((w5.setCell ⟨wr.heap.size,0,none⟩ a).setCell ⟨wr.heap.size,1,none⟩ b).setCell ⟨wr.heap.size,2,none⟩ c).alloc (.cells #[x,y,z,p,q,r] 31)) v s ∧ Below wr.heap.size wr ((((w5.setCell ⟨wr.heap.size,0,none⟩ a).setCell ⟨wr.heap.size,1,none⟩ b).setCell ⟨wr.heap.size,2,none⟩ c).alloc (.cells #[x,y,z,p,q,r] 31)) ∧ wr.heap.size ≤ wr.heap.size:=by
 have hle:=hb.size
 have l0:=(Array.getElem?_eq_some_iff.1 h0).1
 exact ⟨row_past (row_three h0 _ _ _) (Nat.lt_of_lt_of_eq l0 (sz_set3 _ _ _ _ _)),((h.set3 h0 _ _ _).alloc _),(below_set3 hb (Nat.le_refl _) _ _ _).alloc (Nat.le_trans hle (Nat.le_of_eq (sz_set3 _ _ _ _ _))) _,Nat.le_refl _⟩
theorem round4 {wr w5 : World} {a b c x y z p q r v : Value} {s : St} {B : Nat} (h : StAt (some B) w5 v s) (hb : Below wr.heap.size wr w5) (h0 : w5.heap[wr.heap.size]? = some (.cells #[.slice none 0 0,.slice none 0 0,.slice none 0 0] 27)) (h1 : w5.heap[wr.heap.size + 1]? = some (.cells #[.int .i64 0,.int .i64 0,.int .i64 0,.bool false,.string ⟨#[]⟩,.slice none 0 0] 31)) :
  OutAt (((((((((w5.setCell ⟨wr.heap.size,0,none⟩ a).setCell ⟨wr.heap.size,1,none⟩ b).setCell ⟨wr.heap.size,2,none⟩ c).setCell ⟨(wr.heap.size + 1),0,none⟩ x).setCell ⟨(wr.heap.size + 1),1,none⟩ y).setCell ⟨(wr.heap.size + 1),2,none⟩ z).setCell ⟨(wr.heap.size + 1),3,none⟩ p).setCell ⟨(wr.heap.size + 1),4,none⟩ q).setCell ⟨(wr.heap.size + 1),5,none⟩ r) wr.heap.size a b c ∧ StAt (some B) (((((((((w5.setCell ⟨wr.heap.size,0,none⟩ a).setCell ⟨wr.heap.size,1,none⟩ b).setCell ⟨wr.heap.size,2,none⟩ c).setCell ⟨(wr.heap.size + 1),0,none⟩ x).setCell ⟨(wr.heap.size + 1),1,none⟩ y).setCell ⟨(wr.heap.size + 1),2,none⟩ z).setCell ⟨(wr.heap.size + 1),3,none⟩ p).setCell ⟨(wr.heap.size + 1),4,none⟩ q).setCell ⟨(wr.heap.size + 1),5,none⟩ r) v s ∧ Below wr.heap.size wr (((((((((w5.setCell ⟨wr.heap.size,0,none⟩ a).setCell ⟨wr.heap.size,1,none⟩ b).setCell ⟨wr.heap.size,2,none⟩ c).setCell ⟨(wr.heap.size + 1),0,none⟩ x).setCell ⟨(wr.heap.size + 1),1,none⟩ y).setCell ⟨(wr.heap.size + 1),2,none⟩ z).setCell ⟨(wr.heap.size + 1),3,none⟩ p).setCell ⟨(wr.heap.size + 1),4,none⟩ q).setCell ⟨(wr.heap.size + 1),5,none⟩ r) ∧ wr.heap.size ≤ wr.heap.size:=by
 have hle:=hb.size
 have l0:=(Array.getElem?_eq_some_iff.1 h0).1
 exact ⟨row_far6 (row_three h0 _ _ _) (ne_up _) _ _ _ _ _ _,((h.set3 h0 _ _ _).set6 (row_far3 h1 (ne_down _) _ _ _) _ _ _ _ _ _),below_set6 (below_set3 hb (Nat.le_refl _) _ _ _) (le_up _) _ _ _ _ _ _,Nat.le_refl _⟩
theorem round5 {wr w5 : World} {a b c x y z p q r v : Value} {s : St} {B : Nat} (h : StAt (some B) w5 v s) (hb : Below wr.heap.size wr w5) (h0 : w5.heap[wr.heap.size]? = some (.cells #[.int .i64 0,.int .i64 0,.int .i64 0,.bool false,.string ⟨#[]⟩,.slice none 0 0] 31)) :
  OutAt (((((((w5.setCell ⟨wr.heap.size,0,none⟩ x).setCell ⟨wr.heap.size,1,none⟩ y).setCell ⟨wr.heap.size,2,none⟩ z).setCell ⟨wr.heap.size,3,none⟩ p).setCell ⟨wr.heap.size,4,none⟩ q).setCell ⟨wr.heap.size,5,none⟩ r).alloc (.cells #[a,b,c] 27)) w5.heap.size a b c ∧ StAt (some B) (((((((w5.setCell ⟨wr.heap.size,0,none⟩ x).setCell ⟨wr.heap.size,1,none⟩ y).setCell ⟨wr.heap.size,2,none⟩ z).setCell ⟨wr.heap.size,3,none⟩ p).setCell ⟨wr.heap.size,4,none⟩ q).setCell ⟨wr.heap.size,5,none⟩ r).alloc (.cells #[a,b,c] 27)) v s ∧ Below wr.heap.size wr (((((((w5.setCell ⟨wr.heap.size,0,none⟩ x).setCell ⟨wr.heap.size,1,none⟩ y).setCell ⟨wr.heap.size,2,none⟩ z).setCell ⟨wr.heap.size,3,none⟩ p).setCell ⟨wr.heap.size,4,none⟩ q).setCell ⟨wr.heap.size,5,none⟩ r).alloc (.cells #[a,b,c] 27)) ∧ wr.heap.size ≤ w5.heap.size:=by
 have hle:=hb.size
 have l0:=(Array.getElem?_eq_some_iff.1 h0).1
 exact ⟨row_new _ _ _ (sz_set6 _ _ _ _ _ _ _ _),((h.set6 h0 _ _ _ _ _ _).alloc _),(below_set6 hb (Nat.le_refl _) _ _ _ _ _ _).alloc (Nat.le_trans hle (Nat.le_of_eq (sz_set6 _ _ _ _ _ _ _ _))) _,hle⟩
theorem round6 {wr w5 : World} {a b c x y z p q r v : Value} {s : St} {B : Nat} (h : StAt (some B) w5 v s) (hb : Below wr.heap.size wr w5) (h0 : w5.heap[wr.heap.size]? = some (.cells #[.int .i64 0,.int .i64 0,.int .i64 0,.bool false,.string ⟨#[]⟩,.slice none 0 0] 31)) (h1 : w5.heap[wr.heap.size + 1]? = some (.cells #[.slice none 0 0,.slice none 0 0,.slice none 0 0] 27)) :
  OutAt (((((((((w5.setCell ⟨(wr.heap.size + 1),0,none⟩ a).setCell ⟨(wr.heap.size + 1),1,none⟩ b).setCell ⟨(wr.heap.size + 1),2,none⟩ c).setCell ⟨wr.heap.size,0,none⟩ x).setCell ⟨wr.heap.size,1,none⟩ y).setCell ⟨wr.heap.size,2,none⟩ z).setCell ⟨wr.heap.size,3,none⟩ p).setCell ⟨wr.heap.size,4,none⟩ q).setCell ⟨wr.heap.size,5,none⟩ r) (wr.heap.size + 1) a b c ∧ StAt (some B) (((((((((w5.setCell ⟨(wr.heap.size + 1),0,none⟩ a).setCell ⟨(wr.heap.size + 1),1,none⟩ b).setCell ⟨(wr.heap.size + 1),2,none⟩ c).setCell ⟨wr.heap.size,0,none⟩ x).setCell ⟨wr.heap.size,1,none⟩ y).setCell ⟨wr.heap.size,2,none⟩ z).setCell ⟨wr.heap.size,3,none⟩ p).setCell ⟨wr.heap.size,4,none⟩ q).setCell ⟨wr.heap.size,5,none⟩ r) v s ∧ Below wr.heap.size wr (((((((((w5.setCell ⟨(wr.heap.size + 1),0,none⟩ a).setCell ⟨(wr.heap.size + 1),1,none⟩ b).setCell ⟨(wr.heap.size + 1),2,none⟩ c).setCell ⟨wr.heap.size,0,none⟩ x).setCell ⟨wr.heap.size,1,none⟩ y).setCell ⟨wr.heap.size,2,none⟩ z).setCell ⟨wr.heap.size,3,none⟩ p).setCell ⟨wr.heap.size,4,none⟩ q).setCell ⟨wr.heap.size,5,none⟩ r) ∧ wr.heap.size ≤ (wr.heap.size + 1):=by
 have hle:=hb.size
 have l0:=(Array.getElem?_eq_some_iff.1 h0).1
 exact ⟨row_far6 (row_three h1 _ _ _) (ne_down _) _ _ _ _ _ _,((h.set3 h1 _ _ _).set6 (row_far3 h0 (ne_up _) _ _ _) _ _ _ _ _ _),below_set6 (below_set3 hb (le_up _) _ _ _) (Nat.le_refl _) _ _ _ _ _ _,le_up _⟩
end Go.Proofs.YtndcloohcfhejaaGreat
