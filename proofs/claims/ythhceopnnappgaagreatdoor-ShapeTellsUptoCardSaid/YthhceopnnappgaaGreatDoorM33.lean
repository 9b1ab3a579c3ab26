/- Parts of the proof, side by side: FsDoAny, DoOk, DoOk2, MoPlain, MoRw. -/
import Derived.Test.YthhceopnnappgaaGreatDoorM22
import Derived.Test.YthhceopnnappgaaGreatDoorStOwn
import Derived.Test.YthhceopnnappgaaGreatDoorM19
import Derived.Test.YthhceopnnappgaaGreatDoorFsMake
import Derived.Test.YthhceopnnappgaaGreatDoorFsCopy
import Derived.Test.YthhceopnnappgaaGreatDoorM05
import Derived.Test.YthhceopnnappgaaGreatDoorM08
import Derived.Deep.RegionHeld3
import Derived.Test.YthhceopnnappgaaGreatDoorM23
import Derived.Test.YthhceopnnappgaaGreatDoorM13
import Derived.Lib.BufferWrite
import Derived.Deep.WholeRow
import Derived.Deep.RegionWith
import Derived.Lib.MinMax
import Derived.Lib.LazyBuf
import Derived.Test.YthhceopnnappgaaGreatDoorM29
import Derived.Test.YthhceopnnappgaaGreatDoorFsMayDoc
import Derived.Test.YthhceopnnappgaaGreatDoorFsDo
import Derived.Outline
import Derived.Deep.CutBlock
import Derived.Test.YthhceopnnappgaaGreatDoorM20
import Derived.Shelf.Spec.SlicesInsert
import Derived.Lib.AppendZerosOnto
set_option linter.unusedVariables false
set_option linter.unusedSimpArgs false
namespace Go.Proofs.YthhceopnnappgaaGreatDoor
open Go.RowKit
section
variable (s : St) (c : Ca) (want : Int) (hm : mayV s = true) (hc0 : 0 ≤ c.core) (hc1 : c.core < (s.made.length : Int))
include hm hc0 hc1
end
structure Dk (a b d : Value) (s : St) (c : Ca) (w0 w : World) : Prop where
 box : OutAt w w0.heap.size a b d
 call : w.heap[w0.heap.size + 1]? = some (caRow c)
 outS : OutAt w (w0.heap.size + 2) (.slice none 0 0) (.slice none 0 0) (.slice none 0 0)
 outR : ResAt w (w0.heap.size + 3) (.int .i64 0) (.int .i64 0) (.int .i64 0) (.bool false) (.string ⟨#[]⟩) (.slice none 0 0)
 st : StAt none w (.agg #[a, b, d]) s
 bel : Below w0.heap.size w0 w
 size : w0.heap.size + 4 ≤ w.heap.size
theorem Dk.below {a b d : Value} {s : St} {c : Ca} {w0 w w' : World} (h : Dk a b d s c w0 w) (hb : Below w.heap.size w w') : Dk a b d s c w0 w' := by
 have hs := h.size
 exact ⟨(hb.block _ (by omega)).trans h.box, (hb.block _ (by omega)).trans h.call, (hb.block _ (by omega)).trans h.outS, (hb.block _ (by omega)).trans h.outR, h.st.below hb, h.bel.trans (hb.mono (by omega)), Nat.le_trans h.size hb.size⟩
theorem Dk.start {w : World} {s : St} {A : Option Addr} {n cp : Nat} {E : Option Addr} {m d : Nat} {D : Option Addr} {k e : Nat} (h : StAt none w (.agg #[.slice A n cp, .slice E m d, .slice D k e]) s) (c : Ca) :
  ∃ W W2 W3 W4, w.alloc (.cells #[.slice A n cp, .slice E m d, .slice D k e] 26) = W ∧ W.alloc (.cells #[.int .i64 c.kind, .int .i64 c.core, .int .i64 c.fd, .int .i64 c.off, .int .i64 c.num, .string c.path, .string c.path2, .string c.data] 40) = W2 ∧
   W2.alloc (.cells #[.slice none 0 0, .slice none 0 0, .slice none 0 0] 26) = W3 ∧ W3.alloc (.cells #[.int .i64 0, .int .i64 0, .int .i64 0, .bool false, .string ⟨#[]⟩, .slice none 0 0] 44) = W4 ∧
   W.heap.size = w.heap.size + 1 ∧ W2.heap.size = w.heap.size + 2 ∧ W3.heap.size = w.heap.size + 3 ∧ Dk (.slice A n cp) (.slice E m d) (.slice D k e) s c w W4 := by
 have h1 : Below w.heap.size w (w.alloc (.cells #[.slice A n cp, .slice E m d, .slice D k e] 26)) := (Below.refl _ _).alloc (Nat.le_refl _) _
 obtain ⟨W2, hW2, hbc, hal, hsz⟩ := box_ca (w.alloc (.cells #[.slice A n cp, .slice E m d, .slice D k e] 26)) c
 have hs1 : (w.alloc (.cells #[.slice A n cp, .slice E m d, .slice D k e] 26)).heap.size = w.heap.size + 1 := by simp
 obtain ⟨W3, hW3⟩ : ∃ W3, W2.alloc (.cells #[.slice none 0 0, .slice none 0 0, .slice none 0 0] 26) = W3 := ⟨_, rfl⟩
 have hal3 : Below W2.heap.size W2 W3 := by rw [← hW3]; exact (Below.refl _ _).alloc (Nat.le_refl _) _
 have hs3 : W3.heap.size = W2.heap.size + 1 := by rw [← hW3]; simp
 have ho3 : W3.heap[W2.heap.size]? = some (.cells #[.slice none 0 0, .slice none 0 0, .slice none 0 0] 26 (0, 0)) := by rw [← hW3]; exact heap_alloc_new W2 _
 have hal4 : Below W3.heap.size W3 (W3.alloc (.cells #[.int .i64 0, .int .i64 0, .int .i64 0, .bool false, .string ⟨#[]⟩, .slice none 0 0] 44)) := (Below.refl _ _).alloc (Nat.le_refl _) _
 have hb34 := Cv.next hal3 hal4
 have hb24 := Cv.next hal hb34
 rw [hs1] at hbc hsz
 refine ⟨_, W2, W3, _, rfl, hW2, hW3, rfl, hs1, by omega, by omega, ?_, ?_, ?_, ?_, h.below (Cv.next h1 hb24), Cv.next h1 hb24, by simp; omega⟩
 ·exact (hb24.block _ (by omega)).trans (heap_alloc_new w _)
 ·exact (hb34.block _ (by omega)).trans hbc
 ·rw [show w.heap.size + 2 = W2.heap.size by omega]; exact (hal4.block _ (by omega)).trans ho3
 ·rw [show w.heap.size + 3 = W3.heap.size by omega]; exact heap_alloc_new W3 _
end Go.Proofs.YthhceopnnappgaaGreatDoor
namespace Go.Proofs.YthhceopnnappgaaGreatDoor
def En1 (e : En) : Prop := e.name.size ≤ 140737488355328 ∧ -9223372036854775808 ≤ e.num ∧ e.num ≤ 9223372036854775807
structure Small (a b c : Nat) (s : St) : Prop where
 il : s.inos.length ≤ a
 io : ∀ x ∈ s.inos, x.ents.length ≤ b ∧ x.data.size ≤ 140737488355328 ∧ (-9223372036854775808 ≤ x.num ∧ x.num ≤ 9223372036854775807) ∧ ∀ e ∈ x.ents, En1 e
 ol : s.opn.length ≤ c
 ml : s.made.length ≤ 8
 mr : ∀ m ∈ s.made, 0 ≤ m ∧ m ≤ 33
theorem bulkE_mul (b : Nat) : ∀ (is : List Ino), (∀ x ∈ is, x.ents.length ≤ b) → bulkE is ≤ is.length * b
 | [], _ => by simp [bulkE]
 | x :: xs, h => by
  have h1 := h x List.mem_cons_self
  have h2 := bulkE_mul b xs (fun y hy => h y (List.mem_cons_of_mem _ hy))
  have e : bulkE (x :: xs) = x.ents.length + bulkE xs := rfl
  rw [e, List.length_cons, Nat.add_mul]
  omega
theorem Small.sized {a b c : Nat} {s : St} (h : Small a b c s) (ha : a ≤ 1000) (hb : b ≤ 1000) (hc : c ≤ 1000) : Sized s := by
 refine ⟨?_, fun x hx => ⟨(h.io x hx).2.1, fun e he => ((h.io x hx).2.2.2 e he).1⟩, ⟨fun x hx => ⟨(h.io x hx).2.2.1.1, (h.io x hx).2.2.1.2, fun e he => ((h.io x hx).2.2.2 e he).2⟩, fun m hm => ?_⟩⟩
 ·have h1 := bulkE_mul b s.inos (fun x hx => (h.io x hx).1)
  have h2 := h.il
  have h3 := h.ol
  have h4 := h.ml
  have h5 : s.inos.length * b ≤ 1000 * 1000 := Nat.mul_le_mul (by omega) hb
  omega
 ·have := h.mr m hm
  omega
theorem Small.more {a b c a' b' c' : Nat} {s : St} (h : Small a b c s) (ha : a ≤ a') (hb : b ≤ b') (hc : c ≤ c') : Small a' b' c' s :=
 ⟨Nat.le_trans h.il ha, fun x hx => ⟨Nat.le_trans (h.io x hx).1 hb, (h.io x hx).2⟩, Nat.le_trans h.ol hc, h.ml, h.mr⟩
theorem Small.ents {a b c : Nat} {s : St} (h : Small a b c s) (dir : Int) (f : List En → List En) (hf : ∀ es, (f es).length ≤ es.length + 1) (hm : ∀ es e, e ∈ f es → e ∈ es ∨ En1 e) : Small a (b + 1) c { s with inos := setEnts s.inos dir f } := by
 refine ⟨by show (setEnts s.inos dir f).length ≤ a; unfold setEnts; rw [List.length_modify]; exact h.il, fun x hx => ?_, h.ol, h.ml, h.mr⟩
 rcases modify_mem _ _ _ _ hx with hx | ⟨z, hz, rfl⟩
 ·have := h.io x hx
  exact ⟨by omega, this.2⟩
 ·have h1 := h.io z hz
  refine ⟨?_, h1.2.1, h1.2.2.1, fun e he => ?_⟩
  ·have := hf z.ents
   show (f z.ents).length ≤ b + 1
   omega
  ·rcases hm _ _ he with h2 | h2
   ·exact h1.2.2.2 e h2
   ·exact h2
theorem putE_mem : ∀ (es : List En) (name : ByteArray) (num : Int) (e : En), e ∈ putE es name num → e ∈ es ∨ e = ⟨name, num⟩
 | [], name, num, e, h => by
  have : e = ⟨name, num⟩ := by simpa [putE] using h
  exact .inr this
 | y :: es, name, num, e, h => by
  unfold putE at h
  split at h
  ·rcases List.mem_cons.1 h with h | h
   ·exact .inr h
   ·exact .inl h
  ·rcases List.mem_cons.1 h with rfl | h
   ·exact .inl List.mem_cons_self
   ·rcases putE_mem es name num e h with h | h
    ·exact .inl (List.mem_cons_of_mem _ h)
    ·exact .inr h
theorem Small.put {a b c : Nat} {s : St} (h : Small a b c s) (dir : Int) (name : ByteArray) (num : Int) (hn : En1 ⟨name, num⟩) : Small a (b + 1) c { s with inos := setEnts s.inos dir fun es => putE es name num } :=
 h.ents dir _ (fun es => by rw [putE_len]; omega) (fun es e he => by
  rcases putE_mem es name num e he with h | h
  ·exact .inl h
  ·exact .inr (h ▸ hn))
theorem putI_mem : ∀ (is : List Ino) (y x : Ino), x ∈ putI is y → x ∈ is ∨ x = y
 | [], y, x, h => by
  have : x = y := by simpa [putI] using h
  exact .inr this
 | z :: zs, y, x, h => by
  unfold putI at h
  split at h
  ·rcases List.mem_cons.1 h with h | h
   ·exact .inr h
   ·exact .inl h
  ·rcases List.mem_cons.1 h with rfl | h
   ·exact .inl List.mem_cons_self
   ·rcases putI_mem zs y x h with h | h
    ·exact .inl (List.mem_cons_of_mem _ h)
    ·exact .inr h
theorem putI_len : ∀ (is : List Ino) (y : Ino), (putI is y).length = is.length + 1
 | [], _ => rfl
 | z :: zs, y => by
  unfold putI
  split
  ·rfl
  ·rw [List.length_cons, putI_len zs y, List.length_cons]
theorem Small.putI {a b c : Nat} {s : St} (h : Small a b c s) (y : Ino) (hy : y.ents = []) (hd : y.data.size ≤ 140737488355328) (hn : -9223372036854775808 ≤ y.num ∧ y.num ≤ 9223372036854775807) : Small (a + 1) b c { s with inos := Go.Proofs.YthhceopnnappgaaGreatDoor.putI s.inos y } := by
 refine ⟨by show (Go.Proofs.YthhceopnnappgaaGreatDoor.putI s.inos y).length ≤ a + 1; rw [putI_len]; have := h.il; omega, fun x hx => ?_, h.ol, h.ml, h.mr⟩
 rcases putI_mem _ _ _ hx with hx | rfl
 ·exact h.io x hx
 ·exact ⟨by rw [hy]; simp, hd, hn, by rw [hy]; intro e he; simp at he⟩
theorem Good.whole {s : St} (h : Good s) : Whole s.inos := may_whole ((good_iff s).2 h)
theorem Small.opn {a b c : Nat} {s : St} (h : Small a b c s) (ds : List Ds) (hd : ds.length ≤ c + 1) : Small a b (c + 1) { s with opn := ds } := ⟨h.il, h.io, hd, h.ml, h.mr⟩
theorem Small.made {a b c : Nat} {s : St} (h : Small a b c s) (xs : List Int) (hl : xs.length ≤ 8) (hr : ∀ m ∈ xs, 0 ≤ m ∧ m ≤ 33) : Small a b c { s with made := xs } := ⟨h.il, h.io, h.ol, hl, hr⟩
theorem EnPos.tail {e : En} {t : List En} {nm : ByteArray} {i : Nat} {b : Bool} (h : EnPos (e :: t) nm (i + 1) b) : EnPos t nm i b :=
 ⟨by have := h.le; simp at this; omega, fun k x hk hx => h.lo (k + 1) x (by omega) (by simpa using hx), fun k x hk hx => h.hi (k + 1) x (by omega) (by simpa using hx), fun hb => by
  obtain ⟨x, hx, hn⟩ := h.is_ hb
  exact ⟨x, by simpa using hx, hn⟩, fun hb => by
  obtain ⟨x, hx, hn⟩ := hb
  exact h.of_ ⟨x, by simpa using hx, hn⟩⟩
theorem EnPos.head {e : En} {t : List En} {nm : ByteArray} {i : Nat} {b : Bool} (h : EnPos (e :: t) nm (i + 1) b) : ltN e.name nm = true := h.lo 0 e (by omega) rfl
theorem RiseE.tail {e : En} {t : List En} (h : RiseE (e :: t)) : RiseE t := fun i j x y hij hx hy => h (i + 1) (j + 1) x y (by omega) (by simpa using hx) (by simpa using hy)
theorem entsG_rise (is : List Ino) : ∀ (es : List En) (p : Option ByteArray) (many : Nat → Nat), entsG is es p many = true → RiseE es ∧ ∀ q x, p = some q → es[0]? = some x → ltN q x.name = true
 | [], p, many, h => ⟨fun i j x y _ hx => by simp at hx, fun q x _ hx => by simp at hx⟩
 | e :: es, p, many, h => by
  unfold entsG at h
  by_cases h1 : entBad is p e = true
  ·rw [if_pos h1] at h; cases h
  ·rw [if_neg h1] at h
   by_cases h2 : 4 < many (bktB e.name) + 1
   ·rw [if_pos h2] at h; cases h
   ·rw [if_neg h2] at h
    obtain ⟨r1, r2⟩ := entsG_rise is es (some e.name) _ h
    have key : ∀ (j : Nat) (y : En), es[j]? = some y → ltN e.name y.name = true := by
     intro j
     induction j with
     | zero => intro y hy; exact r2 _ _ rfl hy
     | succ j ih =>
      intro y hy
      have hjl : j < es.length := by have := (List.getElem?_eq_some_iff.1 hy).1; omega
      exact ltN_trans (ih _ (List.getElem?_eq_getElem hjl)) (r1 j (j + 1) _ _ (by omega) (List.getElem?_eq_getElem hjl) hy)
    refine ⟨fun i j x y hij hx hy => ?_, fun q x hp hx => ?_⟩
    ·cases j with
     | zero => omega
     | succ j =>
      have hy2 : es[j]? = some y := by simpa using hy
      cases i with
      | zero =>
       have : e = x := by simpa using hx
       subst this
       exact key j y hy2
      | succ i => exact r1 i j x y (by omega) (by simpa using hx) hy2
    ·have : e = x := by simpa using hx
     subst this
     subst hp
     cases h3 : ltN q e.name
     ·exfalso
      apply h1
      unfold entBad
      simp [h3]
     ·rfl
theorem Good.riseI {s : St} (h : Good s) : RiseI s.inos := fun i j x y hij hx hy => by
 obtain ⟨hi, rfl⟩ := List.getElem?_eq_some_iff.1 hx
 obtain ⟨hj, rfl⟩ := List.getElem?_eq_some_iff.1 hy
 exact List.pairwise_iff_getElem.1 h.rise i j hi hj hij
theorem RiseI.tail {e : Ino} {t : List Ino} (h : RiseI (e :: t)) : RiseI t := fun i j x y hij hx hy => h (i + 1) (j + 1) x y (by omega) (by simpa using hx) (by simpa using hy)
end Go.Proofs.YthhceopnnappgaaGreatDoor
namespace Go.Proofs.YthhceopnnappgaaGreatDoor
open Go.RowKit
theorem row_cells {w : World} {g : Nat} {cur : Array Value} {t : TypeId} (hg : w.heap[g]? = some (.cells cur t (0, 0))) (o : Nat) (cs : List Value) (h : ∀ j v, cs[j]? = some v → cur[o + j]? = some v) : ∀ j v, cs[j]? = some v → w.cell? ((⟨g, o, none⟩ : Addr).add j) = some v := fun j v hj => by
 rw [Addr.add_lit, cell_of_row w g _ _ _ (0, 0) hg]
 exact h j v hj
theorem rw_none {a b : World} {r : Option Nat} (h : Below a.heap.size a b) : a.grownBy b r := ⟨h.os, h.tape, h.output, h.size, fun i hi _ => h.block i hi⟩
def RowAt (B : Nat) (w : World) (e : TypeId) (k : Nat) (v : Value) (n : Nat) (xs : List Value) : Prop :=
 xs.length = n * k ∧ ((∃ A, v = .slice A 0 0 ∧ n = 0) ∨ ∃ g cap cur, v = .slice (some ⟨g, 0, none⟩) n cap ∧ 0 < cap ∧ B ≤ g ∧ w.heap[g]? = some (.cells cur e (0, 0)) ∧ n ≤ cap ∧ cap ≤ maxLen ∧ cur.size = cap * k ∧ cur.toList.take (n * k) = xs)
def rowBlk : Value → Option Nat
 | .slice (some a) _ c => if c = 0 then none else some a.block
 | _ => none
theorem RowAt.kept {B : Nat} {w w' : World} {e : TypeId} {k : Nat} {v : Value} {n : Nat} {xs : List Value} {r : Option Nat} (h : RowAt B w e k v n xs) (hg : w.grownBy w' r) (hr : ∀ b, rowBlk v = some b → r ≠ some b) : RowAt B w' e k v n xs := by
 refine ⟨h.1, ?_⟩
 rcases h.2 with h0 | ⟨g, cap, cur, rfl, hc, hB, hgg, rest⟩
 ·exact .inl h0
 ·refine .inr ⟨g, cap, cur, rfl, hc, hB, ?_, rest⟩
  rw [hg.block g (Array.getElem?_eq_some_iff.1 hgg).1 (fun e => hr g (by simp [rowBlk, Nat.ne_of_gt hc]) e.symm)]
  exact hgg
theorem RowAt.cellsOf {B : Nat} {w : World} {e : TypeId} {k : Nat} {g n cap : Nat} {xs : List Value} (h : RowAt B w e k (.slice (some ⟨g, 0, none⟩) n cap) n xs) : ∀ j u, xs[j]? = some u → w.cell? ((⟨g, 0, none⟩ : Addr).add j) = some u := by
 rcases h.2 with ⟨A, hA, h0⟩ | ⟨g', cap', cur, hv, hc, hB, hg, hn, hm, hs, ht⟩
 ·have : xs = [] := List.length_eq_zero_iff.1 (by rw [h.1, h0, Nat.zero_mul])
  rw [this]
  intro j u hj
  simp at hj
 ·injection hv with e1 e2 e3
  injection e1 with e1
  injection e1 with e1
  subst e1 e3
  refine row_cells hg 0 xs (fun j u hj => ?_)
  rw [← ht, List.getElem?_take] at hj
  split at hj
  ·rw [Nat.zero_add]; simpa using hj
  ·cases hj
end Go.Proofs.YthhceopnnappgaaGreatDoor
