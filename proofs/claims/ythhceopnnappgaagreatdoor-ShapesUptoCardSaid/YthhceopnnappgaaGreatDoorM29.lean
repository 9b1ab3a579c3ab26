/- Parts of the proof, side by side: DoOk, DoOk2, MoPlain, MoRw, MoOwn, MoAt, MoFile, MoPlain2. -/
import Derived.Test.YthhceopnnappgaaGreatDoorM28
import Derived.Test.YthhceopnnappgaaGreatDoorM18
import Derived.Test.YthhceopnnappgaaGreatDoorM19
import Derived.Test.YthhceopnnappgaaGreatDoorStOwn
import Derived.Shelf.Spec.SlicesInsert
import Derived.Lib.AppendZerosOnto
import Derived.Test.YthhceopnnappgaaGreatDoorM08
import Derived.Test.YthhceopnnappgaaGreatDoorM05
import Derived.Test.YthhceopnnappgaaGreatDoorM00
import Derived.WalkLawsBesides
import Derived.Handy
import Derived.Test.YthhceopnnappgaaGreatDoorRefParse
import Derived.Test.YthhceopnnappgaaGreatDoorM04
import Derived.Lib.OthersKept
import Derived.WalkSmall
import Derived.Deep.RegionHeld3
import Derived.Test.YthhceopnnappgaaGreatDoorM24
set_option linter.unusedVariables false
set_option linter.unusedSimpArgs false
namespace Go.Proofs.YthhceopnnappgaaGreatDoor
def En1 (e : En) : Prop := e.name.size ≤ 140737488355328 ∧ -9223372036854775808 ≤ e.num ∧ e.num ≤ 9223372036854775807
structure Small (a b c : Nat) (s : St) : Prop where
 il : s.inos.length ≤ a
 io : ∀ x ∈ s.inos, x.ents.length ≤ b ∧ x.data.size ≤ 140737488355328 ∧ (-9223372036854775808 ≤ x.num ∧ x.num ≤ 9223372036854775807) ∧ ∀ e ∈ x.ents, En1 e
 ol : s.opn.length ≤ c
 ml : s.made.length ≤ 8
 mr : ∀ m ∈ s.made, 0 ≤ m ∧ m ≤ 33
theorem bulkE_mul (b : Nat) : ∀ (is : List Ino), (∀ x ∈ is, x.ents.length ≤ b) → bulkE is ≤ is.length * b
 | [], _ => by simp [bulkE]
 | x :: xs, h => by
  have h1 := h x List.mem_cons_self
  have h2 := bulkE_mul b xs (fun y hy => h y (List.mem_cons_of_mem _ hy))
  have e : bulkE (x :: xs) = x.ents.length + bulkE xs := rfl
  rw [e, List.length_cons, Nat.add_mul]
  omega
theorem Small.sized {a b c : Nat} {s : St} (h : Small a b c s) (ha : a ≤ 1000) (hb : b ≤ 1000) (hc : c ≤ 1000) : Sized s := by
 refine ⟨?_, fun x hx => ⟨(h.io x hx).2.1, fun e he => ((h.io x hx).2.2.2 e he).1⟩, ⟨fun x hx => ⟨(h.io x hx).2.2.1.1, (h.io x hx).2.2.1.2, fun e he => ((h.io x hx).2.2.2 e he).2⟩, fun m hm => ?_⟩⟩
 ·have h1 := bulkE_mul b s.inos (fun x hx => (h.io x hx).1)
  have h2 := h.il
  have h3 := h.ol
  have h4 := h.ml
  have h5 : s.inos.length * b ≤ 1000 * 1000 := Nat.mul_le_mul (by omega) hb
  omega
 ·have := h.mr m hm
  omega
theorem Good.small {s : St} (h : Good s) : Small 257 32 32 s := by
 have hm := (good_iff s).2 h
 have hf := may_facts hm
 refine ⟨h.len, fun x hx => ⟨h.ents_len hx, ?_, ?_, fun e he => ⟨?_, ?_, ?_⟩⟩, h.opn_len, h.m8, fun m hm => ?_⟩
 ·have := (hf.data x hx).1; omega
 ·have := hf.nums x hx; omega
 ·have := (hf.data x hx).2 e he; omega
 ·have h1 := (hf.linked x hx).2 e he
  obtain ⟨y, hy, hn⟩ := atV_lt (is := s.inos) (t := e.num) (k := (atV s.inos e.num).toNat) (by omega)
  have := hf.nums y (List.mem_of_getElem? hy)
  omega
 ·have h1 := (hf.linked x hx).2 e he
  obtain ⟨y, hy, hn⟩ := atV_lt (is := s.inos) (t := e.num) (k := (atV s.inos e.num).toNat) (by omega)
  have := hf.nums y (List.mem_of_getElem? hy)
  omega
 ·have := h.mr m hm; omega
theorem Small.more {a b c a' b' c' : Nat} {s : St} (h : Small a b c s) (ha : a ≤ a') (hb : b ≤ b') (hc : c ≤ c') : Small a' b' c' s :=
 ⟨Nat.le_trans h.il ha, fun x hx => ⟨Nat.le_trans (h.io x hx).1 hb, (h.io x hx).2⟩, Nat.le_trans h.ol hc, h.ml, h.mr⟩
theorem Small.ents {a b c : Nat} {s : St} (h : Small a b c s) (dir : Int) (f : List En → List En) (hf : ∀ es, (f es).length ≤ es.length + 1) (hm : ∀ es e, e ∈ f es → e ∈ es ∨ En1 e) : Small a (b + 1) c { s with inos := setEnts s.inos dir f } := by
 refine ⟨by show (setEnts s.inos dir f).length ≤ a; unfold setEnts; rw [List.length_modify]; exact h.il, fun x hx => ?_, h.ol, h.ml, h.mr⟩
 rcases modify_mem _ _ _ _ hx with hx | ⟨z, hz, rfl⟩
 ·have := h.io x hx
  exact ⟨by omega, this.2⟩
 ·have h1 := h.io z hz
  refine ⟨?_, h1.2.1, h1.2.2.1, fun e he => ?_⟩
  ·have := hf z.ents
   show (f z.ents).length ≤ b + 1
   omega
  ·rcases hm _ _ he with h2 | h2
   ·exact h1.2.2.2 e h2
   ·exact h2
theorem putE_mem : ∀ (es : List En) (name : ByteArray) (num : Int) (e : En), e ∈ putE es name num → e ∈ es ∨ e = ⟨name, num⟩
 | [], name, num, e, h => by
  have : e = ⟨name, num⟩ := by simpa [putE] using h
  exact .inr this
 | y :: es, name, num, e, h => by
  unfold putE at h
  split at h
  ·rcases List.mem_cons.1 h with h | h
   ·exact .inr h
   ·exact .inl h
  ·rcases List.mem_cons.1 h with rfl | h
   ·exact .inl List.mem_cons_self
   ·rcases putE_mem es name num e h with h | h
    ·exact .inl (List.mem_cons_of_mem _ h)
    ·exact .inr h
theorem Small.put {a b c : Nat} {s : St} (h : Small a b c s) (dir : Int) (name : ByteArray) (num : Int) (hn : En1 ⟨name, num⟩) : Small a (b + 1) c { s with inos := setEnts s.inos dir fun es => putE es name num } :=
 h.ents dir _ (fun es => by rw [putE_len]; omega) (fun es e he => by
  rcases putE_mem es name num e he with h | h
  ·exact .inl h
  ·exact .inr (h ▸ hn))
theorem putI_mem : ∀ (is : List Ino) (y x : Ino), x ∈ putI is y → x ∈ is ∨ x = y
 | [], y, x, h => by
  have : x = y := by simpa [putI] using h
  exact .inr this
 | z :: zs, y, x, h => by
  unfold putI at h
  split at h
  ·rcases List.mem_cons.1 h with h | h
   ·exact .inr h
   ·exact .inl h
  ·rcases List.mem_cons.1 h with rfl | h
   ·exact .inl List.mem_cons_self
   ·rcases putI_mem zs y x h with h | h
    ·exact .inl (List.mem_cons_of_mem _ h)
    ·exact .inr h
theorem putI_len : ∀ (is : List Ino) (y : Ino), (putI is y).length = is.length + 1
 | [], _ => rfl
 | z :: zs, y => by
  unfold putI
  split
  ·rfl
  ·rw [List.length_cons, putI_len zs y, List.length_cons]
theorem Small.putI {a b c : Nat} {s : St} (h : Small a b c s) (y : Ino) (hy : y.ents = []) (hd : y.data.size ≤ 140737488355328) (hn : -9223372036854775808 ≤ y.num ∧ y.num ≤ 9223372036854775807) : Small (a + 1) b c { s with inos := Go.Proofs.YthhceopnnappgaaGreatDoor.putI s.inos y } := by
 refine ⟨by show (Go.Proofs.YthhceopnnappgaaGreatDoor.putI s.inos y).length ≤ a + 1; rw [putI_len]; have := h.il; omega, fun x hx => ?_, h.ol, h.ml, h.mr⟩
 rcases putI_mem _ _ _ hx with hx | rfl
 ·exact h.io x hx
 ·exact ⟨by rw [hy]; simp, hd, hn, by rw [hy]; intro e he; simp at he⟩
theorem Good.whole {s : St} (h : Good s) : Whole s.inos := may_whole ((good_iff s).2 h)
theorem Small.opn {a b c : Nat} {s : St} (h : Small a b c s) (ds : List Ds) (hd : ds.length ≤ c + 1) : Small a b (c + 1) { s with opn := ds } := ⟨h.il, h.io, hd, h.ml, h.mr⟩
theorem Small.made {a b c : Nat} {s : St} (h : Small a b c s) (xs : List Int) (hl : xs.length ≤ 8) (hr : ∀ m ∈ xs, 0 ≤ m ∧ m ≤ 33) : Small a b c { s with made := xs } := ⟨h.il, h.io, h.ol, hl, hr⟩
theorem EnPos.tail {e : En} {t : List En} {nm : ByteArray} {i : Nat} {b : Bool} (h : EnPos (e :: t) nm (i + 1) b) : EnPos t nm i b :=
 ⟨by have := h.le; simp at this; omega, fun k x hk hx => h.lo (k + 1) x (by omega) (by simpa using hx), fun k x hk hx => h.hi (k + 1) x (by omega) (by simpa using hx), fun hb => by
  obtain ⟨x, hx, hn⟩ := h.is_ hb
  exact ⟨x, by simpa using hx, hn⟩, fun hb => by
  obtain ⟨x, hx, hn⟩ := hb
  exact h.of_ ⟨x, by simpa using hx, hn⟩⟩
theorem EnPos.head {e : En} {t : List En} {nm : ByteArray} {i : Nat} {b : Bool} (h : EnPos (e :: t) nm (i + 1) b) : ltN e.name nm = true := h.lo 0 e (by omega) rfl
theorem RiseE.tail {e : En} {t : List En} (h : RiseE (e :: t)) : RiseE t := fun i j x y hij hx hy => h (i + 1) (j + 1) x y (by omega) (by simpa using hx) (by simpa using hy)
theorem RiseI.tail {e : Ino} {t : List Ino} (h : RiseI (e :: t)) : RiseI t := fun i j x y hij hx hy => h (i + 1) (j + 1) x y (by omega) (by simpa using hx) (by simpa using hy)
end Go.Proofs.YthhceopnnappgaaGreatDoor
namespace Go.Proofs.YthhceopnnappgaaGreatDoor
open Go.RowKit
theorem step_append_runI {P : Program} {ops : Array Oper} {o : Oper} {a : Act} {w : World} {K : Act → World → Prop} {Q : Exit → Act → World → Prop} {E : Prop}
  (hg : o.guard = none) (s x : Operand) (t : TypeId) (hop : o.op = Op.call { callee := Callee.builtin Builtin.append, args := #[s, x], argTypes := #[t, t] })
  (v u : Value) (hs : a.eval s = v) (hx : a.eval x = u) {v' : Value} {w' : World} (hr : (Builtin.append_ #[t, t] o.type #[v, u]).run P w = .ok v' w') (hK : K (a.put o.dst v') w') :
  if Region.wanted o (yielded ops a.tmps) = true then Oper.wp P o a w K Q else E := by
 have hw : Region.wanted o (yielded ops a.tmps) = true := by simp [Region.wanted, hg]
 rw [if_pos hw]
 unfold Oper.wp
 simp [execOp, hop, resolve, invoke, builtin, hs, hx, hr, Result.andThen]
 exact hK
theorem row_cells {w : World} {g : Nat} {cur : Array Value} {t : TypeId} (hg : w.heap[g]? = some (.cells cur t (0, 0))) (o : Nat) (cs : List Value) (h : ∀ j v, cs[j]? = some v → cur[o + j]? = some v) : ∀ j v, cs[j]? = some v → w.cell? ((⟨g, o, none⟩ : Addr).add j) = some v := fun j v hj => by
 rw [Addr.add_lit, cell_of_row w g _ _ _ (0, 0) hg]
 exact h j v hj
theorem rw_none {a b : World} {r : Option Nat} (h : Below a.heap.size a b) : a.grownBy b r := ⟨h.os, h.tape, h.output, h.size, fun i hi _ => h.block i hi⟩
def RowAt (B : Nat) (w : World) (e : TypeId) (k : Nat) (v : Value) (n : Nat) (xs : List Value) : Prop :=
 xs.length = n * k ∧ ((∃ A, v = .slice A 0 0 ∧ n = 0) ∨ ∃ g cap cur, v = .slice (some ⟨g, 0, none⟩) n cap ∧ 0 < cap ∧ B ≤ g ∧ w.heap[g]? = some (.cells cur e (0, 0)) ∧ n ≤ cap ∧ cap ≤ maxLen ∧ cur.size = cap * k ∧ cur.toList.take (n * k) = xs)
def rowBlk : Value → Option Nat
 | .slice (some a) _ c => if c = 0 then none else some a.block
 | _ => none
theorem RowAt.kept {B : Nat} {w w' : World} {e : TypeId} {k : Nat} {v : Value} {n : Nat} {xs : List Value} {r : Option Nat} (h : RowAt B w e k v n xs) (hg : w.grownBy w' r) (hr : ∀ b, rowBlk v = some b → r ≠ some b) : RowAt B w' e k v n xs := by
 refine ⟨h.1, ?_⟩
 rcases h.2 with h0 | ⟨g, cap, cur, rfl, hc, hB, hgg, rest⟩
 ·exact .inl h0
 ·refine .inr ⟨g, cap, cur, rfl, hc, hB, ?_, rest⟩
  rw [hg.block g (Array.getElem?_eq_some_iff.1 hgg).1 (fun e => hr g (by simp [rowBlk, Nat.ne_of_gt hc]) e.symm)]
  exact hgg
theorem RowAt.cellsOf {B : Nat} {w : World} {e : TypeId} {k : Nat} {g n cap : Nat} {xs : List Value} (h : RowAt B w e k (.slice (some ⟨g, 0, none⟩) n cap) n xs) : ∀ j u, xs[j]? = some u → w.cell? ((⟨g, 0, none⟩ : Addr).add j) = some u := by
 rcases h.2 with ⟨A, hA, h0⟩ | ⟨g', cap', cur, hv, hc, hB, hg, hn, hm, hs, ht⟩
 ·have : xs = [] := List.length_eq_zero_iff.1 (by rw [h.1, h0, Nat.zero_mul])
  rw [this]
  intro j u hj
  simp at hj
 ·injection hv with e1 e2 e3
  injection e1 with e1
  injection e1 with e1
  subst e1 e3
  refine row_cells hg 0 xs (fun j u hj => ?_)
  rw [← ht, List.getElem?_take] at hj
  split at hj
  ·rw [Nat.zero_add]; simpa using hj
  ·cases hj
theorem RowAt.slice {B : Nat} {w : World} {e : TypeId} {k : Nat} {v : Value} {n : Nat} {xs : List Value} (h : RowAt B w e k v n xs) : ∃ A c, v = .slice A n c ∧ SlOk A n c := by
 rcases h.2 with ⟨A, rfl, rfl⟩ | ⟨g, cap, cur, rfl, hc, hB, hg, hn, hm, hs, ht⟩
 ·exact ⟨A, 0, rfl, Nat.le_refl _, fun _ => rfl⟩
 ·exact ⟨_, cap, rfl, hn, fun e => by cases e⟩
theorem RowAt.open_ {B : Nat} {w : World} {e : TypeId} {k : Nat} {v : Value} {n : Nat} {xs : List Value} (h : RowAt B w e k v n xs) (hn : 0 < n) : ∃ g c cur, v = .slice (some ⟨g, 0, none⟩) n c ∧ rowBlk v = some g ∧ B ≤ g ∧ g < w.heap.size ∧ w.heap[g]? = some (.cells cur e (0, 0)) ∧ n * k ≤ cur.size ∧ ∀ j u, xs[j]? = some u → w.cell? ⟨g, j, none⟩ = some u := by
 have h0 := h
 rcases h.2 with ⟨A, rfl, rfl⟩ | ⟨g, cap, cur, rfl, hc, hB, hg, hnc, hm, hs, ht⟩
 ·omega
 ·refine ⟨g, cap, cur, rfl, by simp [rowBlk, Nat.ne_of_gt hc], hB, (Array.getElem?_eq_some_iff.1 hg).1, hg, by rw [hs]; exact Nat.mul_le_mul_right _ hnc, fun j u hj => ?_⟩
  have := h0.cellsOf j u hj
  rwa [Addr.add_lit, Nat.zero_add] at this
theorem RowAt.ents {B : Nat} {w : World} {v : Value} {n : Nat} {es : List En} (h : RowAt B w 84 2 v n (es.flatMap enV)) : ∃ A c, v = .slice A n c ∧ SlOk A n c ∧ EntsAt none w A n es := by
 obtain ⟨A, c, hv, hok⟩ := h.slice
 have hl : es.length = n := by
  have h1 := h.1
  rw [flat_len enV 2 (fun x => rfl)] at h1
  omega
 refine ⟨A, c, hv, hok, hl, fun h0 => ?_⟩
 obtain ⟨g, c', cur, hv', _, _, hlt, _, _, hc⟩ := h.open_ h0
 rw [hv] at hv'
 injection hv' with e1 _ _
 refine ⟨g, 0, e1, hlt, Mine.any _ _ _, fun j e he => ?_⟩
 have f := flat_get enV 2 (fun x => rfl) es j e he
 rw [Nat.zero_add]
 exact ⟨hc _ _ (f 0 (by omega)), hc _ _ (f 1 (by omega))⟩
theorem RowAt.descs {B : Nat} {w : World} {v : Value} {n : Nat} {ds : List Ds} (h : RowAt B w 67 3 v n (ds.flatMap dsV)) : ∃ A c, v = .slice A n c ∧ SlOk A n c ∧ DescsAt none w A n ds := by
 obtain ⟨A, c, hv, hok⟩ := h.slice
 have hl : ds.length = n := by
  have h1 := h.1
  rw [flat_len dsV 3 (fun x => rfl)] at h1
  omega
 refine ⟨A, c, hv, hok, hl, fun h0 => ?_⟩
 obtain ⟨g, c', cur, hv', _, _, hlt, _, _, hc⟩ := h.open_ h0
 rw [hv] at hv'
 injection hv' with e1 _ _
 refine ⟨g, 0, e1, hlt, Mine.any _ _ _, fun j e he => ?_⟩
 have f := flat_get dsV 3 (fun x => rfl) ds j e he
 rw [Nat.zero_add]
 exact ⟨hc _ _ (f 0 (by omega)), hc _ _ (f 1 (by omega)), hc _ _ (f 2 (by omega))⟩
def intV (x : Int) : Value := .int .i64 x
theorem RowAt.ints {B : Nat} {w : World} {v : Value} {n : Nat} {xs : List Int} (h : RowAt B w 3 1 v n (xs.map intV)) : ∃ A c, v = .slice A n c ∧ SlOk A n c ∧ IntsAt none w A n xs := by
 obtain ⟨A, c, hv, hok⟩ := h.slice
 have hl : xs.length = n := by have h1 := h.1; simpa using h1
 refine ⟨A, c, hv, hok, hl, fun h0 => ?_⟩
 obtain ⟨g, c', cur, hv', _, _, hlt, _, _, hc⟩ := h.open_ h0
 rw [hv] at hv'
 injection hv' with e1 _ _
 refine ⟨g, 0, e1, hlt, Mine.any _ _ _, fun j e he => ?_⟩
 rw [Nat.zero_add]
 exact hc _ _ (by rw [List.getElem?_map, he]; rfl)
def Apart (zs : List (Ino × Value)) : Prop := ∀ (i j : Nat) (a b : Ino × Value), i ≠ j → zs[i]? = some a → zs[j]? = some b → ∀ g, rowBlk a.2 = some g → rowBlk b.2 ≠ some g
structure Own2 (B : Nat) (w : World) (p : Nat) (s : St) (zs : List (Ino × Value)) (vI vO vM : Value) : Prop where
 hp : B ≤ p
 cell : w.heap[p]? = some (.cells #[vI, vO, vM] 26 (0, 0))
 inos : zs.map Prod.fst = s.inos
 rowI : RowAt B w 52 4 vI zs.length (zs.flatMap inoV)
 ents : ∀ z ∈ zs, RowAt B w 84 2 z.2 z.1.ents.length (z.1.ents.flatMap enV)
 apart : Apart zs
 rowO : RowAt B w 67 3 vO s.opn.length (s.opn.flatMap dsV)
 rowM : RowAt B w 3 1 vM s.made.length (s.made.map intV)
 sized : Sized s
theorem Own2.inosAt {B : Nat} {w : World} {p : Nat} {s : St} {zs : List (Ino × Value)} {vI vO vM : Value} (h : Own2 B w p s zs vI vO vM) : ∃ A c, vI = .slice A s.inos.length c ∧ SlOk A s.inos.length c ∧ InosAt none w A s.inos.length s.inos := by
 have hl : s.inos.length = zs.length := by rw [← h.inos, List.length_map]
 obtain ⟨A, c, hv, hok⟩ := h.rowI.slice
 rw [← hl] at hv hok
 refine ⟨A, c, hv, hok, rfl, fun h0 => ?_⟩
 obtain ⟨g, c', cur, hv', _, _, hlt, _, _, hc⟩ := h.rowI.open_ (by omega)
 rw [hv] at hv'
 injection hv' with e1 _ _
 refine ⟨g, 0, e1, hlt, Mine.any _ _ _, fun j x hx => ?_⟩
 rw [← h.inos, List.getElem?_map] at hx
 obtain ⟨z, hz, rfl⟩ := Option.map_eq_some_iff.1 hx
 have f := flat_get inoV 4 (fun x => rfl) zs j z hz
 obtain ⟨E, m, he, hmd, hE⟩ := (h.ents z (List.mem_of_getElem? hz)).ents
 rw [Nat.zero_add]
 refine ⟨hc _ _ (f 0 (by omega)), hc _ _ (f 1 (by omega)), ⟨E, z.1.ents.length, m, ?_, hmd, hE⟩, hc _ _ (f 3 (by omega))⟩
 rw [← he]
 exact hc _ _ (f 2 (by omega))
theorem Own2.ptr {B : Nat} {w : World} {p : Nat} {s : St} {zs : List (Ino × Value)} {vI vO vM : Value} (h : Own2 B w p s zs vI vO vM) : PtrAt w p s := by
 obtain ⟨A, c, hA, hAo, hAI⟩ := h.inosAt
 obtain ⟨E, d, hE, hEo, hED⟩ := h.rowO.descs
 obtain ⟨M, k, hM, hMo, hMI⟩ := h.rowM.ints
 refine ⟨⟨A, _, c, E, _, d, M, _, k, ?_, hAI, hED, hMI, hAo, hEo, hMo⟩, h.sized⟩
 rw [← hA, ← hE, ← hM]
 exact h.cell
theorem Own2.below {B : Nat} {w w' : World} {p : Nat} {s : St} {zs : List (Ino × Value)} {vI vO vM : Value} (h : Own2 B w p s zs vI vO vM) (hb : Below w.heap.size w w') : Own2 B w' p s zs vI vO vM := by
 have hg : w.grownBy w' none := rw_none hb
 have hn : ∀ (v : Value) (b : Nat), rowBlk v = some b → (none : Option Nat) ≠ some b := fun v b _ => by simp
 exact ⟨h.hp, (hb.block p (Array.getElem?_eq_some_iff.1 h.cell).1).trans h.cell, h.inos, h.rowI.kept hg (hn _), fun z hz => (h.ents z hz).kept hg (hn _), h.apart, h.rowO.kept hg (hn _), h.rowM.kept hg (hn _), h.sized⟩
structure Turns (B p : Nat) (w w' : World) : Prop where
 below : Below B w w'
 keep : ∀ (b : Nat) (cur : Array Value) (t : TypeId), w.heap[b]? = some (.cells cur t (0, 0)) → 52 ≠ t → 84 ≠ t → 67 ≠ t → 3 ≠ t → b ≠ p → w'.heap[b]? = w.heap[b]?
theorem Turns.trans {B p : Nat} {a b c : World} (h : Turns B p a b) (k : Turns B p b c) : Turns B p a c :=
 ⟨h.below.trans k.below, fun x cur t hx h1 h2 h3 h4 h5 => (k.keep x cur t ((h.keep x cur t hx h1 h2 h3 h4 h5).trans hx) h1 h2 h3 h4 h5).trans (h.keep x cur t hx h1 h2 h3 h4 h5)⟩
theorem Turns.of_below {B p : Nat} {w w' : World} (h : Below w.heap.size w w') (hB : B ≤ w.heap.size) : Turns B p w w' :=
 ⟨h.mono hB, fun b cur t hb _ _ _ _ _ => h.block b (Array.getElem?_eq_some_iff.1 hb).1⟩
theorem RowAt.set {B : Nat} {w : World} {e : TypeId} {k : Nat} {g n c : Nat} {xs : List Value} (h : RowAt B w e k (.slice (some ⟨g, 0, none⟩) n c) n xs) (j : Nat) (u : Value) (hj : j < n * k) : RowAt B (w.setCell ⟨g, j, none⟩ u) e k (.slice (some ⟨g, 0, none⟩) n c) n (xs.set j u) := by
 refine ⟨by rw [List.length_set]; exact h.1, ?_⟩
 rcases h.2 with ⟨A, hA, rfl⟩ | ⟨g', cap, cur, hv, hc, hB, hg, hnc, hm, hs, ht⟩
 ·omega
 ·injection hv with e1 e2 e3
  injection e1 with e1
  injection e1 with e1
  subst e1 e3
  refine .inr ⟨g, c, cur.setIfInBounds j u, rfl, hc, hB, ?_, hnc, hm, by simpa using hs, ?_⟩
  ·rw [heap_setCell_same w g j _ _ _ hg]
  ·rw [← ht, Array.toList_setIfInBounds, List.take_set]
theorem Own2.at_ {B : Nat} {w : World} {p : Nat} {s : St} {zs : List (Ino × Value)} {vI vO vM : Value} (h : Own2 B w p s zs vI vO vM) {i : Nat} {x : Ino} (hx : s.inos[i]? = some x) :
  ∃ g c E m d, vI = .slice (some ⟨g, 0, none⟩) s.inos.length c ∧ zs[i]? = some (x, .slice E m d) ∧ g < w.heap.size ∧ B ≤ g ∧ i < s.inos.length ∧ w.cell? ⟨g, i * 4, none⟩ = some (.int .i64 x.num) ∧ w.cell? ⟨g, i * 4 + 1, none⟩ = some (.bool x.dir) ∧ w.cell? ⟨g, i * 4 + 2, none⟩ = some (.slice E m d) ∧ w.cell? ⟨g, i * 4 + 3, none⟩ = some (.string x.data) ∧ (∀ j, w.frozen? ⟨g, j, none⟩ = false) ∧ SlOk E m d ∧ EntsAt none w E m x.ents := by
 have hl : s.inos.length = zs.length := by rw [← h.inos, List.length_map]
 have hil := (List.getElem?_eq_some_iff.1 hx).1
 obtain ⟨g, c, cur, hv, _, hB, hlt, hg, _, hc⟩ := h.rowI.open_ (by omega)
 rw [← h.inos, List.getElem?_map] at hx
 obtain ⟨z, hz, rfl⟩ := Option.map_eq_some_iff.1 hx
 have f := flat_get inoV 4 (fun x => rfl) zs i z hz
 obtain ⟨E, d, he, hmd, hE⟩ := (h.ents z (List.mem_of_getElem? hz)).ents
 refine ⟨g, c, E, z.1.ents.length, d, by rw [hl]; exact hv, by rw [← he]; exact hz, hlt, hB, hil, hc _ _ (f 0 (by omega)), hc _ _ (f 1 (by omega)), ?_, hc _ _ (f 3 (by omega)), fun j => frozen_of_row w g j _ _ hg, hmd, hE⟩
 rw [← he]
 exact hc _ _ (f 2 (by omega))
theorem Own2.s0 {B : Nat} {w : World} {p : Nat} {s : St} {zs : List (Ino × Value)} {vI vO vM : Value} (h : Own2 B w p s zs vI vO vM) : w.cell? ⟨p, 0, none⟩ = some vI := by rw [cell_of_row w p _ _ _ (0, 0) h.cell]; rfl
theorem Own2.s1 {B : Nat} {w : World} {p : Nat} {s : St} {zs : List (Ino × Value)} {vI vO vM : Value} (h : Own2 B w p s zs vI vO vM) : w.cell? ⟨p, 1, none⟩ = some vO := by rw [cell_of_row w p _ _ _ (0, 0) h.cell]; rfl
theorem Own2.s2 {B : Nat} {w : World} {p : Nat} {s : St} {zs : List (Ino × Value)} {vI vO vM : Value} (h : Own2 B w p s zs vI vO vM) : w.cell? ⟨p, 2, none⟩ = some vM := by rw [cell_of_row w p _ _ _ (0, 0) h.cell]; rfl
theorem Own2.lt {B : Nat} {w : World} {p : Nat} {s : St} {zs : List (Ino × Value)} {vI vO vM : Value} (h : Own2 B w p s zs vI vO vM) : p < w.heap.size := (Array.getElem?_eq_some_iff.1 h.cell).1
theorem gopens_mem (is : List Ino) (n : Nat) : ∀ (ds : List Ds) (q : Option Ds), opensG is n ds q = true → ∀ d ∈ ds, dsBad is n d = false
 | [], _, _, d, hd => by simp at hd
 | y :: ds, q, h, d, hd => by
  unfold opensG at h
  split at h
  ·cases h
  ·rename_i h1
   split at h
   ·cases h
   ·rcases List.mem_cons.1 hd with rfl | hd
    ·simpa using h1
    ·exact gopens_mem is n ds _ h d hd
theorem Good.opens {s : St} (h : Good s) : ∀ d ∈ s.opn, 0 ≤ d.core ∧ d.core < (s.made.length : Int) ∧ 0 ≤ d.fd ∧ d.fd < 4 ∧ ∃ (i : Nat) (x : Ino), atV s.inos d.num = (i : Int) ∧ s.inos[i]? = some x ∧ x.num = d.num ∧ x.dir = false := by
 intro d hd
 have h1 := gopens_mem _ _ _ _ h.opn d hd
 unfold dsBad at h1
 simp only [Bool.or_eq_false_iff, decide_eq_false_iff_not] at h1
 obtain ⟨⟨⟨⟨a1, a2⟩, a3⟩, a4⟩, a5⟩ := h1
 refine ⟨by omega, by omega, by omega, by omega, ?_⟩
 rcases atV_cases s.inos d.num with ⟨h2, _⟩ | ⟨k, x, h2, h3, h4, _⟩
 ·rw [h2] at a5
  simp [inoAt] at a5
 ·rw [h2, inoAt_nat, h3] at a5
  exact ⟨k, x, h2, h3, h4, a5⟩
end Go.Proofs.YthhceopnnappgaaGreatDoor
namespace Go.Proofs.YthhceopnnappgaaGreatDoor
theorem get_set_ne {α : Type} {l : List α} {i k : Nat} {y : α} (h : k ≠ i) : (l.set i y)[k]? = l[k]? := by
 rw [List.getElem?_set, if_neg (fun e => h e.symm)]
theorem RiseI.set {is : List Ino} (h : RiseI is) {i : Nat} {x y : Ino} (hx : is[i]? = some x) (hn : y.num = x.num) : RiseI (is.set i y) := by
 have key : ∀ (j : Nat) (z : Ino), (is.set i y)[j]? = some z → ∃ z', is[j]? = some z' ∧ z'.num = z.num := by
  intro j z hz
  by_cases e : j = i
  ·subst e
   have hl := (List.getElem?_eq_some_iff.1 hx).1
   rw [List.getElem?_set, if_pos rfl, if_pos hl] at hz
   cases hz
   exact ⟨x, hx, hn.symm⟩
  ·rw [get_set_ne e] at hz
   exact ⟨z, hz, rfl⟩
 intro a b u v hab hu hv
 obtain ⟨u', hu1, hu2⟩ := key a u hu
 obtain ⟨v', hv1, hv2⟩ := key b v hv
 rw [← hu2, ← hv2]
 exact h a b u' v' hab hu1 hv1
end Go.Proofs.YthhceopnnappgaaGreatDoor
