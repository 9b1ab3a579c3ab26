/- Parts of the proof, side by side: MoOwn, MoAt, MoFile, MoPlain2, MoPlain3. -/
import Derived.Test.YthhceopnnappgaaGreatDoorM33
import Derived.Test.YthhceopnnappgaaGreatDoorM21
import Derived.Test.YthhceopnnappgaaGreatDoorM08
import Derived.Test.YthhceopnnappgaaGreatDoorM05
import Derived.Test.YthhceopnnappgaaGreatDoorM00
import Derived.WalkLawsBesides
import Derived.Handy
import Derived.Test.YthhceopnnappgaaGreatDoorRefParse
import Derived.Lib.OthersKept
import Derived.WalkSmall
import Derived.Deep.RegionHeld3
import Derived.Test.YthhceopnnappgaaGreatDoorM28
import Derived.Test.YthhceopnnappgaaGreatDoorM20
set_option linter.unusedVariables false
set_option linter.unusedSimpArgs false
namespace Go.Proofs.YthhceopnnappgaaGreatDoor
open Go.RowKit
theorem RowAt.slice {B : Nat} {w : World} {e : TypeId} {k : Nat} {v : Value} {n : Nat} {xs : List Value} (h : RowAt B w e k v n xs) : ∃ A c, v = .slice A n c ∧ SlOk A n c := by
 rcases h.2 with ⟨A, rfl, rfl⟩ | ⟨g, cap, cur, rfl, hc, hB, hg, hn, hm, hs, ht⟩
 ·exact ⟨A, 0, rfl, Nat.le_refl _, fun _ => rfl⟩
 ·exact ⟨_, cap, rfl, hn, fun e => by cases e⟩
theorem RowAt.open_ {B : Nat} {w : World} {e : TypeId} {k : Nat} {v : Value} {n : Nat} {xs : List Value} (h : RowAt B w e k v n xs) (hn : 0 < n) : ∃ g c cur, v = .slice (some ⟨g, 0, none⟩) n c ∧ rowBlk v = some g ∧ B ≤ g ∧ g < w.heap.size ∧ w.heap[g]? = some (.cells cur e (0, 0)) ∧ n * k ≤ cur.size ∧ ∀ j u, xs[j]? = some u → w.cell? ⟨g, j, none⟩ = some u := by
 have h0 := h
 rcases h.2 with ⟨A, rfl, rfl⟩ | ⟨g, cap, cur, rfl, hc, hB, hg, hnc, hm, hs, ht⟩
 ·omega
 ·refine ⟨g, cap, cur, rfl, by simp [rowBlk, Nat.ne_of_gt hc], hB, (Array.getElem?_eq_some_iff.1 hg).1, hg, by rw [hs]; exact Nat.mul_le_mul_right _ hnc, fun j u hj => ?_⟩
  have := h0.cellsOf j u hj
  rwa [Addr.add_lit, Nat.zero_add] at this
theorem RowAt.ents {B : Nat} {w : World} {v : Value} {n : Nat} {es : List En} (h : RowAt B w 84 2 v n (es.flatMap enV)) : ∃ A c, v = .slice A n c ∧ SlOk A n c ∧ EntsAt none w A n es := by
 obtain ⟨A, c, hv, hok⟩ := h.slice
 have hl : es.length = n := by
  have h1 := h.1
  rw [flat_len enV 2 (fun x => rfl)] at h1
  omega
 refine ⟨A, c, hv, hok, hl, fun h0 => ?_⟩
 obtain ⟨g, c', cur, hv', _, _, hlt, _, _, hc⟩ := h.open_ h0
 rw [hv] at hv'
 injection hv' with e1 _ _
 refine ⟨g, 0, e1, hlt, Mine.any _ _ _, fun j e he => ?_⟩
 have f := flat_get enV 2 (fun x => rfl) es j e he
 rw [Nat.zero_add]
 exact ⟨hc _ _ (f 0 (by omega)), hc _ _ (f 1 (by omega))⟩
theorem RowAt.descs {B : Nat} {w : World} {v : Value} {n : Nat} {ds : List Ds} (h : RowAt B w 67 3 v n (ds.flatMap dsV)) : ∃ A c, v = .slice A n c ∧ SlOk A n c ∧ DescsAt none w A n ds := by
 obtain ⟨A, c, hv, hok⟩ := h.slice
 have hl : ds.length = n := by
  have h1 := h.1
  rw [flat_len dsV 3 (fun x => rfl)] at h1
  omega
 refine ⟨A, c, hv, hok, hl, fun h0 => ?_⟩
 obtain ⟨g, c', cur, hv', _, _, hlt, _, _, hc⟩ := h.open_ h0
 rw [hv] at hv'
 injection hv' with e1 _ _
 refine ⟨g, 0, e1, hlt, Mine.any _ _ _, fun j e he => ?_⟩
 have f := flat_get dsV 3 (fun x => rfl) ds j e he
 rw [Nat.zero_add]
 exact ⟨hc _ _ (f 0 (by omega)), hc _ _ (f 1 (by omega)), hc _ _ (f 2 (by omega))⟩
def intV (x : Int) : Value := .int .i64 x
theorem RowAt.ints {B : Nat} {w : World} {v : Value} {n : Nat} {xs : List Int} (h : RowAt B w 3 1 v n (xs.map intV)) : ∃ A c, v = .slice A n c ∧ SlOk A n c ∧ IntsAt none w A n xs := by
 obtain ⟨A, c, hv, hok⟩ := h.slice
 have hl : xs.length = n := by have h1 := h.1; simpa using h1
 refine ⟨A, c, hv, hok, hl, fun h0 => ?_⟩
 obtain ⟨g, c', cur, hv', _, _, hlt, _, _, hc⟩ := h.open_ h0
 rw [hv] at hv'
 injection hv' with e1 _ _
 refine ⟨g, 0, e1, hlt, Mine.any _ _ _, fun j e he => ?_⟩
 rw [Nat.zero_add]
 exact hc _ _ (by rw [List.getElem?_map, he]; rfl)
def Apart (zs : List (Ino × Value)) : Prop := ∀ (i j : Nat) (a b : Ino × Value), i ≠ j → zs[i]? = some a → zs[j]? = some b → ∀ g, rowBlk a.2 = some g → rowBlk b.2 ≠ some g
structure Own2 (B : Nat) (w : World) (p : Nat) (s : St) (zs : List (Ino × Value)) (vI vO vM : Value) : Prop where
 hp : B ≤ p
 cell : w.heap[p]? = some (.cells #[vI, vO, vM] 26 (0, 0))
 inos : zs.map Prod.fst = s.inos
 rowI : RowAt B w 52 4 vI zs.length (zs.flatMap inoV)
 ents : ∀ z ∈ zs, RowAt B w 84 2 z.2 z.1.ents.length (z.1.ents.flatMap enV)
 apart : Apart zs
 rowO : RowAt B w 67 3 vO s.opn.length (s.opn.flatMap dsV)
 rowM : RowAt B w 3 1 vM s.made.length (s.made.map intV)
 sized : Sized s
theorem Own2.inosAt {B : Nat} {w : World} {p : Nat} {s : St} {zs : List (Ino × Value)} {vI vO vM : Value} (h : Own2 B w p s zs vI vO vM) : ∃ A c, vI = .slice A s.inos.length c ∧ SlOk A s.inos.length c ∧ InosAt none w A s.inos.length s.inos := by
 have hl : s.inos.length = zs.length := by rw [← h.inos, List.length_map]
 obtain ⟨A, c, hv, hok⟩ := h.rowI.slice
 rw [← hl] at hv hok
 refine ⟨A, c, hv, hok, rfl, fun h0 => ?_⟩
 obtain ⟨g, c', cur, hv', _, _, hlt, _, _, hc⟩ := h.rowI.open_ (by omega)
 rw [hv] at hv'
 injection hv' with e1 _ _
 refine ⟨g, 0, e1, hlt, Mine.any _ _ _, fun j x hx => ?_⟩
 rw [← h.inos, List.getElem?_map] at hx
 obtain ⟨z, hz, rfl⟩ := Option.map_eq_some_iff.1 hx
 have f := flat_get inoV 4 (fun x => rfl) zs j z hz
 obtain ⟨E, m, he, hmd, hE⟩ := (h.ents z (List.mem_of_getElem? hz)).ents
 rw [Nat.zero_add]
 refine ⟨hc _ _ (f 0 (by omega)), hc _ _ (f 1 (by omega)), ⟨E, z.1.ents.length, m, ?_, hmd, hE⟩, hc _ _ (f 3 (by omega))⟩
 rw [← he]
 exact hc _ _ (f 2 (by omega))
theorem Own2.ptr {B : Nat} {w : World} {p : Nat} {s : St} {zs : List (Ino × Value)} {vI vO vM : Value} (h : Own2 B w p s zs vI vO vM) : PtrAt w p s := by
 obtain ⟨A, c, hA, hAo, hAI⟩ := h.inosAt
 obtain ⟨E, d, hE, hEo, hED⟩ := h.rowO.descs
 obtain ⟨M, k, hM, hMo, hMI⟩ := h.rowM.ints
 refine ⟨⟨A, _, c, E, _, d, M, _, k, ?_, hAI, hED, hMI, hAo, hEo, hMo⟩, h.sized⟩
 rw [← hA, ← hE, ← hM]
 exact h.cell
theorem Own2.below {B : Nat} {w w' : World} {p : Nat} {s : St} {zs : List (Ino × Value)} {vI vO vM : Value} (h : Own2 B w p s zs vI vO vM) (hb : Below w.heap.size w w') : Own2 B w' p s zs vI vO vM := by
 have hg : w.grownBy w' none := rw_none hb
 have hn : ∀ (v : Value) (b : Nat), rowBlk v = some b → (none : Option Nat) ≠ some b := fun v b _ => by simp
 exact ⟨h.hp, (hb.block p (Array.getElem?_eq_some_iff.1 h.cell).1).trans h.cell, h.inos, h.rowI.kept hg (hn _), fun z hz => (h.ents z hz).kept hg (hn _), h.apart, h.rowO.kept hg (hn _), h.rowM.kept hg (hn _), h.sized⟩
structure Turns (B p : Nat) (w w' : World) : Prop where
 below : Below B w w'
 keep : ∀ (b : Nat) (cur : Array Value) (t : TypeId), w.heap[b]? = some (.cells cur t (0, 0)) → 52 ≠ t → 84 ≠ t → 67 ≠ t → 3 ≠ t → b ≠ p → w'.heap[b]? = w.heap[b]?
theorem Turns.trans {B p : Nat} {a b c : World} (h : Turns B p a b) (k : Turns B p b c) : Turns B p a c :=
 ⟨h.below.trans k.below, fun x cur t hx h1 h2 h3 h4 h5 => (k.keep x cur t ((h.keep x cur t hx h1 h2 h3 h4 h5).trans hx) h1 h2 h3 h4 h5).trans (h.keep x cur t hx h1 h2 h3 h4 h5)⟩
theorem Turns.of_below {B p : Nat} {w w' : World} (h : Below w.heap.size w w') (hB : B ≤ w.heap.size) : Turns B p w w' :=
 ⟨h.mono hB, fun b cur t hb _ _ _ _ _ => h.block b (Array.getElem?_eq_some_iff.1 hb).1⟩
theorem RowAt.set {B : Nat} {w : World} {e : TypeId} {k : Nat} {g n c : Nat} {xs : List Value} (h : RowAt B w e k (.slice (some ⟨g, 0, none⟩) n c) n xs) (j : Nat) (u : Value) (hj : j < n * k) : RowAt B (w.setCell ⟨g, j, none⟩ u) e k (.slice (some ⟨g, 0, none⟩) n c) n (xs.set j u) := by
 refine ⟨by rw [List.length_set]; exact h.1, ?_⟩
 rcases h.2 with ⟨A, hA, rfl⟩ | ⟨g', cap, cur, hv, hc, hB, hg, hnc, hm, hs, ht⟩
 ·omega
 ·injection hv with e1 e2 e3
  injection e1 with e1
  injection e1 with e1
  subst e1 e3
  refine .inr ⟨g, c, cur.setIfInBounds j u, rfl, hc, hB, ?_, hnc, hm, by simpa using hs, ?_⟩
  ·rw [heap_setCell_same w g j _ _ _ hg]
  ·rw [← ht, Array.toList_setIfInBounds, List.take_set]
theorem Own2.at_ {B : Nat} {w : World} {p : Nat} {s : St} {zs : List (Ino × Value)} {vI vO vM : Value} (h : Own2 B w p s zs vI vO vM) {i : Nat} {x : Ino} (hx : s.inos[i]? = some x) :
  ∃ g c E m d, vI = .slice (some ⟨g, 0, none⟩) s.inos.length c ∧ zs[i]? = some (x, .slice E m d) ∧ g < w.heap.size ∧ B ≤ g ∧ i < s.inos.length ∧ w.cell? ⟨g, i * 4, none⟩ = some (.int .i64 x.num) ∧ w.cell? ⟨g, i * 4 + 1, none⟩ = some (.bool x.dir) ∧ w.cell? ⟨g, i * 4 + 2, none⟩ = some (.slice E m d) ∧ w.cell? ⟨g, i * 4 + 3, none⟩ = some (.string x.data) ∧ (∀ j, w.frozen? ⟨g, j, none⟩ = false) ∧ SlOk E m d ∧ EntsAt none w E m x.ents := by
 have hl : s.inos.length = zs.length := by rw [← h.inos, List.length_map]
 have hil := (List.getElem?_eq_some_iff.1 hx).1
 obtain ⟨g, c, cur, hv, _, hB, hlt, hg, _, hc⟩ := h.rowI.open_ (by omega)
 rw [← h.inos, List.getElem?_map] at hx
 obtain ⟨z, hz, rfl⟩ := Option.map_eq_some_iff.1 hx
 have f := flat_get inoV 4 (fun x => rfl) zs i z hz
 obtain ⟨E, d, he, hmd, hE⟩ := (h.ents z (List.mem_of_getElem? hz)).ents
 refine ⟨g, c, E, z.1.ents.length, d, by rw [hl]; exact hv, by rw [← he]; exact hz, hlt, hB, hil, hc _ _ (f 0 (by omega)), hc _ _ (f 1 (by omega)), ?_, hc _ _ (f 3 (by omega)), fun j => frozen_of_row w g j _ _ hg, hmd, hE⟩
 rw [← he]
 exact hc _ _ (f 2 (by omega))
theorem Own2.s0 {B : Nat} {w : World} {p : Nat} {s : St} {zs : List (Ino × Value)} {vI vO vM : Value} (h : Own2 B w p s zs vI vO vM) : w.cell? ⟨p, 0, none⟩ = some vI := by rw [cell_of_row w p _ _ _ (0, 0) h.cell]; rfl
theorem Own2.s1 {B : Nat} {w : World} {p : Nat} {s : St} {zs : List (Ino × Value)} {vI vO vM : Value} (h : Own2 B w p s zs vI vO vM) : w.cell? ⟨p, 1, none⟩ = some vO := by rw [cell_of_row w p _ _ _ (0, 0) h.cell]; rfl
theorem Own2.s2 {B : Nat} {w : World} {p : Nat} {s : St} {zs : List (Ino × Value)} {vI vO vM : Value} (h : Own2 B w p s zs vI vO vM) : w.cell? ⟨p, 2, none⟩ = some vM := by rw [cell_of_row w p _ _ _ (0, 0) h.cell]; rfl
theorem Own2.lt {B : Nat} {w : World} {p : Nat} {s : St} {zs : List (Ino × Value)} {vI vO vM : Value} (h : Own2 B w p s zs vI vO vM) : p < w.heap.size := (Array.getElem?_eq_some_iff.1 h.cell).1
theorem gopens_mem (is : List Ino) (n : Nat) : ∀ (ds : List Ds) (q : Option Ds), opensG is n ds q = true → ∀ d ∈ ds, dsBad is n d = false
 | [], _, _, d, hd => by simp at hd
 | y :: ds, q, h, d, hd => by
  unfold opensG at h
  split at h
  ·cases h
  ·rename_i h1
   split at h
   ·cases h
   ·rcases List.mem_cons.1 hd with rfl | hd
    ·simpa using h1
    ·exact gopens_mem is n ds _ h d hd
theorem Good.opens {s : St} (h : Good s) : ∀ d ∈ s.opn, 0 ≤ d.core ∧ d.core < (s.made.length : Int) ∧ 0 ≤ d.fd ∧ d.fd < 4 ∧ ∃ (i : Nat) (x : Ino), atV s.inos d.num = (i : Int) ∧ s.inos[i]? = some x ∧ x.num = d.num ∧ x.dir = false := by
 intro d hd
 have h1 := gopens_mem _ _ _ _ h.opn d hd
 unfold dsBad at h1
 simp only [Bool.or_eq_false_iff, decide_eq_false_iff_not] at h1
 obtain ⟨⟨⟨⟨a1, a2⟩, a3⟩, a4⟩, a5⟩ := h1
 refine ⟨by omega, by omega, by omega, by omega, ?_⟩
 rcases atV_cases s.inos d.num with ⟨h2, _⟩ | ⟨k, x, h2, h3, h4, _⟩
 ·rw [h2] at a5
  simp [inoAt] at a5
 ·rw [h2, inoAt_nat, h3] at a5
  exact ⟨k, x, h2, h3, h4, a5⟩
end Go.Proofs.YthhceopnnappgaaGreatDoor
namespace Go.Proofs.YthhceopnnappgaaGreatDoor
theorem get_set_ne {α : Type} {l : List α} {i k : Nat} {y : α} (h : k ≠ i) : (l.set i y)[k]? = l[k]? := by
 rw [List.getElem?_set, if_neg (fun e => h e.symm)]
theorem RiseI.set {is : List Ino} (h : RiseI is) {i : Nat} {x y : Ino} (hx : is[i]? = some x) (hn : y.num = x.num) : RiseI (is.set i y) := by
 have key : ∀ (j : Nat) (z : Ino), (is.set i y)[j]? = some z → ∃ z', is[j]? = some z' ∧ z'.num = z.num := by
  intro j z hz
  by_cases e : j = i
  ·subst e
   have hl := (List.getElem?_eq_some_iff.1 hx).1
   rw [List.getElem?_set, if_pos rfl, if_pos hl] at hz
   cases hz
   exact ⟨x, hx, hn.symm⟩
  ·rw [get_set_ne e] at hz
   exact ⟨z, hz, rfl⟩
 intro a b u v hab hu hv
 obtain ⟨u', hu1, hu2⟩ := key a u hu
 obtain ⟨v', hv1, hv2⟩ := key b v hv
 rw [← hu2, ← hv2]
 exact h a b u' v' hab hu1 hv1
def ltD (a b : Ds) : Prop := a.core < b.core ∨ (a.core = b.core ∧ a.fd < b.fd)
def RiseD (ds : List Ds) : Prop := ∀ (i j : Nat) (x y : Ds), i < j → ds[i]? = some x → ds[j]? = some y → ltD x y
theorem ltD_trans {a b c : Ds} (h1 : ltD a b) (h2 : ltD b c) : ltD a c := by unfold ltD at *; omega
theorem opensG_rise (is : List Ino) (n : Nat) : ∀ (ds : List Ds) (p : Option Ds), opensG is n ds p = true → RiseD ds ∧ ∀ q x, p = some q → ds[0]? = some x → ltD q x
 | [], p, h => ⟨fun i j x y _ hx => by simp at hx, fun q x _ hx => by simp at hx⟩
 | d :: ds, p, h => by
  unfold opensG at h
  by_cases h1 : dsBad is n d = true
  ·rw [if_pos h1] at h; cases h
  ·rw [if_neg h1] at h
   by_cases h2 : dsPrev p d = true
   ·rw [if_pos h2] at h; cases h
   ·rw [if_neg h2] at h
    obtain ⟨r1, r2⟩ := opensG_rise is n ds (some d) h
    have key : ∀ (j : Nat) (y : Ds), ds[j]? = some y → ltD d y := by
     intro j
     induction j with
     | zero => intro y hy; exact r2 _ _ rfl hy
     | succ j ih =>
      intro y hy
      have hjl : j < ds.length := by have := (List.getElem?_eq_some_iff.1 hy).1; omega
      exact ltD_trans (ih _ (List.getElem?_eq_getElem hjl)) (r1 j (j + 1) _ _ (by omega) (List.getElem?_eq_getElem hjl) hy)
    refine ⟨fun i j x y hij hx hy => ?_, fun q x hp hx => ?_⟩
    ·cases j with
     | zero => omega
     | succ j =>
      have hy2 : ds[j]? = some y := by simpa using hy
      cases i with
      | zero =>
       have : d = x := by simpa using hx
       subst this
       exact key j y hy2
      | succ i => exact r1 i j x y (by omega) (by simpa using hx) hy2
    ·have : d = x := by simpa using hx
     subst this
     subst hp
     unfold dsPrev at h2
     simp only [Bool.or_eq_true, Bool.and_eq_true, decide_eq_true_eq] at h2
     unfold ltD
     omega
theorem Good.riseD {s : St} (h : Good s) : RiseD s.opn := (opensG_rise _ _ _ _ h.opn).1
structure Scan (ds : List Ds) (core : Int) (i : Nat) (fd : Nat) (at_ : Nat) : Prop where
 le : at_ ≤ i
 lo : ∀ (k : Nat) (d : Ds), k < at_ → ds[k]? = some d → d.core < core ∨ (d.core = core ∧ d.fd < (fd : Int))
 hi : ∀ (k : Nat) (d : Ds), at_ ≤ k → k < i → ds[k]? = some d → core < d.core ∨ (d.core = core ∧ (fd : Int) < d.fd)
 all : ∀ f, f < fd → ∃ (k : Nat) (d : Ds), k < i ∧ ds[k]? = some d ∧ d.core = core ∧ d.fd = (f : Int)
theorem Scan.start (ds : List Ds) (core : Int) : Scan ds core 0 0 0 := ⟨Nat.le_refl _, fun k d hk => by omega, fun k d _ hk => by omega, fun f hf => by omega⟩
theorem Scan.step {ds : List Ds} {core : Int} {i fd at_ : Nat} (h : Scan ds core i fd at_) (hr : RiseD ds) (h0 : ∀ d ∈ ds, 0 ≤ d.fd) {o : Ds} (ho : ds[i]? = some o) :
  (o.core < core → Scan ds core (i + 1) fd (i + 1)) ∧ (¬ o.core < core → o.core = core → o.fd = (fd : Int) → Scan ds core (i + 1) (fd + 1) (i + 1)) ∧ (¬ o.core < core → ¬ (o.core = core ∧ o.fd = (fd : Int)) → Scan ds core (i + 1) fd at_) := by
 refine ⟨fun hc => ?_, fun hn hc hf => ?_, fun hn hne => ?_⟩
 ·refine ⟨Nat.le_refl _, fun k d hk hd => ?_, fun k d h1 h2 => by omega, fun f hf => ?_⟩
  ·by_cases e : k = i
   ·subst e
    rw [ho] at hd
    cases hd
    exact .inl hc
   ·have := hr k i d o (by omega) hd ho
    unfold ltD at this
    left; omega
  ·obtain ⟨k, d, h1, h2⟩ := h.all f hf
   exact ⟨k, d, by omega, h2⟩
 ·refine ⟨Nat.le_refl _, fun k d hk hd => ?_, fun k d h1 h2 => by omega, fun f hf2 => ?_⟩
  ·by_cases e : k = i
   ·subst e
    rw [ho] at hd
    cases hd
    right; exact ⟨hc, by omega⟩
   ·have := hr k i d o (by omega) hd ho
    unfold ltD at this
    omega
  ·by_cases e : f = fd
   ·subst e
    exact ⟨i, o, by omega, ho, hc, hf⟩
   ·obtain ⟨k, d, h1, h2⟩ := h.all f (by omega)
    exact ⟨k, d, by omega, h2⟩
 ·refine ⟨by have := h.le; omega, h.lo, fun k d h1 h2 hd => ?_, fun f hf => ?_⟩
  ·by_cases e : k = i
   ·subst e
    rw [ho] at hd
    cases hd
    by_cases hc : o.core = core
    ·right
     refine ⟨hc, ?_⟩
     by_cases hlt : o.fd < (fd : Int)
     ·have hz := h0 o (List.mem_of_getElem? ho)
      obtain ⟨k', d', h3, h4, h5, h6⟩ := h.all o.fd.toNat (by omega)
      have := hr k' k d' o h3 h4 ho
      unfold ltD at this
      omega
     ·have : o.fd ≠ (fd : Int) := fun e => hne ⟨hc, e⟩
      omega
    ·left; omega
   ·exact h.hi k d h1 (by omega) hd
  ·obtain ⟨k, d, h1, h2⟩ := h.all f hf
   exact ⟨k, d, by omega, h2⟩
end Go.Proofs.YthhceopnnappgaaGreatDoor
