/- Parts of the proof, side by side: MoCloneW, MoClone. -/
import Derived.Test.YtndcloohcfhejaaGreatM34
import Derived.Test.YtndcloohcfhejaaGreatM10
import Derived.Test.YtndcloohcfhejaaGreatM21
import Derived.Deep.RegionHeld3
import Derived.Test.YtndcloohcfhejaaGreatM27
import Derived.Handy
import Derived.Deep.RegionLaw
set_option linter.unusedVariables false
set_option linter.unusedSimpArgs false
namespace Go.Proofs.YtndcloohcfhejaaGreat
open Go.RowKit
structure OwnR (B : Nat) (w : World) (s : St) (zs : List (Ino × Value)) (vI vO vM : Value) : Prop where
 inos : zs.map Prod.fst = s.inos
 rowI : RowAt B w 75 4 vI zs.length (zs.flatMap inoV)
 ents : ∀ z ∈ zs, RowAt B w 77 2 z.2 z.1.ents.length (z.1.ents.flatMap enV)
 apart : Apart zs
 rowO : RowAt B w 79 3 vO s.opn.length (s.opn.flatMap dsV)
 rowM : RowAt B w 3 1 vM s.made.length (s.made.map intV)
 sized : Sized s
theorem RowAt.lower {B B' : Nat} {w : World} {e : TypeId} {k : Nat} {v : Value} {n : Nat} {xs : List Value} (h : RowAt B w e k v n xs) (hb : B' ≤ B) : RowAt B' w e k v n xs := by
 refine ⟨h.1, ?_⟩
 rcases h.2 with h0 | ⟨g, cap, cur, rfl, hc, hB, rest⟩
 ·exact .inl h0
 ·exact .inr ⟨g, cap, cur, rfl, hc, Nat.le_trans hb hB, rest⟩
theorem RowAt.fresh {B : Nat} {w w' : World} {e : TypeId} {k : Nat} {v : Value} {n : Nat} {xs : List Value} (h : RowAt B w e k v n xs) (hb : Below w.heap.size w w') : RowAt B w' e k v n xs := h.kept (r := none) (rw_none hb) (fun b _ => by simp)
theorem OwnR.below {B : Nat} {w w' : World} {s : St} {zs : List (Ino × Value)} {vI vO vM : Value} (h : OwnR B w s zs vI vO vM) (hb : Below w.heap.size w w') : OwnR B w' s zs vI vO vM :=
 ⟨h.inos, h.rowI.fresh hb, fun z hz => (h.ents z hz).fresh hb, h.apart, h.rowO.fresh hb, h.rowM.fresh hb, h.sized⟩
theorem OwnR.lower {B B' : Nat} {w : World} {s : St} {zs : List (Ino × Value)} {vI vO vM : Value} (h : OwnR B w s zs vI vO vM) (hb : B' ≤ B) : OwnR B' w s zs vI vO vM :=
 ⟨h.inos, h.rowI.lower hb, fun z hz => (h.ents z hz).lower hb, h.apart, h.rowO.lower hb, h.rowM.lower hb, h.sized⟩
theorem OwnR.set {B : Nat} {w : World} {s : St} {zs : List (Ino × Value)} {vI vO vM : Value} (h : OwnR B w s zs vI vO vM) {b j : Nat} {u : Value} {cur : Array Value} {t : TypeId} {f : Nat × Nat} (hb : w.heap[b]? = some (.cells cur t f)) (h1 : t ≠ 75) (h2 : t ≠ 77) (h3 : t ≠ 79) (h4 : t ≠ 3) : OwnR B (w.setCell ⟨b, j, none⟩ u) s zs vI vO vM := by
 have key : ∀ (e : TypeId) (k : Nat) (v : Value) (n : Nat) (xs : List Value), t ≠ e → RowAt B w e k v n xs → RowAt B (w.setCell ⟨b, j, none⟩ u) e k v n xs := fun e k v n xs hne hx => hx.kept grown_set (fun a ha e2 => by
  obtain ⟨_, _, c1, hc⟩ := hx.blk a ha
  exact blk_ne hb hc hne (by injection e2))
 exact ⟨h.inos, key _ _ _ _ _ h1 h.rowI, fun z hz => key _ _ _ _ _ h2 (h.ents z hz), h.apart, key _ _ _ _ _ h3 h.rowO, key _ _ _ _ _ h4 h.rowM, h.sized⟩
theorem RowAt.mine {B : Nat} {w : World} {e : TypeId} {k : Nat} {v : Value} {n : Nat} {xs : List Value} (h : RowAt B w e k v n xs) (hn : 0 < n) : ∃ g c, v = .slice (some ⟨g, 0, none⟩) n c ∧ g < w.heap.size ∧ Mine (some B) e w g ∧ ∀ j u, xs[j]? = some u → w.cell? ⟨g, j, none⟩ = some u := by
 obtain ⟨g, c, cur, h1, _, h3, h4, h5, _, h7⟩ := h.open_ hn
 exact ⟨g, c, h1, h4, fun C hC => by cases hC; exact ⟨h3, cur, h5⟩, h7⟩
theorem RowAt.entsB {B : Nat} {w : World} {v : Value} {n : Nat} {es : List En} (h : RowAt B w 77 2 v n (es.flatMap enV)) : ∃ A c, v = .slice A n c ∧ SlOk A n c ∧ EntsAt (some B) w A n es := by
 obtain ⟨A, c, hv, hok⟩ := h.slice
 have hl : es.length = n := by
  have h1 := h.1
  rw [flat_len enV 2 (fun x => rfl)] at h1
  omega
 refine ⟨A, c, hv, hok, hl, fun h0 => ?_⟩
 obtain ⟨g, c', hv', hlt, hm, hc⟩ := h.mine h0
 rw [hv] at hv'
 injection hv' with e1 _ _
 refine ⟨g, 0, e1, hlt, hm, fun j e he => ?_⟩
 have f := flat_get enV 2 (fun x => rfl) es j e he
 rw [Nat.zero_add]
 exact ⟨hc _ _ (f 0 (by omega)), hc _ _ (f 1 (by omega))⟩
theorem RowAt.descsB {B : Nat} {w : World} {v : Value} {n : Nat} {ds : List Ds} (h : RowAt B w 79 3 v n (ds.flatMap dsV)) : ∃ A c, v = .slice A n c ∧ SlOk A n c ∧ DescsAt (some B) w A n ds := by
 obtain ⟨A, c, hv, hok⟩ := h.slice
 have hl : ds.length = n := by
  have h1 := h.1
  rw [flat_len dsV 3 (fun x => rfl)] at h1
  omega
 refine ⟨A, c, hv, hok, hl, fun h0 => ?_⟩
 obtain ⟨g, c', hv', hlt, hm, hc⟩ := h.mine h0
 rw [hv] at hv'
 injection hv' with e1 _ _
 refine ⟨g, 0, e1, hlt, hm, fun j e he => ?_⟩
 have f := flat_get dsV 3 (fun x => rfl) ds j e he
 rw [Nat.zero_add]
 exact ⟨hc _ _ (f 0 (by omega)), hc _ _ (f 1 (by omega)), hc _ _ (f 2 (by omega))⟩
theorem RowAt.intsB {B : Nat} {w : World} {v : Value} {n : Nat} {xs : List Int} (h : RowAt B w 3 1 v n (xs.map intV)) : ∃ A c, v = .slice A n c ∧ SlOk A n c ∧ IntsAt (some B) w A n xs := by
 obtain ⟨A, c, hv, hok⟩ := h.slice
 have hl : xs.length = n := by have h1 := h.1; simpa using h1
 refine ⟨A, c, hv, hok, hl, fun h0 => ?_⟩
 obtain ⟨g, c', hv', hlt, hm, hc⟩ := h.mine h0
 rw [hv] at hv'
 injection hv' with e1 _ _
 refine ⟨g, 0, e1, hlt, hm, fun j e he => ?_⟩
 rw [Nat.zero_add]
 exact hc _ _ (by rw [List.getElem?_map, he]; rfl)
theorem OwnR.st {B : Nat} {w : World} {s : St} {zs : List (Ino × Value)} {vI vO vM : Value} (h : OwnR B w s zs vI vO vM) : StAt (some B) w (.agg #[vI, vO, vM]) s := by
 have hl : s.inos.length = zs.length := by rw [← h.inos, List.length_map]
 obtain ⟨A, c, hv, hok⟩ := h.rowI.slice
 obtain ⟨E, d, hE, hEo, hED⟩ := h.rowO.descsB
 obtain ⟨M, k, hM, hMo, hMI⟩ := h.rowM.intsB
 refine ⟨⟨A, _, c, E, _, d, M, _, k, by rw [hv, hE, hM], ⟨hl, fun h0 => ?_⟩, hED, hMI, hok, hEo, hMo⟩, h.sized⟩
 obtain ⟨g, c', hv', hlt, hm, hc⟩ := h.rowI.mine h0
 rw [hv] at hv'
 injection hv' with e1 _ _
 refine ⟨g, 0, e1, hlt, hm, fun j x hx => ?_⟩
 rw [← h.inos, List.getElem?_map] at hx
 obtain ⟨z, hz, rfl⟩ := Option.map_eq_some_iff.1 hx
 have f := flat_get inoV 4 (fun x => rfl) zs j z hz
 obtain ⟨E', m, he, hmd, hE'⟩ := (h.ents z (List.mem_of_getElem? hz)).entsB
 rw [Nat.zero_add]
 refine ⟨hc _ _ (f 0 (by omega)), hc _ _ (f 1 (by omega)), ⟨E', z.1.ents.length, m, ?_, hmd, hE'⟩, hc _ _ (f 3 (by omega))⟩
 rw [← he]
 exact hc _ _ (f 2 (by omega))
theorem Own2.ownR {B p : Nat} {w : World} {s : St} {zs : List (Ino × Value)} {vI vO vM : Value} (h : Own2 B w p s zs vI vO vM) : OwnR B w s zs vI vO vM := ⟨h.inos, h.rowI, h.ents, h.apart, h.rowO, h.rowM, h.sized⟩
theorem OwnR.own2 {B p : Nat} {w : World} {s : St} {zs : List (Ino × Value)} {vI vO vM : Value} (h : OwnR B w s zs vI vO vM) (hp : B ≤ p) (hc : w.heap[p]? = some (.cells #[vI, vO, vM] 27 (0, 0))) : Own2 B w p s zs vI vO vM := ⟨hp, hc, h.inos, h.rowI, h.ents, h.apart, h.rowO, h.rowM, h.sized⟩
theorem InosAt.pairs {w : World} {A : Option Addr} {n : Nat} {is : List Ino} (h : InosAt none w A n is) :
  ∃ zs : List (Ino × Value), zs.map Prod.fst = is ∧ zs.length = n ∧ (∀ z ∈ zs, ∃ A m c, z.2 = .slice A m c ∧ SlOk A m c ∧ EntsAt none w A m z.1.ents) ∧ ∀ ad, A = some ad → ∀ j u, (zs.flatMap inoV)[j]? = some u → w.cell? (ad.add j) = some u := by
 rcases Nat.eq_zero_or_pos n with h0 | h0
 ·subst h0
  have : is = [] := List.length_eq_zero_iff.1 h.1
  subst this
  exact ⟨[], rfl, rfl, by simp, fun ad _ j u hj => by simp at hj⟩
 ·obtain ⟨g, off, hA, _⟩ := h.2 h0
  subst hA
  obtain ⟨zs, h1, h2, h3⟩ := h.zs h0
  refine ⟨zs, h1, by have := congrArg List.length h1; rw [List.length_map] at this; have := h.1; omega, h2, fun ad e => ?_⟩
  cases e
  exact h3
structure Cl (w0 w : World) (s : St) (q : Nat) (zs : List (Ino × Value)) (vI : Value) : Prop where
 inos : zs.map Prod.fst = s.inos
 rowI : RowAt w0.heap.size w 75 4 vI zs.length (zs.flatMap inoV)
 done : ∀ (j : Nat) (z : Ino × Value), zs[j]? = some z → j < q → RowAt w0.heap.size w 77 2 z.2 z.1.ents.length (z.1.ents.flatMap enV)
 left_ : ∀ (j : Nat) (z : Ino × Value), zs[j]? = some z → q ≤ j → ∃ A m c, z.2 = .slice A m c ∧ SlOk A m c ∧ EntsAt none w0 A m z.1.ents
 apart : ∀ (i j : Nat) (a b : Ino × Value), i ≠ j → i < q → j < q → zs[i]? = some a → zs[j]? = some b → ∀ g, rowBlk a.2 = some g → rowBlk b.2 ≠ some g
theorem Cl.kept {w0 w w' : World} {s : St} {q : Nat} {zs : List (Ino × Value)} {vI : Value} (h : Cl w0 w s q zs vI) (hb : Below w.heap.size w w') : Cl w0 w' s q zs vI :=
 ⟨h.inos, h.rowI.fresh hb, fun j z hz hj => (h.done j z hz hj).fresh hb, h.left_, h.apart⟩
theorem Cl.set {w0 w : World} {s : St} {q : Nat} {zs : List (Ino × Value)} {vI : Value} (h : Cl w0 w s q zs vI) {b j : Nat} {u : Value} {cur : Array Value} (hb : w.heap[b]? = some (.cells cur 27 (0, 0))) : Cl w0 (w.setCell ⟨b, j, none⟩ u) s q zs vI := by
 have key : ∀ (e : TypeId) (k : Nat) (v : Value) (n : Nat) (xs : List Value), 27 ≠ e → RowAt w0.heap.size w e k v n xs → RowAt w0.heap.size (w.setCell ⟨b, j, none⟩ u) e k v n xs := fun e k v n xs hne hx => hx.kept grown_set (fun a ha e2 => by
  obtain ⟨_, _, c1, hc⟩ := hx.blk a ha
  exact blk_ne hb hc hne (by injection e2))
 exact ⟨h.inos, key _ _ _ _ _ (by decide) h.rowI, fun i z hz hi => key _ _ _ _ _ (by decide) (h.done i z hz hi), h.left_, h.apart⟩
theorem Cl.step {w0 w w' : World} {s : St} {q : Nat} {zs : List (Ino × Value)} {g n c : Nat} (h : Cl w0 w s q zs (.slice (some ⟨g, 0, none⟩) n c)) (hn : n = zs.length) {z : Ino × Value} (hz : zs[q]? = some z) {v' : Value} (hb : Below w.heap.size w w') (hw : w0.heap.size ≤ w.heap.size) (hr : RowAt w.heap.size w' 77 2 v' z.1.ents.length (z.1.ents.flatMap enV)) :
  Cl w0 (w'.setCell ⟨g, q * 4 + 2, none⟩ v') s (q + 1) (zs.set q (z.1, v')) (.slice (some ⟨g, 0, none⟩) n c) := by
 have hql := (List.getElem?_eq_some_iff.1 hz).1
 have h1 := h.kept hb
 obtain ⟨g', c', cur, hv, hbk, hB, hlt, hgc, hsz, _⟩ := h1.rowI.open_ (by omega)
 have hgg : g' = g := by injection hv with e1 _ _; injection e1 with e1; injection e1 with e1; exact e1.symm
 subst hgg
 have key : ∀ (v : Value) (m : Nat) (xs : List Value) (B : Nat), RowAt B w' 77 2 v m xs → RowAt B (w'.setCell ⟨g', q * 4 + 2, none⟩ v') 77 2 v m xs := fun v m xs B hx => hx.kept grown_set (fun b hb e => by
  obtain ⟨_, _, c1, h1⟩ := hx.blk b hb
  exact blk_ne hgc h1 (by decide) (by injection e))
 have hset : ∀ (j : Nat) (y : Ino × Value), (zs.set q (z.1, v'))[j]? = some y → (j = q ∧ y = (z.1, v')) ∨ (j ≠ q ∧ zs[j]? = some y) := fun j y hy => by
  rw [List.getElem?_set] at hy
  by_cases e : q = j
  ·subst e
   rw [if_pos rfl, if_pos hql] at hy
   exact .inl ⟨rfl, (Option.some.inj hy).symm⟩
  ·rw [if_neg e] at hy
   exact .inr ⟨fun e2 => e e2.symm, hy⟩
 have hnew : ∀ b, rowBlk v' = some b → w.heap.size ≤ b := fun b hb => (hr.blk b hb).1
 refine ⟨?_, ?_, ?_, ?_, ?_⟩
 ·rw [set_map, ← h.inos]
  refine List.ext_getElem? (fun j => ?_)
  rw [List.getElem?_set, List.getElem?_map]
  by_cases e : q = j
  ·subst e
   rw [if_pos rfl, if_pos (by simpa using hql), hz]
   rfl
  ·rw [if_neg e]
 ·rw [List.length_set, ← hn]
  have h2 := h1.rowI
  rw [← hn] at h2
  have h3 := h2.set (q * 4 + 2) v' (by omega)
  have h4 := flat_set2 zs q z z.1.ents v' hz
  rwa [h4] at h3
 ·intro j y hy hj
  rcases hset j y hy with ⟨rfl, rfl⟩ | ⟨hne, hy2⟩
  ·exact (key _ _ _ _ hr).lower hw
  ·exact key _ _ _ _ (h1.done j y hy2 (by omega))
 ·intro j y hy hj
  rcases hset j y hy with ⟨rfl, rfl⟩ | ⟨hne, hy2⟩
  ·omega
  ·exact h.left_ j y hy2 (by omega)
 ·intro i j a b hij hi hj ha hb2 gg hga hgb
  rcases hset i a ha with ⟨rfl, rfl⟩ | ⟨hne, ha2⟩
  ·rcases hset j b hb2 with ⟨rfl, rfl⟩ | ⟨hne2, hb3⟩
   ·exact hij rfl
   ·have h5 := hnew gg hga
    have h6 := ((h.done j b hb3 (by omega)).blk gg hgb).2.1
    omega
  ·rcases hset j b hb2 with ⟨rfl, rfl⟩ | ⟨hne2, hb3⟩
   ·have h5 := hnew gg hgb
    have h6 := ((h.done i a ha2 (by omega)).blk gg hga).2.1
    omega
   ·exact h.apart i j a b hij (by omega) (by omega) ha2 hb3 gg hga hgb
theorem Cl.all {w0 w : World} {s : St} {q : Nat} {zs : List (Ino × Value)} {vI vO vM : Value} (h : Cl w0 w s q zs vI) (hq : zs.length ≤ q) (hO : RowAt w0.heap.size w 79 3 vO s.opn.length (s.opn.flatMap dsV)) (hM : RowAt w0.heap.size w 3 1 vM s.made.length (s.made.map intV)) (hs : Sized s) : OwnR w0.heap.size w s zs vI vO vM := by
 refine ⟨h.inos, h.rowI, fun z hz => ?_, fun i j a b hij ha hb => ?_, hO, hM, hs⟩
 ·obtain ⟨j, hj⟩ := List.getElem?_of_mem hz
  exact h.done j z hj (by have := (List.getElem?_eq_some_iff.1 hj).1; omega)
 ·exact h.apart i j a b hij (by have := (List.getElem?_eq_some_iff.1 ha).1; omega) (by have := (List.getElem?_eq_some_iff.1 hb).1; omega) ha hb
theorem ents_cells {w : World} {A : Option Addr} {n c : Nat} {es : List En} (h : EntsAt none w A n es) (hok : SlOk A n c) : (es.flatMap enV).length = n * 2 ∧ ∀ ad, A = some ad → ∀ j u, (es.flatMap enV)[j]? = some u → w.cell? (ad.add j) = some u :=
 ⟨(h.flat hok).1, (h.flat hok).2.1⟩
theorem descs_cells {w : World} {A : Option Addr} {n c : Nat} {ds : List Ds} (h : DescsAt none w A n ds) (hok : SlOk A n c) : (ds.flatMap dsV).length = n * 3 ∧ ∀ ad, A = some ad → ∀ j u, (ds.flatMap dsV)[j]? = some u → w.cell? (ad.add j) = some u := by
 rcases Nat.eq_zero_or_pos n with h0 | h0
 ·subst h0
  have : ds = [] := List.length_eq_zero_iff.1 h.1
  subst this
  exact ⟨rfl, fun ad _ j u hj => by simp at hj⟩
 ·obtain ⟨g, off, hA, hg, _, hc⟩ := h.2 h0
  refine ⟨by rw [flat_len dsV 3 (fun _ => rfl), h.1], fun ad e => ?_⟩
  rw [hA] at e
  cases e
  refine flat_cells dsV 3 (fun _ => rfl) (by decide) ds (fun j z hz i hi => ?_)
  obtain ⟨h1, h2, h3⟩ := hc j z hz
  rcases i with _ | _ | _ | i
  ·exact h1
  ·exact h2
  ·exact h3
  ·omega
theorem ints_cells {w : World} {A : Option Addr} {n : Nat} {xs : List Int} (h : IntsAt none w A n xs) : (xs.map intV).length = n * 1 ∧ ∀ ad, A = some ad → ∀ j u, (xs.map intV)[j]? = some u → w.cell? (ad.add j) = some u := by
 refine ⟨by rw [List.length_map, h.1, Nat.mul_one], fun ad e j u hj => ?_⟩
 rw [List.getElem?_map] at hj
 obtain ⟨x, hx, rfl⟩ := Option.map_eq_some_iff.1 hj
 obtain ⟨g, off, hA, hg, _, hc⟩ := h.2 (by have := (List.getElem?_eq_some_iff.1 hx).1; have := h.1; omega)
 rw [hA] at e
 cases e
 rw [Addr.add_lit]
 exact hc j x hx
theorem intsV_one (xs : List Int) : ∀ u ∈ xs.map intV, u.oneCell' = true := by
 intro u hu
 obtain ⟨e, _, rfl⟩ := List.mem_map.1 hu
 rfl
theorem Sized.ents {s : St} (h : Sized s) {x : Ino} (hx : x ∈ s.inos) : x.ents.length ≤ 1099511627776 := by
 have h1 := h.big
 obtain ⟨i, hi⟩ := List.getElem?_of_mem hx
 have := bulkE_le hi
 omega
set_option maxRecDepth 100000 in
set_option maxHeartbeats 8000000 in
theorem mclone_any (v : Value) (s : St) (w : World) (h : StAt none w v s) :
  Calls Tryz.prog 32 #[v] w fun e w' => ∃ zs vI vO vM, e = .returned (.agg #[vI, vO, vM]) ∧ OwnR w.heap.size w' s zs vI vO vM ∧ Below w.heap.size w w' := by
 obtain ⟨⟨A, n, c, E, m, d, D, k, e, rfl, hI, hD, hM, h5, h6, h7⟩, hz⟩ := h
 have hbig := hz.big
 have hn2 : n ≤ 1099511627776 := by have := hI.1; omega
 have hm2 : m ≤ 1099511627776 := by have := hD.1; omega
 have hk2 : k ≤ 1099511627776 := by have := hM.1; omega
 obtain ⟨W, hW, b0, b1, b2, hal, hlt0⟩ := box_st w A n c E m d D k e
 obtain ⟨W1, hW1⟩ : ∃ W1, W.alloc (.cells #[.slice none 0 0, .slice none 0 0, .slice none 0 0] 27) = W1 := ⟨_, rfl⟩
 have o0 : OutAt W w.heap.size (.slice A n c) (.slice E m d) (.slice D k e) := by rw [← hW]; exact heap_alloc_new w _
 have o1 : OutAt W1 W.heap.size (.slice none 0 0) (.slice none 0 0) (.slice none 0 0) := by rw [← hW1]; exact heap_alloc_new W _
 have l1 : Below W.heap.size W W1 := by rw [← hW1]; exact (Below.refl _ _).alloc (Nat.le_refl _) _
 have z0 : W.heap.size = w.heap.size + 1 := by rw [← hW]; simp
 have z1 : W1.heap.size = w.heap.size + 2 := by rw [← hW1]; simp; omega
 have o01 : OutAt W1 w.heap.size (.slice A n c) (.slice E m d) (.slice D k e) := (l1.block w.heap.size (by omega)).trans o0
 have hl : Below w.heap.size w W1 := Cv.next hal l1
 obtain ⟨zs0, hzs1, hzs2, hzs3, hzs4⟩ := (hI.below hl).pairs
 obtain ⟨zsw, hzw1, hzw2, hzw3, hzw4⟩ := hI.pairs
 have hcl0 := cloneI_row (zsw.flatMap inoV) A n c W1 h5 (by rw [flat_len inoV 4 (fun _ => rfl), hzw2]) (fun ad he j u hj => by
  have h9 := hzw4 ad he j u hj
  exact (hl.cell (World.block_lt_of_cell? _ _ h9)).trans h9) (inoV_one zsw hzw3) hn2
 have HZ := Lib.hid hz
 have HD := Lib.hid hD
 have HM := Lib.hid hM
 have HI0 := Lib.hid hI
 have HC0 := Lib.hid hcl0
 have HO01 := Lib.hid o01
 have HO1 := Lib.hid o1
 have HL := Lib.hid hl
 have HZ1 := Lib.hid hzw1
 have HZ2 := Lib.hid hzw2
 have HZ3 := Lib.hid hzw3
 have H6 := Lib.hid h6
 have H7 := Lib.hid h7
 obtain ⟨p0, p1, p2, pf⟩ := o01.get
 have hlW : w.heap.size < W1.heap.size := by omega
 clear hbig hI hD hM h5 h6 h7 hz b0 b1 b2 hal o0 o1 l1 o01 hl hzs1 hzs2 hzs3 hzs4 hzw1 hzw2 hzw3 hzw4 hcl0
 go_enter Tryz.func32, Tryz.ntmps32
 go_wp2_with fail
 refine HC0.out.mono ?_
 rintro e3 w3 ⟨v3, rfl, hr3, hb3⟩
 obtain ⟨A', c', rfl, hok3⟩ := hr3.slice
 have hO3 : OutAt w3 w.heap.size (.slice A n c) (.slice E m d) (.slice D k e) := (hb3.block w.heap.size hlW).trans HO01.out
 have hO3b : OutAt w3 W.heap.size (.slice none 0 0) (.slice none 0 0) (.slice none 0 0) := (hb3.block W.heap.size (by omega)).trans HO1.out
 obtain ⟨q0, q1, q2, qf⟩ := hO3.get
 obtain ⟨w4, hw4⟩ : ∃ w4, w3.setCell ⟨w.heap.size, 0, none⟩ (.slice A' n c') = w4 := ⟨_, rfl⟩
 have hne0 : W.heap.size ≠ w.heap.size := by omega
 have hO4 : OutAt w4 w.heap.size (.slice A' n c') (.slice E m d) (.slice D k e) := by rw [← hw4]; exact heap_setCell_same w3 _ 0 _ _ _ hO3
 have hO4b : OutAt w4 W.heap.size (.slice none 0 0) (.slice none 0 0) (.slice none 0 0) := by rw [← hw4]; exact (Below.heap_setCell w3 ⟨w.heap.size, 0, none⟩ _ W.heap.size hne0).trans hO3b
 have hB4 : Below w.heap.size w w4 := by rw [← hw4]; exact (Cv.next HL.out hb3).setCell (Nat.le_refl _) _
 have hS4 : W1.heap.size ≤ w4.heap.size := by rw [← hw4]; simpa [World.setCell] using hb3.size
 have hC4 : Cl w w4 s 0 zsw (.slice A' n c') := by
  rw [← hw4]
  refine Cl.set (cur := _) ⟨HZ1.out, ?_, fun j z _ hj => absurd hj (Nat.not_lt_zero _), fun j z hz _ => HZ3.out z (List.mem_of_getElem? hz), fun i j a b _ hi => absurd hi (Nat.not_lt_zero _)⟩ hO3
  rw [HZ2.out]
  exact hr3.lower (by omega)
 have HO4 := Lib.hid hO4
 have HO4b := Lib.hid hO4b
 have HB4 := Lib.hid hB4
 have HC4 := Lib.hid hC4
 obtain ⟨x0, x1, x2, xf⟩ := hO4.get
 clear hr3 hb3 hO3 hO3b hO4 hO4b hB4 hC4 HC0 hok3
 go_wp2_with fail
 go_loopw [11] (fun j wr => ∃ (q : Nat) (zs : List (Ino × Value)), j = .int .i64 q ∧ q ≤ n ∧ OutAt wr w.heap.size (.slice A' n c') (.slice E m d) (.slice D k e) ∧ OutAt wr W.heap.size (.slice none 0 0) (.slice none 0 0) (.slice none 0 0) ∧ Below w.heap.size w wr ∧ W1.heap.size ≤ wr.heap.size ∧ zs.length = n ∧ Cl w wr s q zs (.slice A' n c')) (fun j _ => n - (intOf j).toNat)
 case atStart => exact ⟨0, zsw, rfl, by omega, HO4.out, HO4b.out, HB4.out, hS4, HZ2.out, HC4.out⟩
 case round =>
  obtain ⟨q, zs, rfl, hq, hO, hOb, hbel, hsz, hzl, hCl⟩ := hrel
  obtain ⟨p0, p1, p2, pf⟩ := hO.get
  have hl0 : w.heap.size < wr.heap.size := by omega
  by_cases hlt : q < n
  ·obtain ⟨z, hzq⟩ : ∃ z, zs[q]? = some z := ⟨_, List.getElem?_eq_getElem (by omega)⟩
   obtain ⟨A2, m2, c2, hz2, hok2, hE2⟩ := hCl.left_ q z hzq (Nat.le_refl _)
   obtain ⟨g, cg, cur, hvg, hbg, hBg, hgl, hgc, hgs, hcells⟩ := hCl.rowI.open_ (by omega)
   have hA : A' = some ⟨g, 0, none⟩ := by injection hvg
   subst hA
   have f := flat_get inoV 4 (fun x => rfl) zs q z hzq
   have r2 : wr.cell? ⟨g, q * 4 + 2, none⟩ = some (.slice A2 m2 c2) := by rw [← hz2]; exact hcells _ _ (f 2 (by omega))
   have rf : wr.frozen? ⟨g, q * 4 + 2, none⟩ = false := frozen_of_row wr g _ _ _ hgc
   have hm3 : m2 ≤ 1099511627776 := by
    have h1 := hE2.1
    have h2 : z.1 ∈ s.inos := by rw [← hCl.inos]; exact List.mem_map_of_mem (List.mem_of_getElem? hzq)
    have := HZ.out.ents h2
    omega
   have hce : ∀ X, Below wr.heap.size wr X → Calls Tryz.prog 54 #[.slice A2 m2 c2] X fun e w' => ∃ v', e = .returned v' ∧ RowAt X.heap.size w' 77 2 v' m2 (z.1.ents.flatMap enV) ∧ Below X.heap.size X w' := fun X hX => by
    have hEX := ents_cells ((hE2.below hbel).below hX) hok2
    exact cloneE_row (z.1.ents.flatMap enV) A2 m2 c2 X hok2 hEX.1 hEX.2 (enV_one _) hm3
   have k0 : (0 : Int) ≤ (q : Int) := by omega
   have k1 : (q : Int) < (n : Int) := by omega
   have hm2e : m2 = z.1.ents.length := hE2.1.symm
   have HM2E := Lib.hid hm2e
   have HCE := Lib.hid hce
   have HCL := Lib.hid hCl
   have HO := Lib.hid hO
   have HOB := Lib.hid hOb
   have HB := Lib.hid hbel
   have HGC := Lib.hid hgc
   have HZQ := Lib.hid hzq
   clear hE2 hm2e hce hCl hO hOb hbel hgc hzq f hcells hz2 hbg hvg hok2
   go_wp2_with fail
   refine wp_region_held2 (S := (fun w' => w'.cell? ⟨w.heap.size, 0, none⟩ = some (.slice (some ⟨g, 0, none⟩) n c') ∧ w'.cell? ⟨g, q * 4 + 2, none⟩ = some (.slice A2 m2 c2))) 12 (by kernel_rfl) (by kernel_rfl) ?_
   have hHeld := (⟨p0, r2⟩ : (fun w' => w'.cell? ⟨w.heap.size, 0, none⟩ = some (.slice (some ⟨g, 0, none⟩) n c') ∧ w'.cell? ⟨g, q * 4 + 2, none⟩ = some (.slice A2 m2 c2)) wr.drew)
   intro hh
   try simp only [List.size_toArray, List.length_cons, List.length_nil, Nat.zero_add, Nat.reduceAdd, Array.replicate, List.replicate]
   refine held2_take hh (i := 0) (oi := _) (v := ?tv0) rfl (by decide) (by kernel_rfl) (by kernel_rfl) (fun _ _ _ h => h) (Or.inl ⟨by kernel_rfl, ?ty0⟩) hHeld ?tr0
   case ty0 => (intro w7 hS7; obtain ⟨s0, s1⟩ := hS7; go_simp; try (with_reducible rfl))
   clear hh; intro hh
   try simp only [Act.put, List.setIfInBounds_toArray, List.set_cons_zero, List.set_cons_succ]
   refine held2_take hh (i := 1) (oi := _) (v := ?tv1) rfl (by decide) (by kernel_rfl) (by kernel_rfl) (fun _ _ _ h => h) (Or.inl ⟨by kernel_rfl, ?ty1⟩) hHeld ?tr1
   case ty1 => (intro w7 hS7; obtain ⟨s0, s1⟩ := hS7; go_simp; try (with_reducible rfl))
   clear hh; intro hh
   try simp only [Act.put, List.setIfInBounds_toArray, List.set_cons_zero, List.set_cons_succ]
   refine held2_take hh (i := 2) (oi := _) (v := ?tv2) rfl (by decide) (by kernel_rfl) (by kernel_rfl) (fun _ _ _ h => h) (Or.inl ⟨by kernel_rfl, ?ty2⟩) hHeld ?tr2
   case ty2 => (intro w7 hS7; obtain ⟨s0, s1⟩ := hS7; go_simp; try (with_reducible rfl))
   clear hh; intro hh
   try simp only [Act.put, List.setIfInBounds_toArray, List.set_cons_zero, List.set_cons_succ]
   refine held2_take hh (i := 3) (oi := _) (v := ?tv3) rfl (by decide) (by kernel_rfl) (by kernel_rfl) (fun _ _ _ h => h) (Or.inl ⟨by kernel_rfl, ?ty3⟩) hHeld ?tr3
   case ty3 => (intro w7 hS7; obtain ⟨s0, s1⟩ := hS7; go_simp; try (with_reducible rfl))
   clear hh; intro hh
   try simp only [Act.put, List.setIfInBounds_toArray, List.set_cons_zero, List.set_cons_succ]
   refine held2_take hh (i := 4) (oi := _) (v := ?tv4) rfl (by decide) (by kernel_rfl) (by kernel_rfl) (fun _ _ _ h => h) (Or.inl ⟨by kernel_rfl, ?ty4⟩) hHeld ?tr4
   case ty4 => (intro w7 hS7; obtain ⟨s0, s1⟩ := hS7; go_simp; try (with_reducible rfl))
   clear hh; intro hh
   try simp only [Act.put, List.setIfInBounds_toArray, List.set_cons_zero, List.set_cons_succ]
   refine held2_take hh (i := 5) (oi := _) (v := ?tv5) rfl (by decide) (by kernel_rfl) (by kernel_rfl) (fun _ _ _ h => h) (Or.inl ⟨by kernel_rfl, ?ty5⟩) hHeld ?tr5
   case ty5 => (intro w7 hS7; obtain ⟨s0, s1⟩ := hS7; go_simp; try (with_reducible rfl))
   clear hh; intro hh
   try simp only [Act.put, List.setIfInBounds_toArray, List.set_cons_zero, List.set_cons_succ]
   refine held2_take hh (i := 6) (oi := _) (v := ?tv6) rfl (by decide) (by kernel_rfl) (by kernel_rfl) (fun _ _ _ h => h) (Or.inl ⟨by kernel_rfl, ?ty6⟩) hHeld ?tr6
   case ty6 => (intro w7 hS7; obtain ⟨s0, s1⟩ := hS7; go_simp; try (with_reducible rfl))
   clear hh; intro hh
   try simp only [Act.put, List.setIfInBounds_toArray, List.set_cons_zero, List.set_cons_succ]
   refine held2_take hh (i := 7) (oi := _) (v := ?tv7) rfl (by decide) (by kernel_rfl) (by kernel_rfl) (fun _ _ _ h => h) (Or.inl ⟨by kernel_rfl, ?ty7⟩) hHeld ?tr7
   case ty7 => (intro w7 hS7; obtain ⟨s0, s1⟩ := hS7; go_simp; try (with_reducible rfl))
   clear hh; intro hh
   try simp only [Act.put, List.setIfInBounds_toArray, List.set_cons_zero, List.set_cons_succ]
   refine held2_take hh (i := 8) (oi := _) (v := ?tv8) rfl (by decide) (by kernel_rfl) (by kernel_rfl) (fun _ _ _ h => h) (Or.inl ⟨by kernel_rfl, ?ty8⟩) hHeld ?tr8
   case ty8 => (intro w7 hS7; obtain ⟨s0, s1⟩ := hS7; go_simp; try (with_reducible rfl))
   clear hh; intro hh
   try simp only [Act.put, List.setIfInBounds_toArray, List.set_cons_zero, List.set_cons_succ]
   refine held2_turn hh (i := 9) (oi := _) rfl (by decide) (by kernel_rfl) rfl ?_
   clear hh
   go_simp
   go_at_call 54
   refine (HCE.out wr.drew (Cv.drewN_below (Below.refl _ _) 1)).mono ?_
   rintro e5 w5 ⟨v5, rfl, hr5, hb5⟩
   have hbw5 : Below wr.heap.size wr w5 := Cv.next (Cv.drewN_below (Below.refl _ _) 1) hb5
   have g0 := (hbw5.cell (p := ⟨w.heap.size, 0, none⟩) hl0).trans p0
   have g2 := (hbw5.cell (p := ⟨g, q * 4 + 2, none⟩) hgl).trans r2
   have gf := (hbw5.frozen (p := ⟨g, q * 4 + 2, none⟩) hgl).trans rf
   obtain ⟨A5, c5, rfl, _⟩ := hr5.slice
   refine ⟨⟨g0, g2⟩, fun hh => ?_⟩
   try clear hHeld
   have hHeld : (fun w' => w'.cell? ⟨w.heap.size, 0, none⟩ = some (.slice (some ⟨g, 0, none⟩) n c') ∧ w'.cell? ⟨g, q * 4 + 2, none⟩ = some (.slice A2 m2 c2)) w5 := ⟨g0, g2⟩
   try simp only [Act.put, List.setIfInBounds_toArray, List.set_cons_zero, List.set_cons_succ]
   refine held2_take hh (i := 10) (oi := _) (v := ?tv10) rfl (by decide) (by kernel_rfl) (by kernel_rfl) (fun _ _ _ h => h) (Or.inl ⟨by kernel_rfl, ?ty10⟩) hHeld ?tr10
   case ty10 => (intro w7 hS7; obtain ⟨s0, s1⟩ := hS7; go_simp; try (with_reducible rfl))
   clear hh; intro hh
   try simp only [Act.put, List.setIfInBounds_toArray, List.set_cons_zero, List.set_cons_succ]
   refine held2_take hh (i := 11) (oi := _) (v := ?tv11) rfl (by decide) (by kernel_rfl) (by kernel_rfl) (fun _ _ _ h => h) (Or.inl ⟨by kernel_rfl, ?ty11⟩) hHeld ?tr11
   case ty11 => (intro w7 hS7; obtain ⟨s0, s1⟩ := hS7; go_simp; try (with_reducible rfl))
   clear hh; intro hh
   try simp only [Act.put, List.setIfInBounds_toArray, List.set_cons_zero, List.set_cons_succ]
   refine held2_end (oi := _) rfl (by kernel_rfl) (by kernel_rfl) rfl ?_
   go_simp
   clear hh
   have hclN := HCL.out.step (by rw [hzl]) HZQ.out hbw5 (by omega) (v' := .slice A5 m2 c5) (by
    have h9 := hr5
    rw [HM2E.out] at h9
    rw [HM2E.out]
    exact h9)
   have hgO : w.heap.size ≠ g := blk_ne HO.out HGC.out (by decide)
   have hgO2 : W.heap.size ≠ g := blk_ne HOB.out HGC.out (by decide)
   have hON : OutAt (w5.setCell ⟨g, q * 4 + 2, none⟩ (.slice A5 m2 c5)) w.heap.size (.slice (some ⟨g, 0, none⟩) n c') (.slice E m d) (.slice D k e) := (Below.heap_setCell w5 ⟨g, q * 4 + 2, none⟩ _ w.heap.size hgO).trans ((hbw5.block w.heap.size hl0).trans HO.out)
   have hONb : OutAt (w5.setCell ⟨g, q * 4 + 2, none⟩ (.slice A5 m2 c5)) W.heap.size (.slice none 0 0) (.slice none 0 0) (.slice none 0 0) := (Below.heap_setCell w5 ⟨g, q * 4 + 2, none⟩ _ W.heap.size hgO2).trans ((hbw5.block W.heap.size (by omega)).trans HOB.out)
   have hBN : Below w.heap.size w (w5.setCell ⟨g, q * 4 + 2, none⟩ (.slice A5 m2 c5)) := (Cv.next HB.out hbw5).setCell hBg _
   have hSN : W1.heap.size ≤ (w5.setCell ⟨g, q * 4 + 2, none⟩ (.slice A5 m2 c5)).heap.size := by
    have := hbw5.size
    simp [World.setCell]
    omega
   have HCN := Lib.hid hclN
   have HON := Lib.hid hON
   have HONB := Lib.hid hONb
   have HBN := Lib.hid hBN
   clear hclN hON hONb hBN hr5 hb5 hbw5 hHeld
   go_wp2_with fail
   go_roundw
   case rel => exact ⟨q + 1, _, by go_num, by omega, HON.out, HONB.out, HBN.out, hSN, by rw [List.length_set]; exact hzl, HCN.out⟩
   case measure => simp [intOf]; omega
  ·have hqn : q = n := by omega
   subst hqn
   have q9 : decide ((q : Int) < (q : Int)) = false := by rw [decide_eq_false_iff_not]; omega
   have hcd : ∀ X, Below wr.heap.size wr X → Calls Tryz.prog 55 #[.slice E m d] X fun e w' => ∃ v', e = .returned v' ∧ RowAt X.heap.size w' 79 3 v' m (s.opn.flatMap dsV) ∧ Below X.heap.size X w' := fun X hX => by
    have hEX := descs_cells ((HD.out.below hbel).below hX) H6.out
    exact cloneD_row (s.opn.flatMap dsV) E m d X H6.out hEX.1 hEX.2 (dsV_one _) hm2
   have hcm : ∀ X, Below wr.heap.size wr X → Calls Tryz.prog 56 #[.slice D k e] X fun e w' => ∃ v', e = .returned v' ∧ RowAt X.heap.size w' 3 1 v' k (s.made.map intV) ∧ Below X.heap.size X w' := fun X hX => by
    have hEX := ints_cells ((HM.out.below hbel).below hX)
    exact cloneM_row (s.made.map intV) D k e X H7.out hEX.1 hEX.2 (intsV_one _) hk2
   have HCD := Lib.hid hcd
   have HCM := Lib.hid hcm
   have HCL := Lib.hid hCl
   have HO := Lib.hid hO
   have HOB := Lib.hid hOb
   have HB := Lib.hid hbel
   clear hcd hcm hCl hO hOb hbel
   go_wp2_with fail
   have hlR : W.heap.size < wr.heap.size := by omega
   go_region_law (first
    | (go_simp; go_at_call 55; (refine (HCD.out wr.drew (Cv.drewN_below (Below.refl _ _) 1)).mono ?_; rintro e6 w6 ⟨v6, rfl, hr6, hb6⟩; have hbw6 : Below wr.heap.size wr w6 := Cv.next (Cv.drewN_below (Below.refl _ _) 1) hb6; have g2 := (hbw6.cell (p := ⟨w.heap.size, 2, none⟩) hl0).trans p2))
    | (go_simp; go_at_call 56; (refine (HCM.out w6 hbw6).mono ?_; rintro e7 w7 ⟨v7, rfl, hr7, hb7⟩; have hbw7 : Below wr.heap.size wr w7 := Cv.next hbw6 hb7; have h1 := (hbw7.cell (p := ⟨w.heap.size, 1, none⟩) hl0).trans p1; have h2 := (hbw7.cell (p := ⟨w.heap.size, 2, none⟩) hl0).trans p2; have f1 := (hbw7.frozen (p := ⟨w.heap.size, 1, none⟩) hl0).trans (pf 1); have f2 := (hbw7.frozen (p := ⟨w.heap.size, 2, none⟩) hl0).trans (pf 2); obtain ⟨A6, c6, rfl, _⟩ := hr6.slice; obtain ⟨A7, c7, rfl, _⟩ := hr7.slice)))
   all_goals (
    obtain ⟨W9, hW9⟩ : ∃ W9, (w7.setCell ⟨w.heap.size, 1, none⟩ (.slice A6 m c6)).setCell ⟨w.heap.size, 2, none⟩ (.slice A7 k c7) = W9 := ⟨_, rfl⟩
    have hO7 : OutAt w7 w.heap.size (.slice A' q c') (.slice E m d) (.slice D k e) := (hbw7.block w.heap.size hl0).trans HO.out
    have hO8 : OutAt (w7.setCell ⟨w.heap.size, 1, none⟩ (.slice A6 m c6)) w.heap.size (.slice A' q c') (.slice A6 m c6) (.slice D k e) := heap_setCell_same w7 _ 1 _ _ _ hO7
    have hO9 : OutAt W9 w.heap.size (.slice A' q c') (.slice A6 m c6) (.slice A7 k c7) := by rw [← hW9]; exact heap_setCell_same _ _ 2 _ _ _ hO8
    have hneR : w.heap.size + 1 ≠ w.heap.size := by omega
    have hRo := HOB.out
    rw [z0] at hRo
    have hR7 : OutAt w7 (w.heap.size + 1) (.slice none 0 0) (.slice none 0 0) (.slice none 0 0) := (hbw7.block _ (by omega)).trans hRo
    have hR9 : OutAt W9 (w.heap.size + 1) (.slice none 0 0) (.slice none 0 0) (.slice none 0 0) := by
     rw [← hW9]
     exact (Below.heap_setCell _ ⟨w.heap.size, 2, none⟩ _ _ hneR).trans ((Below.heap_setCell w7 ⟨w.heap.size, 1, none⟩ _ _ hneR).trans hR7)
    have hsz6 : w.heap.size ≤ w6.heap.size := Nat.le_trans (by omega) hbw6.size
    have hml : s.opn.length = m := HD.out.1
    have hkl : s.made.length = k := HM.out.1
    have hown : OwnR w.heap.size W9 s zs (.slice A' q c') (.slice A6 m c6) (.slice A7 k c7) := by
     rw [← hW9]
     exact (((HCL.out.kept hbw7).all (by omega) (by rw [hml]; exact (hr6.fresh hb7).lower (by show w.heap.size ≤ wr.heap.size; omega)) (by rw [hkl]; exact hr7.lower hsz6) HZ.out).set hO7 (by decide) (by decide) (by decide) (by decide)).set hO8 (by decide) (by decide) (by decide) (by decide)
    have hB9 : Below w.heap.size w W9 := by
     rw [← hW9]
     exact ((Cv.next HB.out hbw7).setCell (Nat.le_refl _) _).setCell (Nat.le_refl _) _
    rw [hW9]
    obtain ⟨y0, y1, y2, _⟩ := hO9.get
    obtain ⟨x0', x1', x2', xf'⟩ := hR9.get
    obtain ⟨W8, hW8, hr8, hk8⟩ := hR9.three (.slice A' q c') (.slice A6 m c6) (.slice A7 k c7)
    have hR91 : OutAt (W9.setCell ⟨w.heap.size + 1, 0, none⟩ (.slice A' q c')) (w.heap.size + 1) (.slice A' q c') (.slice none 0 0) (.slice none 0 0) := heap_setCell_same W9 _ 0 _ _ _ hR9
    have hR92 : OutAt ((W9.setCell ⟨w.heap.size + 1, 0, none⟩ (.slice A' q c')).setCell ⟨w.heap.size + 1, 1, none⟩ (.slice A6 m c6)) (w.heap.size + 1) (.slice A' q c') (.slice A6 m c6) (.slice none 0 0) := heap_setCell_same _ _ 1 _ _ _ hR91
    have hown8 : OwnR w.heap.size W8 s zs (.slice A' q c') (.slice A6 m c6) (.slice A7 k c7) := by
     rw [← hW8]
     exact ((hown.set hR9 (by decide) (by decide) (by decide) (by decide)).set hR91 (by decide) (by decide) (by decide) (by decide)).set hR92 (by decide) (by decide) (by decide) (by decide)
    have hB8 : Below w.heap.size w W8 := by
     rw [← hW8]
     exact ((hB9.setCell (by show w.heap.size ≤ w.heap.size + 1; omega) _).setCell (by show w.heap.size ≤ w.heap.size + 1; omega) _).setCell (by show w.heap.size ≤ w.heap.size + 1; omega) _
    have HR8 := Lib.hid hr8
    have HOWN := Lib.hid hown8
    have HB8 := Lib.hid hB8
    clear hO7 hO8 hO9 hRo hR7 hR9 hown hB9 hR91 hR92 hown8 hB8 hr8 hk8 hW9 hr6 hr7 hb6 hb7 hbw6 hbw7
    go_wp2_with fail
    (try simp only [Exit.inBlock, Exit.then])
    refine bodyPost_ret (results_cell_row rfl _ _ (w.heap.size + 1) 27 _ (0, 0) _ rfl HR8.out Tryz.underlying27 rfl (by kernel_rfl)) rfl ?_
    exact ⟨zs, _, _, _, rfl, HOWN.out, HB8.out⟩)
end Go.Proofs.YtndcloohcfhejaaGreat
