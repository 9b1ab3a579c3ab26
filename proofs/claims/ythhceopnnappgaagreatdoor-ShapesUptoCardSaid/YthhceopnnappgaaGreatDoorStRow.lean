/- Rows that were appended to, as a state's parts. -/
import Derived.Test.YthhceopnnappgaaGreatDoorM01
import Derived.Laws.AppendOwnNone
set_option linter.unusedVariables false
set_option linter.unusedSimpArgs false
namespace Go.Proofs.YthhceopnnappgaaGreatDoor
open Go.RowKit
theorem flat_get {α : Type} (f : α → List Value) (k : Nat) (hk : ∀ x, (f x).length = k) : ∀ (l : List α) (j : Nat) (x : α), l[j]? = some x → ∀ i, i < k → (l.flatMap f)[j * k + i]? = (f x)[i]?
 | [], j, x, h, i, hi => by simp at h
 | y :: l, 0, x, h, i, hi => by
  have : y = x := by simpa using h
  subst this
  rw [List.flatMap_cons, List.getElem?_append_left (by rw [hk]; omega)]
  simp
 | y :: l, j + 1, x, h, i, hi => by
  have e : (j + 1) * k = k + j * k := by rw [Nat.add_mul]; omega
  rw [List.flatMap_cons, List.getElem?_append_right (by rw [hk]; omega), hk]
  have h2 : l[j]? = some x := by simpa using h
  rw [← flat_get f k hk l j x h2 i hi]
  congr 1
  omega
theorem flat_len {α : Type} (f : α → List Value) (k : Nat) (hk : ∀ x, (f x).length = k) : ∀ (l : List α), (l.flatMap f).length = l.length * k
 | [] => by simp
 | y :: l => by rw [List.flatMap_cons, List.length_append, hk, flat_len f k hk l, List.length_cons, Nat.add_mul]; omega
theorem row_any {w : World} {B : Nat} {e : TypeId} {size : Nat} {v : Value} {n : Nat} {xs : List Value} (h : w.ownsRow B e size v n xs) (hs : 0 < size) :
  ∃ A c, v = .slice A n c ∧ n ≤ c ∧ (A = none → n = 0 ∧ c = 0) ∧ (0 < n → ∃ g, A = some ⟨g, 0, none⟩ ∧ g < w.heap.size ∧ Mine (some B) e w g ∧ ∀ j, j < n * size → w.cell? ⟨g, j, none⟩ = xs[j]?) := by
 have h0 := h
 rcases h.2 with ⟨rfl, rfl⟩ | ⟨g, cap, cur, rfl, hb, hg, hnc, hcm, hcs, htk⟩
 ·exact ⟨none, 0, rfl, Nat.le_refl _, fun _ => ⟨rfl, rfl⟩, fun h => absurd h (by omega)⟩
 ·refine ⟨some ⟨g, 0, none⟩, cap, rfl, hnc, fun e => (by cases e), fun hn => ⟨g, rfl, (Array.getElem?_eq_some_iff.1 hg).1, fun C hC => ?_, fun j hj => h0.cellAt j hj⟩⟩
  cases hC
  exact ⟨hb, cur, hg⟩
def enV (e : En) : List Value := [.string e.name, .int .i64 e.num]
def dsV (d : Ds) : List Value := [.int .i64 d.core, .int .i64 d.fd, .int .i64 d.num]
def inoV (z : Ino × Value) : List Value := [.int .i64 z.1.num, .bool z.1.dir, z.2, .string z.1.data]
theorem EntsAt.of_row {B : Nat} {w : World} {v : Value} {n : Nat} {es : List En} (h : w.ownsRow B 84 2 v n (es.flatMap enV)) : ∃ A c, v = .slice A n c ∧ n ≤ c ∧ (A = none → n = 0 ∧ c = 0) ∧ EntsAt (some B) w A n es := by
 obtain ⟨A, c, hv, hc, hn, hg⟩ := row_any h (by decide)
 have hl : es.length = n := by
  have h1 := h.1
  rw [flat_len enV 2 (fun x => rfl)] at h1
  omega
 refine ⟨A, c, hv, hc, hn, hl, fun h0 => ?_⟩
 obtain ⟨g, hA, hlt, hm, hcell⟩ := hg h0
 refine ⟨g, 0, hA, hlt, hm, fun j e he => ?_⟩
 have hj : j < es.length := (List.getElem?_eq_some_iff.1 he).1
 have f := flat_get enV 2 (fun x => rfl) es j e he
 refine ⟨?_, ?_⟩
 ·rw [Nat.zero_add, hcell (j * 2) (by omega)]
  exact f 0 (by omega)
 ·rw [Nat.zero_add, hcell (j * 2 + 1) (by omega)]
  exact f 1 (by omega)
theorem DescsAt.of_row {B : Nat} {w : World} {v : Value} {n : Nat} {ds : List Ds} (h : w.ownsRow B 67 3 v n (ds.flatMap dsV)) : ∃ A c, v = .slice A n c ∧ n ≤ c ∧ (A = none → n = 0 ∧ c = 0) ∧ DescsAt (some B) w A n ds := by
 obtain ⟨A, c, hv, hc, hn, hg⟩ := row_any h (by decide)
 have hl : ds.length = n := by
  have h1 := h.1
  rw [flat_len dsV 3 (fun x => rfl)] at h1
  omega
 refine ⟨A, c, hv, hc, hn, hl, fun h0 => ?_⟩
 obtain ⟨g, hA, hlt, hm, hcell⟩ := hg h0
 refine ⟨g, 0, hA, hlt, hm, fun j e he => ?_⟩
 have hj : j < ds.length := (List.getElem?_eq_some_iff.1 he).1
 have f := flat_get dsV 3 (fun x => rfl) ds j e he
 refine ⟨?_, ?_, ?_⟩
 ·rw [Nat.zero_add, hcell (j * 3) (by omega)]
  exact f 0 (by omega)
 ·rw [Nat.zero_add, hcell (j * 3 + 1) (by omega)]
  exact f 1 (by omega)
 ·rw [Nat.zero_add, hcell (j * 3 + 2) (by omega)]
  exact f 2 (by omega)
theorem IntsAt.of_row {B : Nat} {w : World} {v : Value} {n : Nat} {xs : List Int} (h : w.ownsRow B 3 1 v n (xs.map (Value.int .i64))) : ∃ A c, v = .slice A n c ∧ n ≤ c ∧ (A = none → n = 0 ∧ c = 0) ∧ IntsAt (some B) w A n xs := by
 obtain ⟨A, c, hv, hc, hn, hg⟩ := row_any h (by decide)
 have hl : xs.length = n := by have := h.1; simpa using this
 refine ⟨A, c, hv, hc, hn, hl, fun h0 => ?_⟩
 obtain ⟨g, hA, hlt, hm, hcell⟩ := hg h0
 refine ⟨g, 0, hA, hlt, hm, fun j e he => ?_⟩
 have hj : j < xs.length := (List.getElem?_eq_some_iff.1 he).1
 rw [Nat.zero_add, hcell j (by omega)]
 simp [he]
structure InoRow (B : Nat) (w : World) (v : Value) (n : Nat) (zs : List (Ino × Value)) : Prop where
 row : w.ownsRow B 52 4 v n (zs.flatMap inoV)
 ents : ∀ z ∈ zs, ∃ A m c, z.2 = .slice A m c ∧ SlOk A m c ∧ EntsAt (some B) w A m z.1.ents
theorem InosAt.of_row {B : Nat} {w : World} {v : Value} {n : Nat} {zs : List (Ino × Value)} (h : InoRow B w v n zs) : ∃ A c, v = .slice A n c ∧ n ≤ c ∧ (A = none → n = 0 ∧ c = 0) ∧ InosAt (some B) w A n (zs.map Prod.fst) := by
 obtain ⟨A, c, hv, hc, hn, hg⟩ := row_any h.row (by decide)
 have hl : zs.length = n := by
  have h1 := h.row.1
  rw [flat_len inoV 4 (fun x => rfl)] at h1
  omega
 refine ⟨A, c, hv, hc, hn, by simpa using hl, fun h0 => ?_⟩
 obtain ⟨g, hA, hlt, hm, hcell⟩ := hg h0
 refine ⟨g, 0, hA, hlt, hm, fun j x hx => ?_⟩
 rw [List.getElem?_map] at hx
 obtain ⟨z, hz, rfl⟩ := Option.map_eq_some_iff.1 hx
 have hj : j < zs.length := (List.getElem?_eq_some_iff.1 hz).1
 have f := flat_get inoV 4 (fun x => rfl) zs j z hz
 obtain ⟨E, m, d, he, hmd, hents⟩ := h.ents z (List.mem_of_getElem? hz)
 refine ⟨?_, ?_, ⟨E, m, d, ?_, hmd, hents⟩, ?_⟩
 ·rw [Nat.zero_add, hcell (j * 4) (by omega)]
  exact f 0 (by omega)
 ·rw [Nat.zero_add, hcell (j * 4 + 1) (by omega)]
  exact f 1 (by omega)
 ·rw [Nat.zero_add, hcell (j * 4 + 2) (by omega), ← he]
  exact f 2 (by omega)
 ·rw [Nat.zero_add, hcell (j * 4 + 3) (by omega)]
  exact f 3 (by omega)
end Go.Proofs.YthhceopnnappgaaGreatDoor
