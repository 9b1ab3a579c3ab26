/- Parts of the proof, side by side: DoOk2, MoPlain, MoAt, MoFile, MoPlain2, MoPlain3. -/
import Derived.Test.YthhceopnnappgaaGreatM32
import Derived.Test.YthhceopnnappgaaGreatM25
import Derived.Test.YthhceopnnappgaaGreatM14
import Derived.Test.YthhceopnnappgaaGreatM27
import Derived.Test.YthhceopnnappgaaGreatM23
import Derived.Test.YthhceopnnappgaaGreatM26
import Derived.Test.YthhceopnnappgaaGreatM00
import Derived.WalkLawsBesides
import Derived.Handy
import Derived.Lib.OthersKept
import Derived.WalkSmall
import Derived.Deep.RegionHeld3
import Derived.Test.YthhceopnnappgaaGreatM19
set_option linter.unusedVariables false
set_option linter.unusedSimpArgs false
namespace Go.Proofs.YthhceopnnappgaaGreat
theorem Good.whole {s : St} (h : Good s) : Whole s.inos := may_whole ((good_iff s).2 h)
theorem Small.dropI {a b c : Nat} {s : St} (h : Small a b c s) (num : Int) : Small a b c { s with inos := Go.Proofs.YthhceopnnappgaaGreat.dropI s.inos num } :=
 ⟨by have := (dropI_len s.inos num).1; have := h.il; show (Go.Proofs.YthhceopnnappgaaGreat.dropI s.inos num).length ≤ a; omega, fun x hx => h.io x (dropI_mem _ _ _ hx), h.ol, h.ml, h.mr⟩
theorem Small.sweep {a b c : Nat} {s : St} (h : Small a b c s) (num : Int) : Small a b c (sweepV s num) := by
 unfold sweepV
 split
 ·exact h
 ·exact h.dropI num
theorem Small.opn {a b c : Nat} {s : St} (h : Small a b c s) (ds : List Ds) (hd : ds.length ≤ c + 1) : Small a b (c + 1) { s with opn := ds } := ⟨h.il, h.io, hd, h.ml, h.mr⟩
theorem Small.setData {a b c : Nat} {s : St} (h : Small a b c s) (num : Int) (d : ByteArray) (hd : d.size ≤ 140737488355328) : Small a b c { s with inos := Go.Proofs.YthhceopnnappgaaGreat.setData s.inos num d } := by
 refine ⟨by show (Go.Proofs.YthhceopnnappgaaGreat.setData s.inos num d).length ≤ a; unfold Go.Proofs.YthhceopnnappgaaGreat.setData; rw [List.length_modify]; exact h.il, fun x hx => ?_, h.ol, h.ml, h.mr⟩
 rcases modify_mem _ _ _ _ hx with hx | ⟨z, hz, rfl⟩
 ·exact h.io x hx
 ·have := h.io z hz
  exact ⟨this.1, hd, this.2.2⟩
theorem Small.made {a b c : Nat} {s : St} (h : Small a b c s) (xs : List Int) (hl : xs.length ≤ 8) (hr : ∀ m ∈ xs, 0 ≤ m ∧ m ≤ 33) : Small a b c { s with made := xs } := ⟨h.il, h.io, h.ol, hl, hr⟩
theorem ltB_irrefl : ∀ (a : List UInt8), ltB a a = false
 | [] => rfl
 | a :: l => by unfold ltB; rw [if_pos rfl]; exact ltB_irrefl l
theorem ltN_irrefl (a : ByteArray) : ltN a a = false := ltB_irrefl _
theorem ltN_asymm {a b : ByteArray} (h : ltN a b = true) : ltN b a = false := by
 cases h2 : ltN b a
 ·rfl
 ·have := ltN_trans h h2
  rw [ltN_irrefl] at this
  cases this
theorem ltB_tri : ∀ (a b : List UInt8), ltB a b = false → ltB b a = false → a = b
 | [], [], _, _ => rfl
 | [], _ :: _, h, _ => by simp [ltB] at h
 | _ :: _, [], _, h => by simp [ltB] at h
 | a :: al, b :: bl, h1, h2 => by
  unfold ltB at h1 h2
  by_cases e : a = b
  ·subst e
   rw [if_pos rfl] at h1 h2
   rw [ltB_tri al bl h1 h2]
  ·rw [if_neg e, decide_eq_false_iff_not] at h1
   rw [if_neg (fun e2 => e e2.symm), decide_eq_false_iff_not] at h2
   exact absurd (UInt8.le_antisymm (UInt8.not_lt.1 h2) (UInt8.not_lt.1 h1)) e
theorem ltN_tri {a b : ByteArray} (h1 : ltN a b = false) (h2 : ltN b a = false) : a = b := by
 have h := ltB_tri _ _ h1 h2
 cases a; cases b
 exact congrArg ByteArray.mk (Array.toList_inj.1 h)
theorem EnPos.tail {e : En} {t : List En} {nm : ByteArray} {i : Nat} {b : Bool} (h : EnPos (e :: t) nm (i + 1) b) : EnPos t nm i b :=
 ⟨by have := h.le; simp at this; omega, fun k x hk hx => h.lo (k + 1) x (by omega) (by simpa using hx), fun k x hk hx => h.hi (k + 1) x (by omega) (by simpa using hx), fun hb => by
  obtain ⟨x, hx, hn⟩ := h.is_ hb
  exact ⟨x, by simpa using hx, hn⟩, fun hb => by
  obtain ⟨x, hx, hn⟩ := hb
  exact h.of_ ⟨x, by simpa using hx, hn⟩⟩
theorem EnPos.head {e : En} {t : List En} {nm : ByteArray} {i : Nat} {b : Bool} (h : EnPos (e :: t) nm (i + 1) b) : ltN e.name nm = true := h.lo 0 e (by omega) rfl
theorem RiseE.tail {e : En} {t : List En} (h : RiseE (e :: t)) : RiseE t := fun i j x y hij hx hy => h (i + 1) (j + 1) x y (by omega) (by simpa using hx) (by simpa using hy)
theorem dropE_none : ∀ (l : List En) (nm : ByteArray), (∀ x ∈ l, x.name ≠ nm) → dropE l nm = l
 | [], _, _ => rfl
 | y :: ys, nm, hl => by
  unfold dropE
  rw [if_neg (hl y (by simp)), dropE_none ys nm (fun x hx => hl x (by simp [hx]))]
theorem dropE_pos : ∀ (es : List En) (nm : ByteArray) (i : Nat), RiseE es → EnPos es nm i true → dropE es nm = es.take i ++ es.drop (i + 1)
 | [], nm, i, hr, h => by
  obtain ⟨x, hx, _⟩ := h.is_ rfl
  simp at hx
 | e :: t, nm, 0, hr, h => by
  obtain ⟨y, hy, hn⟩ := h.is_ rfl
  have : e = y := by simpa using hy
  subst this
  unfold dropE
  rw [if_pos hn, dropE_none t nm (fun x hx e2 => ?_)]
  ·rfl
  ·obtain ⟨j, hj⟩ := List.getElem?_of_mem hx
   have h1 := hr 0 (j + 1) e x (by omega) rfl (by simpa using hj)
   rw [hn, e2, ltN_irrefl] at h1
   cases h1
 | e :: t, nm, i + 1, hr, h => by
  have hne : e.name ≠ nm := fun e2 => by
   have := h.head
   rw [e2, ltN_irrefl] at this
   cases this
  unfold dropE
  rw [if_neg hne, dropE_pos t nm i hr.tail h.tail]
  rfl
theorem entsG_rise (is : List Ino) : ∀ (es : List En) (p : Option ByteArray) (many : Nat → Nat), entsG is es p many = true → RiseE es ∧ ∀ q x, p = some q → es[0]? = some x → ltN q x.name = true
 | [], p, many, h => ⟨fun i j x y _ hx => by simp at hx, fun q x _ hx => by simp at hx⟩
 | e :: es, p, many, h => by
  unfold entsG at h
  by_cases h1 : entBad is p e = true
  ·rw [if_pos h1] at h; cases h
  ·rw [if_neg h1] at h
   by_cases h2 : 4 < many (bktB e.name) + 1
   ·rw [if_pos h2] at h; cases h
   ·rw [if_neg h2] at h
    obtain ⟨r1, r2⟩ := entsG_rise is es (some e.name) _ h
    have key : ∀ (j : Nat) (y : En), es[j]? = some y → ltN e.name y.name = true := by
     intro j
     induction j with
     | zero => intro y hy; exact r2 _ _ rfl hy
     | succ j ih =>
      intro y hy
      have hjl : j < es.length := by have := (List.getElem?_eq_some_iff.1 hy).1; omega
      exact ltN_trans (ih _ (List.getElem?_eq_getElem hjl)) (r1 j (j + 1) _ _ (by omega) (List.getElem?_eq_getElem hjl) hy)
    refine ⟨fun i j x y hij hx hy => ?_, fun q x hp hx => ?_⟩
    ·cases j with
     | zero => omega
     | succ j =>
      have hy2 : es[j]? = some y := by simpa using hy
      cases i with
      | zero =>
       have : e = x := by simpa using hx
       subst this
       exact key j y hy2
      | succ i => exact r1 i j x y (by omega) (by simpa using hx) hy2
    ·have : e = x := by simpa using hx
     subst this
     subst hp
     cases h3 : ltN q e.name
     ·exfalso
      apply h1
      unfold entBad
      simp [h3]
     ·rfl
theorem Good.riseI {s : St} (h : Good s) : RiseI s.inos := fun i j x y hij hx hy => by
 obtain ⟨hi, rfl⟩ := List.getElem?_eq_some_iff.1 hx
 obtain ⟨hj, rfl⟩ := List.getElem?_eq_some_iff.1 hy
 exact List.pairwise_iff_getElem.1 h.rise i j hi hj hij
theorem RiseI.tail {e : Ino} {t : List Ino} (h : RiseI (e :: t)) : RiseI t := fun i j x y hij hx hy => h (i + 1) (j + 1) x y (by omega) (by simpa using hx) (by simpa using hy)
end Go.Proofs.YthhceopnnappgaaGreat
namespace Go.Proofs.YthhceopnnappgaaGreat
open Go.RowKit
theorem Own2.at_ {B : Nat} {w : World} {p : Nat} {s : St} {zs : List (Ino × Value)} {vI vO vM : Value} (h : Own2 B w p s zs vI vO vM) {i : Nat} {x : Ino} (hx : s.inos[i]? = some x) :
  ∃ g c E m d, vI = .slice (some ⟨g, 0, none⟩) s.inos.length c ∧ zs[i]? = some (x, .slice E m d) ∧ g < w.heap.size ∧ B ≤ g ∧ i < s.inos.length ∧ w.cell? ⟨g, i * 4, none⟩ = some (.int .i64 x.num) ∧ w.cell? ⟨g, i * 4 + 1, none⟩ = some (.bool x.dir) ∧ w.cell? ⟨g, i * 4 + 2, none⟩ = some (.slice E m d) ∧ w.cell? ⟨g, i * 4 + 3, none⟩ = some (.string x.data) ∧ (∀ j, w.frozen? ⟨g, j, none⟩ = false) ∧ SlOk E m d ∧ EntsAt none w E m x.ents := by
 have hl : s.inos.length = zs.length := by rw [← h.inos, List.length_map]
 have hil := (List.getElem?_eq_some_iff.1 hx).1
 obtain ⟨g, c, cur, hv, _, hB, hlt, hg, _, hc⟩ := h.rowI.open_ (by omega)
 rw [← h.inos, List.getElem?_map] at hx
 obtain ⟨z, hz, rfl⟩ := Option.map_eq_some_iff.1 hx
 have f := flat_get inoV 4 (fun x => rfl) zs i z hz
 obtain ⟨E, d, he, hmd, hE⟩ := (h.ents z (List.mem_of_getElem? hz)).ents
 refine ⟨g, c, E, z.1.ents.length, d, by rw [hl]; exact hv, by rw [← he]; exact hz, hlt, hB, hil, hc _ _ (f 0 (by omega)), hc _ _ (f 1 (by omega)), ?_, hc _ _ (f 3 (by omega)), fun j => frozen_of_row w g j _ _ hg, hmd, hE⟩
 rw [← he]
 exact hc _ _ (f 2 (by omega))
theorem Own2.s0 {B : Nat} {w : World} {p : Nat} {s : St} {zs : List (Ino × Value)} {vI vO vM : Value} (h : Own2 B w p s zs vI vO vM) : w.cell? ⟨p, 0, none⟩ = some vI := by rw [cell_of_row w p _ _ _ (0, 0) h.cell]; rfl
theorem Own2.s1 {B : Nat} {w : World} {p : Nat} {s : St} {zs : List (Ino × Value)} {vI vO vM : Value} (h : Own2 B w p s zs vI vO vM) : w.cell? ⟨p, 1, none⟩ = some vO := by rw [cell_of_row w p _ _ _ (0, 0) h.cell]; rfl
theorem Own2.s2 {B : Nat} {w : World} {p : Nat} {s : St} {zs : List (Ino × Value)} {vI vO vM : Value} (h : Own2 B w p s zs vI vO vM) : w.cell? ⟨p, 2, none⟩ = some vM := by rw [cell_of_row w p _ _ _ (0, 0) h.cell]; rfl
theorem Own2.lt {B : Nat} {w : World} {p : Nat} {s : St} {zs : List (Ino × Value)} {vI vO vM : Value} (h : Own2 B w p s zs vI vO vM) : p < w.heap.size := (Array.getElem?_eq_some_iff.1 h.cell).1
theorem gopens_mem (is : List Ino) (n : Nat) : ∀ (ds : List Ds) (q : Option Ds), opensG is n ds q = true → ∀ d ∈ ds, dsBad is n d = false
 | [], _, _, d, hd => by simp at hd
 | y :: ds, q, h, d, hd => by
  unfold opensG at h
  split at h
  ·cases h
  ·rename_i h1
   split at h
   ·cases h
   ·rcases List.mem_cons.1 hd with rfl | hd
    ·simpa using h1
    ·exact gopens_mem is n ds _ h d hd
theorem Good.opens {s : St} (h : Good s) : ∀ d ∈ s.opn, 0 ≤ d.core ∧ d.core < (s.made.length : Int) ∧ 0 ≤ d.fd ∧ d.fd < 4 ∧ ∃ (i : Nat) (x : Ino), atV s.inos d.num = (i : Int) ∧ s.inos[i]? = some x ∧ x.num = d.num ∧ x.dir = false := by
 intro d hd
 have h1 := gopens_mem _ _ _ _ h.opn d hd
 unfold dsBad at h1
 simp only [Bool.or_eq_false_iff, decide_eq_false_iff_not] at h1
 obtain ⟨⟨⟨⟨a1, a2⟩, a3⟩, a4⟩, a5⟩ := h1
 refine ⟨by omega, by omega, by omega, by omega, ?_⟩
 rcases atV_cases s.inos d.num with ⟨h2, _⟩ | ⟨k, x, h2, h3, h4, _⟩
 ·rw [h2] at a5
  simp [inoAt] at a5
 ·rw [h2, inoAt_nat, h3] at a5
  exact ⟨k, x, h2, h3, h4, a5⟩
end Go.Proofs.YthhceopnnappgaaGreat
namespace Go.Proofs.YthhceopnnappgaaGreat
theorem linkE_append : ∀ (a b : List En) (num : Int), linkE (a ++ b) num = linkE a num + linkE b num
 | [], b, num => by simp [linkE]
 | e :: a, b, num => by rw [List.cons_append, linkE, linkE, linkE_append a b num]; omega
theorem linkE_less (es : List En) (i : Nat) (e : En) (num : Int) (h : es[i]? = some e) : linkE es num = linkE (es.take i ++ es.drop (i + 1)) num + (if e.num = num then 1 else 0) := by
 have hl := (List.getElem?_eq_some_iff.1 h).1
 have he := (List.getElem?_eq_some_iff.1 h).2
 have : es = es.take i ++ e :: es.drop (i + 1) := by
  rw [← he, ← List.drop_eq_getElem_cons hl, List.take_append_drop]
 rw [linkE_append]
 conv => lhs; rw [this]
 rw [linkE_append, linkE]
 omega
theorem linkI_set : ∀ (is : List Ino) (i : Nat) (x y : Ino) (num : Int), is[i]? = some x → linkI (is.set i y) num + (if x.dir then linkE x.ents num else 0) = linkI is num + (if y.dir then linkE y.ents num else 0)
 | [], i, x, y, num, h => by simp at h
 | z :: is, 0, x, y, num, h => by
  have : z = x := by simpa using h
  subst this
  rw [List.set_cons_zero, linkI, linkI]
  omega
 | z :: is, i + 1, x, y, num, h => by
  have ih := linkI_set is i x y num (by simpa using h)
  rw [List.set_cons_succ, linkI, linkI]
  omega
theorem get_set_ne {α : Type} {l : List α} {i k : Nat} {y : α} (h : k ≠ i) : (l.set i y)[k]? = l[k]? := by
 rw [List.getElem?_set, if_neg (fun e => h e.symm)]
theorem RiseI.set {is : List Ino} (h : RiseI is) {i : Nat} {x y : Ino} (hx : is[i]? = some x) (hn : y.num = x.num) : RiseI (is.set i y) := by
 have key : ∀ (j : Nat) (z : Ino), (is.set i y)[j]? = some z → ∃ z', is[j]? = some z' ∧ z'.num = z.num := by
  intro j z hz
  by_cases e : j = i
  ·subst e
   have hl := (List.getElem?_eq_some_iff.1 hx).1
   rw [List.getElem?_set, if_pos rfl, if_pos hl] at hz
   cases hz
   exact ⟨x, hx, hn.symm⟩
  ·rw [get_set_ne e] at hz
   exact ⟨z, hz, rfl⟩
 intro a b u v hab hu hv
 obtain ⟨u', hu1, hu2⟩ := key a u hu
 obtain ⟨v', hv1, hv2⟩ := key b v hv
 rw [← hu2, ← hv2]
 exact h a b u' v' hab hu1 hv1
theorem EnPos.of_name {es : List En} (hr : RiseE es) {nm : ByteArray} {j : Nat} {e : En} (hj : es[j]? = some e) (hn : e.name = nm) : EnPos es nm j true := by
 have hl := (List.getElem?_eq_some_iff.1 hj).1
 refine ⟨by omega, fun k x hk hx => by rw [← hn]; exact hr k j x e hk hx hj, fun k x hk hx => ?_, fun _ => ⟨e, hj, hn⟩, fun _ => rfl⟩
 by_cases h : k = j
 ·subst h
  rw [hj] at hx
  cases hx
  rw [hn, ltN_irrefl]
 ·rw [← hn]
  exact ltN_asymm (hr j k e x (by omega) hj hx)
def ltD (a b : Ds) : Prop := a.core < b.core ∨ (a.core = b.core ∧ a.fd < b.fd)
def RiseD (ds : List Ds) : Prop := ∀ (i j : Nat) (x y : Ds), i < j → ds[i]? = some x → ds[j]? = some y → ltD x y
theorem ltD_trans {a b c : Ds} (h1 : ltD a b) (h2 : ltD b c) : ltD a c := by unfold ltD at *; omega
theorem opensG_rise (is : List Ino) (n : Nat) : ∀ (ds : List Ds) (p : Option Ds), opensG is n ds p = true → RiseD ds ∧ ∀ q x, p = some q → ds[0]? = some x → ltD q x
 | [], p, h => ⟨fun i j x y _ hx => by simp at hx, fun q x _ hx => by simp at hx⟩
 | d :: ds, p, h => by
  unfold opensG at h
  by_cases h1 : dsBad is n d = true
  ·rw [if_pos h1] at h; cases h
  ·rw [if_neg h1] at h
   by_cases h2 : dsPrev p d = true
   ·rw [if_pos h2] at h; cases h
   ·rw [if_neg h2] at h
    obtain ⟨r1, r2⟩ := opensG_rise is n ds (some d) h
    have key : ∀ (j : Nat) (y : Ds), ds[j]? = some y → ltD d y := by
     intro j
     induction j with
     | zero => intro y hy; exact r2 _ _ rfl hy
     | succ j ih =>
      intro y hy
      have hjl : j < ds.length := by have := (List.getElem?_eq_some_iff.1 hy).1; omega
      exact ltD_trans (ih _ (List.getElem?_eq_getElem hjl)) (r1 j (j + 1) _ _ (by omega) (List.getElem?_eq_getElem hjl) hy)
    refine ⟨fun i j x y hij hx hy => ?_, fun q x hp hx => ?_⟩
    ·cases j with
     | zero => omega
     | succ j =>
      have hy2 : ds[j]? = some y := by simpa using hy
      cases i with
      | zero =>
       have : d = x := by simpa using hx
       subst this
       exact key j y hy2
      | succ i => exact r1 i j x y (by omega) (by simpa using hx) hy2
    ·have : d = x := by simpa using hx
     subst this
     subst hp
     unfold dsPrev at h2
     simp only [Bool.or_eq_true, Bool.and_eq_true, decide_eq_true_eq] at h2
     unfold ltD
     omega
theorem Good.riseD {s : St} (h : Good s) : RiseD s.opn := (opensG_rise _ _ _ _ h.opn).1
structure Scan (ds : List Ds) (core : Int) (i : Nat) (fd : Nat) (at_ : Nat) : Prop where
 le : at_ ≤ i
 lo : ∀ (k : Nat) (d : Ds), k < at_ → ds[k]? = some d → d.core < core ∨ (d.core = core ∧ d.fd < (fd : Int))
 hi : ∀ (k : Nat) (d : Ds), at_ ≤ k → k < i → ds[k]? = some d → core < d.core ∨ (d.core = core ∧ (fd : Int) < d.fd)
 all : ∀ f, f < fd → ∃ (k : Nat) (d : Ds), k < i ∧ ds[k]? = some d ∧ d.core = core ∧ d.fd = (f : Int)
theorem Scan.start (ds : List Ds) (core : Int) : Scan ds core 0 0 0 := ⟨Nat.le_refl _, fun k d hk => by omega, fun k d _ hk => by omega, fun f hf => by omega⟩
theorem Scan.step {ds : List Ds} {core : Int} {i fd at_ : Nat} (h : Scan ds core i fd at_) (hr : RiseD ds) (h0 : ∀ d ∈ ds, 0 ≤ d.fd) {o : Ds} (ho : ds[i]? = some o) :
  (o.core < core → Scan ds core (i + 1) fd (i + 1)) ∧ (¬ o.core < core → o.core = core → o.fd = (fd : Int) → Scan ds core (i + 1) (fd + 1) (i + 1)) ∧ (¬ o.core < core → ¬ (o.core = core ∧ o.fd = (fd : Int)) → Scan ds core (i + 1) fd at_) := by
 refine ⟨fun hc => ?_, fun hn hc hf => ?_, fun hn hne => ?_⟩
 ·refine ⟨Nat.le_refl _, fun k d hk hd => ?_, fun k d h1 h2 => by omega, fun f hf => ?_⟩
  ·by_cases e : k = i
   ·subst e
    rw [ho] at hd
    cases hd
    exact .inl hc
   ·have := hr k i d o (by omega) hd ho
    unfold ltD at this
    left; omega
  ·obtain ⟨k, d, h1, h2⟩ := h.all f hf
   exact ⟨k, d, by omega, h2⟩
 ·refine ⟨Nat.le_refl _, fun k d hk hd => ?_, fun k d h1 h2 => by omega, fun f hf2 => ?_⟩
  ·by_cases e : k = i
   ·subst e
    rw [ho] at hd
    cases hd
    right; exact ⟨hc, by omega⟩
   ·have := hr k i d o (by omega) hd ho
    unfold ltD at this
    omega
  ·by_cases e : f = fd
   ·subst e
    exact ⟨i, o, by omega, ho, hc, hf⟩
   ·obtain ⟨k, d, h1, h2⟩ := h.all f (by omega)
    exact ⟨k, d, by omega, h2⟩
 ·refine ⟨by have := h.le; omega, h.lo, fun k d h1 h2 hd => ?_, fun f hf => ?_⟩
  ·by_cases e : k = i
   ·subst e
    rw [ho] at hd
    cases hd
    by_cases hc : o.core = core
    ·right
     refine ⟨hc, ?_⟩
     by_cases hlt : o.fd < (fd : Int)
     ·have hz := h0 o (List.mem_of_getElem? ho)
      obtain ⟨k', d', h3, h4, h5, h6⟩ := h.all o.fd.toNat (by omega)
      have := hr k' k d' o h3 h4 ho
      unfold ltD at this
      omega
     ·have : o.fd ≠ (fd : Int) := fun e => hne ⟨hc, e⟩
      omega
    ·left; omega
   ·exact h.hi k d h1 (by omega) hd
  ·obtain ⟨k, d, h1, h2⟩ := h.all f hf
   exact ⟨k, d, by omega, h2⟩
end Go.Proofs.YthhceopnnappgaaGreat
