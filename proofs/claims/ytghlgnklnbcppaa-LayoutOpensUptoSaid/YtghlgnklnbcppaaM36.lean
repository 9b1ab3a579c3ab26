/- Parts of the proof, side by side: DoOk2, MoPlain, MoFile, MoPlain2, MoPlain4, MoPlain3. -/
import Derived.Test.YtghlgnklnbcppaaM35
import Derived.Test.YtghlgnklnbcppaaM15
import Derived.Test.YtghlgnklnbcppaaM06
import Derived.Test.YtghlgnklnbcppaaM17
import Derived.Test.YtghlgnklnbcppaaM14
import Derived.Test.YtghlgnklnbcppaaM16
import Derived.Test.YtghlgnklnbcppaaM00
import Derived.WalkLawsBesides
import Derived.Handy
import Derived.Lib.OthersKept
import Derived.WalkSmall
import Derived.Deep.RegionHeld3
import Derived.Test.YtghlgnklnbcppaaM09
set_option linter.unusedVariables false
set_option linter.unusedSimpArgs false
set_option linter.unusedVariables false
set_option linter.unusedSimpArgs false
namespace Go.Proofs.Ytghlgnklnbcppaa
theorem Good.whole {s : St} (h : Good s) : Whole s.inos := may_whole ((good_iff s).2 h)
theorem Good.num_range {s : St} (h : Good s) {num : Int} (hn : 0 ≤ atV s.inos num) : 1 ≤ num ∧ num ≤ 257 := by
 obtain ⟨k, x, _, hx, hxn⟩ := atV_some hn
 have := (may_facts ((good_iff s).2 h)).nums x (List.mem_of_getElem? hx)
 omega
theorem Small.dropI {a b c : Nat} {s : St} (h : Small a b c s) (num : Int) : Small a b c { s with inos := Go.Proofs.Ytghlgnklnbcppaa.dropI s.inos num } :=
 ⟨by have := (dropI_len s.inos num).1; have := h.il; show (Go.Proofs.Ytghlgnklnbcppaa.dropI s.inos num).length ≤ a; omega, fun x hx => h.io x (dropI_mem _ _ _ hx), h.ol, h.ml, h.mr⟩
theorem Small.sweep {a b c : Nat} {s : St} (h : Small a b c s) (num : Int) : Small a b c (sweepV s num) := by
 unfold sweepV
 split
 ·exact h
 ·exact h.dropI num
theorem Small.opn {a b c : Nat} {s : St} (h : Small a b c s) (ds : List Ds) (hd : ds.length ≤ c + 1) : Small a b (c + 1) { s with opn := ds } := ⟨h.il, h.io, hd, h.ml, h.mr⟩
theorem Small.setData {a b c : Nat} {s : St} (h : Small a b c s) (num : Int) (d : ByteArray) (hd : d.size ≤ 140737488355328) : Small a b c { s with inos := Go.Proofs.Ytghlgnklnbcppaa.setData s.inos num d } := by
 refine ⟨by show (Go.Proofs.Ytghlgnklnbcppaa.setData s.inos num d).length ≤ a; unfold Go.Proofs.Ytghlgnklnbcppaa.setData; rw [List.length_modify]; exact h.il, fun x hx => ?_, h.ol, h.ml, h.mr⟩
 rcases modify_mem _ _ _ _ hx with hx | ⟨z, hz, rfl⟩
 ·exact h.io x hx
 ·have := h.io z hz
  exact ⟨this.1, hd, this.2.2⟩
theorem Small.made {a b c : Nat} {s : St} (h : Small a b c s) (xs : List Int) (hl : xs.length ≤ 8) (hr : ∀ m ∈ xs, 0 ≤ m ∧ m ≤ 33) : Small a b c { s with made := xs } := ⟨h.il, h.io, h.ol, hl, hr⟩
theorem layL_len (l : List UInt8) (o : Nat) (d : List UInt8) : (layL l o d).length = max l.length (o + d.length) := by
 unfold layL
 rw [List.length_append, List.length_append, List.length_take, List.length_drop, sizedL_len]
 omega
theorem txt_size (l : List UInt8) : (txt l).size = l.length := by
 show l.toArray.size = _
 simp
theorem make_sized {s : St} (h : Good s) (c : Ca) (hc0 : 0 ≤ c.core) (hc1 : c.core < (s.made.length : Int)) : MakeSized s c ∧ Sized (make1V s c).1 := by
 have hs := h.small
 have hm8 := h.m8
 have hget : 0 ≤ s.made.getD c.core.toNat 0 ∧ s.made.getD c.core.toNat 0 ≤ 32 := by
  have hlt : c.core.toNat < s.made.length := by omega
  rw [List.getD_eq_getElem?_getD, List.getElem?_eq_getElem hlt]
  exact h.mr _ (List.getElem_mem hlt)
 have hset : ∀ m ∈ s.made.set c.core.toNat (s.made.getD c.core.toNat 0 + 1), 0 ≤ m ∧ m ≤ 33 := by
  intro m hm
  rcases List.mem_or_eq_of_mem_set hm with hm | rfl
  ·have := h.mr m hm; omega
  ·omega
 have h1 := hs.made _ (by rw [List.length_set]; exact hm8) hset
 have hns := parentV_size s.inos c.path
 have hen : En1 ⟨(parentV s.inos c.path).2.1, 2 + c.core + 8 * s.made.getD c.core.toNat 0⟩ := ⟨by show (parentV s.inos c.path).2.1.size ≤ _; omega, by show (-9223372036854775808 : Int) ≤ 2 + c.core + 8 * s.made.getD c.core.toNat 0; omega, by show 2 + c.core + 8 * s.made.getD c.core.toNat 0 ≤ 9223372036854775807; omega⟩
 have h2 := h1.put (parentV s.inos c.path).1 _ _ hen
 have h3 := h2.putI ⟨2 + c.core + 8 * s.made.getD c.core.toNat 0, decide (c.kind = 1), [], txt []⟩ rfl (by show (txt []).size ≤ _; rw [txt_size]; simp) ⟨by show (-9223372036854775808 : Int) ≤ 2 + c.core + 8 * s.made.getD c.core.toNat 0; omega, by show 2 + c.core + 8 * s.made.getD c.core.toNat 0 ≤ 9223372036854775807; omega⟩
 have h4 : Sized (make1V s c).1 := by
  unfold make1V
  split
  ·exact hs.sized (by omega) (by omega) (by omega)
  ·split
   ·exact hs.sized (by omega) (by omega) (by omega)
   ·split
    ·exact hs.sized (by omega) (by omega) (by omega)
    ·exact h3.sized (by omega) (by omega) (by omega)
 exact ⟨⟨h1.sized (by omega) (by omega) (by omega), h2.sized (by omega) (by omega) (by omega), h4, by omega⟩, h4⟩
theorem open_sized {s : St} (h : Good s) (c : Ca) (want : Int) : Sized (openedV s c want).1 := by
 have hs := h.small
 have h0 := hs.sized (by omega) (by omega) (by omega)
 have hp : ∀ y, Sized { s with opn := putD s.opn y } := fun y => (hs.opn _ (by rw [putD_len]; have := h.opn_len; omega)).sized (by omega) (by omega) (by omega)
 unfold openedV
 repeat (first | exact h0 | exact hp _ | split)
theorem fd_sized {s : St} (h : Good s) (c : Ca) : Sized (byFdV s c).1 := by
 have hs := h.small
 have h0 := hs.sized (by omega) (by omega) (by omega)
 have hd : Sized (sweepV { s with opn := dropD s.opn c.core c.fd } (fdV s.opn c.core c.fd)) := ((hs.opn _ (by have := dropD_len s.opn c.core c.fd; have := h.opn_len; omega)).sweep _).sized (by omega) (by omega) (by omega)
 have hdat : ∀ num : Int, (dataAt s.inos num).size ≤ 256 := by
  intro num
  unfold dataAt
  rcases atV_cases s.inos num with ⟨h1, _⟩ | ⟨k, x, h1, hx, _, _⟩
  ·rw [h1]; show (txt []).size ≤ 256; rw [txt_size]; simp
  ·rw [h1, inoAt_nat, hx]
   exact ((may_facts ((good_iff s).2 h)).data x (List.mem_of_getElem? hx)).1
 unfold byFdV
 split
 ·exact h0
 split
 ·exact hd
 split
 ·split <;> exact h0
 split
 ·split
  ·exact h0
  split
  ·exact h0
  split
  ·exact h0
  ·rename_i h5 h6 h7
   refine (hs.setData _ _ ?_).sized (by omega) (by omega) (by omega)
   rw [txt_size, layL_len, Array.length_toList, Array.length_toList]
   have := hdat (fdV s.opn c.core c.fd)
   have e1 : (dataAt s.inos (fdV s.opn c.core c.fd)).data.size = (dataAt s.inos (fdV s.opn c.core c.fd)).size := rfl
   have e2 : c.data.data.size = c.data.size := rfl
   omega
 split
 ·split
  ·exact h0
  ·refine (hs.setData _ _ ?_).sized (by omega) (by omega) (by omega)
   rw [txt_size, sizedL_len]
   omega
 split <;> exact h0
theorem link_sized {s : St} (h : Good s) (c : Ca) : Sized (linkV s c).1 := by
 have hs := h.small
 have h0 := hs.sized (by omega) (by omega) (by omega)
 have hns := parentV_size s.inos c.path2
 unfold linkV
 split
 ·exact h0
 ·rename_i hf
  have hn := h.num_range (findV_at h.whole c.path (by omega))
  have h1 := (hs.put (parentV s.inos c.path2).1 (parentV s.inos c.path2).2.1 (findV s.inos c.path).1 ⟨by show (parentV s.inos c.path2).2.1.size ≤ _; omega, by show (-9223372036854775808 : Int) ≤ (findV s.inos c.path).1; omega, by show (findV s.inos c.path).1 ≤ 9223372036854775807; omega⟩).sized (by omega) (by omega) (by omega)
  repeat (first | exact h0 | exact h1 | split)
theorem names_sized {s : St} (h : Good s) (c : Ca) : Sized (namesV s c).1 := by
 have hs := h.small
 have h0 := hs.sized (by omega) (by omega) (by omega)
 have hns := parentV_size s.inos c.path2
 unfold namesV
 split
 ·exact link_sized h c
 split
 ·exact h0
 split
 ·exact h0
 ·rename_i hen
  have hn := h.num_range (entV_whole h.whole hen)
  have h1 := hs.dropE (parentV s.inos c.path).1 (parentV s.inos c.path).2.1
  have h2 := (h1.sweep (entV s.inos (parentV s.inos c.path).1 (parentV s.inos c.path).2.1)).sized (by omega) (by omega) (by omega)
  have h3 := (h1.put (parentV s.inos c.path2).1 (parentV s.inos c.path2).2.1 (entV s.inos (parentV s.inos c.path).1 (parentV s.inos c.path).2.1) ⟨by show (parentV s.inos c.path2).2.1.size ≤ _; omega, by show (-9223372036854775808 : Int) ≤ entV s.inos (parentV s.inos c.path).1 (parentV s.inos c.path).2.1; omega, by show entV s.inos (parentV s.inos c.path).1 (parentV s.inos c.path).2.1 ≤ 9223372036854775807; omega⟩).sized (by omega) (by omega) (by omega)
  split
  ·unfold renameV
   repeat (first | exact h0 | exact h3 | split)
  ·repeat (first | exact h0 | exact h2 | split)
theorem do_sized {s : St} (h : Good s) (c : Ca) (want : Int) (hc0 : 0 ≤ c.core) (hc1 : c.core < (s.made.length : Int)) : Sized (doF s c want).1 := by
 have h0 := h.small.sized (by omega) (by omega) (by omega)
 unfold doF
 split
 ·exact h0
 split
 ·exact (make_sized h c hc0 hc1).2
 split
 ·exact open_sized h c want
 split
 ·exact fd_sized h c
 split
 ·exact names_sized h c
 split <;> exact h0
theorem doOk {s : St} {c : Ca} {want : Int} (hm : mayV s = true) (hc0 : 0 ≤ c.core) (hc1 : c.core < (s.made.length : Int)) (hp : c.path.size ≤ 140737488355328) (hp2 : c.path2.size ≤ 140737488355328) : DoOk s c want := by
 have h := (good_iff s).1 hm
 exact ⟨h.whole, hp, hp2, by have := parentV_size s.inos c.path2; omega, h.deep, do_sized h c want hc0 hc1, fun _ => (make_sized h c hc0 hc1).1, h.m8, h.mr⟩
end Go.Proofs.Ytghlgnklnbcppaa

set_option linter.unusedVariables false
set_option linter.unusedSimpArgs false
namespace Go.Proofs.Ytghlgnklnbcppaa
theorem ltB_irrefl : ∀ (a : List UInt8), ltB a a = false
 | [] => rfl
 | a :: l => by unfold ltB; rw [if_pos rfl]; exact ltB_irrefl l
theorem ltN_irrefl (a : ByteArray) : ltN a a = false := ltB_irrefl _
theorem ltN_asymm {a b : ByteArray} (h : ltN a b = true) : ltN b a = false := by
 cases h2 : ltN b a
 ·rfl
 ·have := ltN_trans h h2
  rw [ltN_irrefl] at this
  cases this
theorem ltB_tri : ∀ (a b : List UInt8), ltB a b = false → ltB b a = false → a = b
 | [], [], _, _ => rfl
 | [], _ :: _, h, _ => by simp [ltB] at h
 | _ :: _, [], _, h => by simp [ltB] at h
 | a :: al, b :: bl, h1, h2 => by
  unfold ltB at h1 h2
  by_cases e : a = b
  ·subst e
   rw [if_pos rfl] at h1 h2
   rw [ltB_tri al bl h1 h2]
  ·rw [if_neg e, decide_eq_false_iff_not] at h1
   rw [if_neg (fun e2 => e e2.symm), decide_eq_false_iff_not] at h2
   exact absurd (UInt8.le_antisymm (UInt8.not_lt.1 h2) (UInt8.not_lt.1 h1)) e
theorem ltN_tri {a b : ByteArray} (h1 : ltN a b = false) (h2 : ltN b a = false) : a = b := by
 have h := ltB_tri _ _ h1 h2
 cases a; cases b
 exact congrArg ByteArray.mk (Array.toList_inj.1 h)
theorem EnPos.tail {e : En} {t : List En} {nm : ByteArray} {i : Nat} {b : Bool} (h : EnPos (e :: t) nm (i + 1) b) : EnPos t nm i b :=
 ⟨by have := h.le; simp at this; omega, fun k x hk hx => h.lo (k + 1) x (by omega) (by simpa using hx), fun k x hk hx => h.hi (k + 1) x (by omega) (by simpa using hx), fun hb => by
  obtain ⟨x, hx, hn⟩ := h.is_ hb
  exact ⟨x, by simpa using hx, hn⟩, fun hb => by
  obtain ⟨x, hx, hn⟩ := hb
  exact h.of_ ⟨x, by simpa using hx, hn⟩⟩
theorem EnPos.head {e : En} {t : List En} {nm : ByteArray} {i : Nat} {b : Bool} (h : EnPos (e :: t) nm (i + 1) b) : ltN e.name nm = true := h.lo 0 e (by omega) rfl
theorem RiseE.tail {e : En} {t : List En} (h : RiseE (e :: t)) : RiseE t := fun i j x y hij hx hy => h (i + 1) (j + 1) x y (by omega) (by simpa using hx) (by simpa using hy)
theorem entG_none : ∀ (l : List En) (nm : ByteArray), (∀ x ∈ l, x.name ≠ nm) → entG l nm = 0
 | [], _, _ => rfl
 | y :: ys, nm, hl => by
  unfold entG
  rw [if_neg (hl y (by simp)), entG_none ys nm (fun x hx => hl x (by simp [hx]))]
theorem dropE_none : ∀ (l : List En) (nm : ByteArray), (∀ x ∈ l, x.name ≠ nm) → dropE l nm = l
 | [], _, _ => rfl
 | y :: ys, nm, hl => by
  unfold dropE
  rw [if_neg (hl y (by simp)), dropE_none ys nm (fun x hx => hl x (by simp [hx]))]
theorem dropE_pos : ∀ (es : List En) (nm : ByteArray) (i : Nat), RiseE es → EnPos es nm i true → dropE es nm = es.take i ++ es.drop (i + 1)
 | [], nm, i, hr, h => by
  obtain ⟨x, hx, _⟩ := h.is_ rfl
  simp at hx
 | e :: t, nm, 0, hr, h => by
  obtain ⟨y, hy, hn⟩ := h.is_ rfl
  have : e = y := by simpa using hy
  subst this
  unfold dropE
  rw [if_pos hn, dropE_none t nm (fun x hx e2 => ?_)]
  ·rfl
  ·obtain ⟨j, hj⟩ := List.getElem?_of_mem hx
   have h1 := hr 0 (j + 1) e x (by omega) rfl (by simpa using hj)
   rw [hn, e2, ltN_irrefl] at h1
   cases h1
 | e :: t, nm, i + 1, hr, h => by
  have hne : e.name ≠ nm := fun e2 => by
   have := h.head
   rw [e2, ltN_irrefl] at this
   cases this
  unfold dropE
  rw [if_neg hne, dropE_pos t nm i hr.tail h.tail]
  rfl
theorem entsG_rise (is : List Ino) : ∀ (es : List En) (p : Option ByteArray) (many : Nat → Nat), entsG is es p many = true → RiseE es ∧ ∀ q x, p = some q → es[0]? = some x → ltN q x.name = true
 | [], p, many, h => ⟨fun i j x y _ hx => by simp at hx, fun q x _ hx => by simp at hx⟩
 | e :: es, p, many, h => by
  unfold entsG at h
  by_cases h1 : entBad is p e = true
  ·rw [if_pos h1] at h; cases h
  ·rw [if_neg h1] at h
   by_cases h2 : 4 < many (bktB e.name) + 1
   ·rw [if_pos h2] at h; cases h
   ·rw [if_neg h2] at h
    obtain ⟨r1, r2⟩ := entsG_rise is es (some e.name) _ h
    have key : ∀ (j : Nat) (y : En), es[j]? = some y → ltN e.name y.name = true := by
     intro j
     induction j with
     | zero => intro y hy; exact r2 _ _ rfl hy
     | succ j ih =>
      intro y hy
      have hjl : j < es.length := by have := (List.getElem?_eq_some_iff.1 hy).1; omega
      exact ltN_trans (ih _ (List.getElem?_eq_getElem hjl)) (r1 j (j + 1) _ _ (by omega) (List.getElem?_eq_getElem hjl) hy)
    refine ⟨fun i j x y hij hx hy => ?_, fun q x hp hx => ?_⟩
    ·cases j with
     | zero => omega
     | succ j =>
      have hy2 : es[j]? = some y := by simpa using hy
      cases i with
      | zero =>
       have : e = x := by simpa using hx
       subst this
       exact key j y hy2
      | succ i => exact r1 i j x y (by omega) (by simpa using hx) hy2
    ·have : e = x := by simpa using hx
     subst this
     subst hp
     cases h3 : ltN q e.name
     ·exfalso
      apply h1
      unfold entBad
      simp [h3]
     ·rfl
theorem Good.riseI {s : St} (h : Good s) : RiseI s.inos := fun i j x y hij hx hy => by
 obtain ⟨hi, rfl⟩ := List.getElem?_eq_some_iff.1 hx
 obtain ⟨hj, rfl⟩ := List.getElem?_eq_some_iff.1 hy
 exact List.pairwise_iff_getElem.1 h.rise i j hi hj hij
theorem Good.entNum {s : St} (h : Good s) {x : Ino} (hx : x ∈ s.inos) {e : En} (he : e ∈ x.ents) : e.num ≠ 0 ∧ 0 ≤ atV s.inos e.num := by
 have h1 := h.whole.2 x hx e he
 have := h.num_range h1
 exact ⟨by omega, h1⟩
theorem entV_at {is : List Ino} {t : Int} {i : Nat} {x : Ino} (ha : atV is t = (i : Int)) (hx : is[i]? = some x) (nm : ByteArray) : entV is t nm = entG x.ents nm := by
 unfold entV
 rw [ha, inoAt_nat, hx]
end Go.Proofs.Ytghlgnklnbcppaa

set_option linter.unusedVariables false
set_option linter.unusedSimpArgs false
namespace Go.Proofs.Ytghlgnklnbcppaa
open Go.RowKit
theorem gopens_mem (is : List Ino) (n : Nat) : ∀ (ds : List Ds) (q : Option Ds), opensG is n ds q = true → ∀ d ∈ ds, dsBad is n d = false
 | [], _, _, d, hd => by simp at hd
 | y :: ds, q, h, d, hd => by
  unfold opensG at h
  split at h
  ·cases h
  ·rename_i h1
   split at h
   ·cases h
   ·rcases List.mem_cons.1 hd with rfl | hd
    ·simpa using h1
    ·exact gopens_mem is n ds _ h d hd
theorem Good.opens {s : St} (h : Good s) : ∀ d ∈ s.opn, 0 ≤ d.core ∧ d.core < (s.made.length : Int) ∧ 0 ≤ d.fd ∧ d.fd < 4 ∧ ∃ (i : Nat) (x : Ino), atV s.inos d.num = (i : Int) ∧ s.inos[i]? = some x ∧ x.num = d.num ∧ x.dir = false := by
 intro d hd
 have h1 := gopens_mem _ _ _ _ h.opn d hd
 unfold dsBad at h1
 simp only [Bool.or_eq_false_iff, decide_eq_false_iff_not] at h1
 obtain ⟨⟨⟨⟨a1, a2⟩, a3⟩, a4⟩, a5⟩ := h1
 refine ⟨by omega, by omega, by omega, by omega, ?_⟩
 rcases atV_cases s.inos d.num with ⟨h2, _⟩ | ⟨k, x, h2, h3, h4, _⟩
 ·rw [h2] at a5
  simp [inoAt] at a5
 ·rw [h2, inoAt_nat, h3] at a5
  exact ⟨k, x, h2, h3, h4, a5⟩
end Go.Proofs.Ytghlgnklnbcppaa

set_option linter.unusedVariables false
set_option linter.unusedSimpArgs false
namespace Go.Proofs.Ytghlgnklnbcppaa
theorem linkE_append : ∀ (a b : List En) (num : Int), linkE (a ++ b) num = linkE a num + linkE b num
 | [], b, num => by simp [linkE]
 | e :: a, b, num => by rw [List.cons_append, linkE, linkE, linkE_append a b num]; omega
theorem linkE_less (es : List En) (i : Nat) (e : En) (num : Int) (h : es[i]? = some e) : linkE es num = linkE (es.take i ++ es.drop (i + 1)) num + (if e.num = num then 1 else 0) := by
 have hl := (List.getElem?_eq_some_iff.1 h).1
 have he := (List.getElem?_eq_some_iff.1 h).2
 have : es = es.take i ++ e :: es.drop (i + 1) := by
  rw [← he, ← List.drop_eq_getElem_cons hl, List.take_append_drop]
 rw [linkE_append]
 conv => lhs; rw [this]
 rw [linkE_append, linkE]
 omega
theorem linkI_set : ∀ (is : List Ino) (i : Nat) (x y : Ino) (num : Int), is[i]? = some x → linkI (is.set i y) num + (if x.dir then linkE x.ents num else 0) = linkI is num + (if y.dir then linkE y.ents num else 0)
 | [], i, x, y, num, h => by simp at h
 | z :: is, 0, x, y, num, h => by
  have : z = x := by simpa using h
  subst this
  rw [List.set_cons_zero, linkI, linkI]
  omega
 | z :: is, i + 1, x, y, num, h => by
  have ih := linkI_set is i x y num (by simpa using h)
  rw [List.set_cons_succ, linkI, linkI]
  omega
theorem EnPos.of_name {es : List En} (hr : RiseE es) {nm : ByteArray} {j : Nat} {e : En} (hj : es[j]? = some e) (hn : e.name = nm) : EnPos es nm j true := by
 have hl := (List.getElem?_eq_some_iff.1 hj).1
 refine ⟨by omega, fun k x hk hx => by rw [← hn]; exact hr k j x e hk hx hj, fun k x hk hx => ?_, fun _ => ⟨e, hj, hn⟩, fun _ => rfl⟩
 by_cases h : k = j
 ·subst h
  rw [hj] at hx
  cases hx
  rw [hn, ltN_irrefl]
 ·rw [← hn]
  exact ltN_asymm (hr j k e x (by omega) hj hx)
theorem entG_zero : ∀ (es : List En) (nm : ByteArray), (∀ e ∈ es, e.num ≠ 0) → entG es nm = 0 → ∀ e ∈ es, e.name ≠ nm
 | [], _, _, _ => by simp
 | y :: es, nm, h, h0 => by
  unfold entG at h0
  by_cases hy : y.name = nm
  ·rw [if_pos hy] at h0
   exact absurd h0 (h y (by simp))
  ·rw [if_neg hy] at h0
   intro e he
   rcases List.mem_cons.1 he with rfl | he
   ·exact hy
   ·exact entG_zero es nm (fun e he => h e (by simp [he])) h0 e he
theorem entG_some : ∀ (es : List En) (nm : ByteArray), entG es nm ≠ 0 → ∃ (j : Nat) (e : En), es[j]? = some e ∧ e.name = nm ∧ e.num = entG es nm
 | [], _, h => absurd rfl h
 | y :: es, nm, h => by
  unfold entG at h ⊢
  by_cases hy : y.name = nm
  ·rw [if_pos hy]
   exact ⟨0, y, rfl, hy, rfl⟩
  ·rw [if_neg hy] at h ⊢
   obtain ⟨j, e, h1, h2⟩ := entG_some es nm h
   exact ⟨j + 1, e, by simpa using h1, h2⟩
end Go.Proofs.Ytghlgnklnbcppaa

set_option linter.unusedVariables false
set_option linter.unusedSimpArgs false
namespace Go.Proofs.Ytghlgnklnbcppaa
theorem walkG_snoc {is : List Ino} : ∀ (ns : List (List UInt8)) (n : List UInt8) (t : Int), (walkG is (ns ++ [n]) t).2 = 0 → 0 ≤ atV is t → Whole is → (walkG is ns t).2 = 0 ∧ ∃ (i : Nat) (x : Ino) (e : En), atV is (walkG is ns t).1 = (i : Int) ∧ is[i]? = some x ∧ x.num = (walkG is ns t).1 ∧ x.dir = true ∧ e ∈ x.ents ∧ e.num = (walkG is (ns ++ [n]) t).1
 | [], n, t, h, ht, hw => by
  obtain ⟨i, x, h1, h2, h3⟩ := atV_some ht
  rw [List.nil_append] at h ⊢
  unfold walkG at h ⊢
  rw [h1, inoAt_nat, h2] at h ⊢
  simp only at h ⊢
  by_cases hd : x.dir = false
  ·rw [if_pos hd] at h; cases h
  ·rw [if_neg hd] at h ⊢
   by_cases he : entV is t (txt n) = 0
   ·rw [if_pos he] at h; cases h
   ·rw [if_neg he]
    refine ⟨by first | rfl | trivial, i, x, ?_⟩
    have he2 := entV_at h1 h2 (txt n)
    rw [he2] at he
    obtain ⟨j, e, hj, _, hn⟩ := entG_some x.ents (txt n) he
    refine ⟨e, by first | exact h1 | rfl, h2, h3, by cases hdd : x.dir <;> simp_all, List.mem_of_getElem? hj, ?_⟩
    show e.num = entV is t (txt n)
    rw [he2, hn]
 | m :: ns, n, t, h, ht, hw => by
  obtain ⟨i, x, h1, h2, h3⟩ := atV_some ht
  rw [List.cons_append] at h ⊢
  unfold walkG at h ⊢
  rw [h1, inoAt_nat, h2] at h ⊢
  simp only at h ⊢
  by_cases hd : x.dir = false
  ·rw [if_pos hd] at h; cases h
  ·rw [if_neg hd] at h ⊢
   by_cases he : entV is t (txt m) = 0
   ·rw [if_pos he] at h; cases h
   ·rw [if_neg he] at h ⊢
    rw [if_neg hd, if_neg he]
    exact walkG_snoc ns n _ h (entV_whole hw he) hw
def stepP (is : List Ino) (NS : List (List UInt8)) (r : Nat) : Int := (walkG is (NS.take r) 1).1
def throughV (is : List Ino) (NS : List (List UInt8)) (num : Int) : Bool := (List.range NS.length).any fun r => stepP is NS r == num
theorem walk_prefix {s : St} (h : Good s) {NS : List (List UInt8)} : ∀ (k r : Nat), r + k = NS.length - 1 → (walkG s.inos NS.dropLast 1).2 = 0 → (walkG s.inos (NS.take r) 1).2 = 0
 | 0, r, hr, hc => by
  rw [show r = NS.length - 1 by omega, ← List.dropLast_eq_take]
  exact hc
 | k + 1, r, hr, hc => by
  have ih := walk_prefix h k (r + 1) (by omega) hc
  rw [List.take_add_one, List.getElem?_eq_getElem (show r < NS.length by omega)] at ih
  exact (walkG_snoc _ _ _ ih (by rw [h.root_at]; omega) h.whole).1
theorem step_next {s : St} (h : Good s) {NS : List (List UInt8)} (hc : (walkG s.inos NS.dropLast 1).2 = 0) {r : Nat} (hr : r + 1 ≤ NS.length - 1) : ∃ (i : Nat) (x : Ino) (e : En), s.inos[i]? = some x ∧ x.num = stepP s.inos NS r ∧ x.dir = true ∧ e ∈ x.ents ∧ e.num = stepP s.inos NS (r + 1) := by
 have h1 := walk_prefix h (NS.length - 1 - (r + 1)) (r + 1) (by omega) hc
 have h0 := h1
 rw [List.take_add_one, List.getElem?_eq_getElem (show r < NS.length by omega)] at h1
 obtain ⟨_, i, x, e, a1, a2, a3, a4, a5, a6⟩ := walkG_snoc _ _ _ h1 (by rw [h.root_at]; omega) h.whole
 refine ⟨i, x, e, a2, a3, a4, a5, ?_⟩
 rw [a6]
 unfold stepP
 rw [List.take_add_one, List.getElem?_eq_getElem (show r < NS.length by omega)]
 rfl
theorem withinF_mono {is : List Ino} {dir : Int} : ∀ (n : Nat) (top : Int), withinF is dir n top = true → withinF is dir (n + 1) top = true
 | 0, top, h => by cases h
 | n + 1, top, h => by
  unfold withinF at h ⊢
  by_cases hd : dir = top
  ·rw [if_pos hd]
  ·rw [if_neg hd] at h ⊢
   cases hx : inoAt is (atV is top) with
   | none => rw [hx] at h; cases h
   | some x =>
    rw [hx] at h
    simp only [List.any_eq_true, Bool.and_eq_true] at h ⊢
    obtain ⟨e, h1, h2, h3⟩ := h
    exact ⟨e, h1, h2, withinF_mono n _ h3⟩
theorem withinF_le {is : List Ino} {dir top : Int} {n m : Nat} (h : withinF is dir n top = true) (hm : n ≤ m) : withinF is dir m top = true := by
 obtain ⟨k, rfl⟩ : ∃ k, m = n + k := ⟨m - n, by omega⟩
 clear hm
 induction k with
 | zero => exact h
 | succ k ih => exact withinF_mono _ _ ih
theorem within_step {s : St} (h : Good s) {NS : List (List UInt8)} (hc : (walkG s.inos NS.dropLast 1).2 = 0) {dir : Int} (hdir : stepP s.inos NS (NS.length - 1) = dir) : ∀ (n : Nat) (top : Int), withinF s.inos dir n top = true → ∃ r, r ≤ NS.length - 1 ∧ stepP s.inos NS r = top
 | 0, top, hw => by cases hw
 | n + 1, top, hw => by
  unfold withinF at hw
  by_cases hd : dir = top
  ·exact ⟨NS.length - 1, Nat.le_refl _, by rw [hdir, hd]⟩
  ·rw [if_neg hd] at hw
   cases hx : inoAt s.inos (atV s.inos top) with
   | none => rw [hx] at hw; cases hw
   | some x =>
    rw [hx] at hw
    simp only [List.any_eq_true, Bool.and_eq_true] at hw
    obtain ⟨e, he, hed, hwe⟩ := hw
    obtain ⟨i, hi, hix⟩ := inoAt_some hx
    have hxn : x.num = top := by
     rcases atV_cases s.inos top with ⟨h1, _⟩ | ⟨k, y, h1, h2, h3, _⟩
     ·rw [h1] at hi; omega
     ·rw [h1] at hi
      have : k = i := by omega
      subst this
      rw [h2] at hix
      cases hix
      exact h3
    have hxd : x.dir = true := by
     cases hd2 : x.dir
     ·rw [(h.files x (List.mem_of_getElem? hix) hd2).1] at he
      simp at he
     ·rfl
    obtain ⟨j, z, hj, hz, hzn, hat⟩ := h.ent hix hxd he
    have hzd : z.dir = true := by
     unfold dirAt at hed
     rw [hat, inoAt_nat, hz] at hed
     exact hed
    obtain ⟨r, hr, hrs⟩ := within_step h hc hdir n e.num hwe
    cases r with
    | zero =>
     have h1 : stepP s.inos NS 0 = 1 := by unfold stepP; rw [List.take_zero]; rfl
     rw [h1] at hrs
     have h2 := h.root_at
     rw [hrs, hat] at h2
     omega
    | succ r =>
     obtain ⟨i2, y, e2, hy, hyn, hyd, he2, hen⟩ := step_next h hc hr
     have := h.parent hj hz hzd hix hxd he hzn.symm hy hyd he2 (by rw [hen, hrs, hzn])
     subst this
     rw [hix] at hy
     cases hy
     exact ⟨r, by omega, by rw [← hyn, hxn]⟩
theorem step_within {s : St} (h : Good s) {NS : List (List UInt8)} (hc : (walkG s.inos NS.dropLast 1).2 = 0) {dir : Int} (hdir : stepP s.inos NS (NS.length - 1) = dir) (hdd : dirAt s.inos dir = true) : ∀ (k r : Nat), r + k = NS.length - 1 → withinF s.inos dir (k + 1) (stepP s.inos NS r) = true
 | 0, r, hr => by
  unfold withinF
  rw [if_pos (by rw [← hdir, show r = NS.length - 1 by omega])]
 | k + 1, r, hr => by
  have ih := step_within h hc hdir hdd k (r + 1) (by omega)
  obtain ⟨i, x, e, hx, hxn, hxd, he, hen⟩ := step_next h hc (r := r) (by omega)
  unfold withinF
  by_cases hd : dir = stepP s.inos NS r
  ·rw [if_pos hd]
  ·rw [if_neg hd, ← hxn, h.idx hx, inoAt_nat, hx]
   simp only [List.any_eq_true, Bool.and_eq_true]
   refine ⟨e, he, ?_, by rw [hen]; exact ih⟩
   rw [hen]
   by_cases hl : r + 1 = NS.length - 1
   ·rw [hl, hdir]; exact hdd
   ·obtain ⟨i2, y, _, hy, hyn, hyd, _⟩ := step_next h hc (r := r + 1) (by omega)
    rw [← hyn]
    unfold dirAt
    rw [h.idx hy, inoAt_nat, hy]
    exact hyd
theorem step_lev {s : St} (h : Good s) {NS : List (List UInt8)} (hc : (walkG s.inos NS.dropLast 1).2 = 0) : ∀ (r : Nat), r ≤ NS.length - 1 → ∃ (i : Nat) (x : Ino), s.inos[i]? = some x ∧ x.num = stepP s.inos NS r ∧ Lev s.inos r i
 | 0, _ => by
  obtain ⟨x, hx, hn, _⟩ := h.root
  exact ⟨0, x, hx, hn, Lev.root⟩
 | r + 1, hr => by
  obtain ⟨i, x, hx, hxn, hl⟩ := step_lev h hc r (by omega)
  obtain ⟨i2, y, e, hy, hyn, hyd, he, hen⟩ := step_next h hc hr
  have : i = i2 := by
   have h1 := h.idx hx
   have h2 := h.idx hy
   rw [hxn] at h1
   rw [hyn, h1] at h2
   omega
  subst this
  obtain ⟨j, z, hj, hz, hzn, hat⟩ := h.ent hy hyd he
  exact ⟨j, z, hz, by rw [hzn, hen], Lev.step hl hy hyd he hat⟩
theorem through_within {s : St} (h : Good s) {NS : List (List UInt8)} (hc : (walkG s.inos NS.dropLast 1).2 = 0) (hne : NS ≠ []) (hdd : dirAt s.inos (walkG s.inos NS.dropLast 1).1 = true) (num : Int) : throughV s.inos NS num = withinV s.inos (walkG s.inos NS.dropLast 1).1 num := by
 have hdir : stepP s.inos NS (NS.length - 1) = (walkG s.inos NS.dropLast 1).1 := by unfold stepP; rw [List.dropLast_eq_take]
 have hl : 0 < NS.length := List.length_pos_iff.2 hne
 rw [Bool.eq_iff_iff]
 unfold throughV withinV
 rw [List.any_eq_true]
 constructor
 ·rintro ⟨r, hr, he⟩
  rw [List.mem_range] at hr
  rw [beq_iff_eq] at he
  have h1 := step_within h hc hdir hdd (NS.length - 1 - r) r (by omega)
  rw [he] at h1
  refine withinF_le h1 ?_
  obtain ⟨i, x, hx, hxn, hlev⟩ := step_lev h hc (NS.length - 1) (Nat.le_refl _)
  rw [hdir] at hxn
  have hxd : x.dir = true := by
   unfold dirAt at hdd
   rw [← hxn, h.idx hx, inoAt_nat, hx] at hdd
   exact hdd
  obtain ⟨l, hw, hll⟩ := h.way _ i x hlev hx hxd
  have := nodup_bound s.inos.length l hw.nodup hw.lt
  omega
 ·intro hw
  obtain ⟨r, hr, he⟩ := within_step h hc hdir _ _ hw
  exact ⟨r, List.mem_range.2 (by omega), by rw [beq_iff_eq]; exact he⟩
theorem parentV_ok {is : List Ino} {path : ByteArray} (h : (parentV is path).2.2 = 0) : (parseL path.data.toList).2 = 0 ∧ (parseL path.data.toList).1 ≠ [] ∧ (walkG is (parseL path.data.toList).1.dropLast 1).2 = 0 ∧ dirAt is (walkG is (parseL path.data.toList).1.dropLast 1).1 = true ∧ (parentV is path).1 = (walkG is (parseL path.data.toList).1.dropLast 1).1 := by
 have hcp : (parseL path.data.toList).2 ≠ 0 → codeP (parseL path.data.toList).2 ≠ 0 := fun h => by unfold codeP; rw [if_neg h]; split <;> decide
 unfold parentV at h ⊢
 by_cases h1 : (parseL path.data.toList).2 ≠ 0
 ·rw [if_pos h1] at h; exact absurd h (hcp h1)
 ·rw [if_neg h1] at h ⊢
  by_cases h2 : (parseL path.data.toList).1 = []
  ·rw [if_pos h2] at h; cases h
  ·rw [if_neg h2] at h ⊢
   by_cases h3 : (walkG is (parseL path.data.toList).1.dropLast 1).2 ≠ 0
   ·rw [if_pos h3] at h; exact absurd h h3
   ·rw [if_neg h3] at h ⊢
    by_cases h4 : dirAt is (walkG is (parseL path.data.toList).1.dropLast 1).1 = false
    ·rw [if_pos h4] at h; cases h
    ·rw [if_neg h4]
     exact ⟨by omega, h2, by omega, by simpa using h4, rfl⟩
end Go.Proofs.Ytghlgnklnbcppaa

set_option linter.unusedVariables false
set_option linter.unusedSimpArgs false
namespace Go.Proofs.Ytghlgnklnbcppaa
def ltD (a b : Ds) : Prop := a.core < b.core ∨ (a.core = b.core ∧ a.fd < b.fd)
def RiseD (ds : List Ds) : Prop := ∀ (i j : Nat) (x y : Ds), i < j → ds[i]? = some x → ds[j]? = some y → ltD x y
theorem ltD_trans {a b c : Ds} (h1 : ltD a b) (h2 : ltD b c) : ltD a c := by unfold ltD at *; omega
theorem opensG_rise (is : List Ino) (n : Nat) : ∀ (ds : List Ds) (p : Option Ds), opensG is n ds p = true → RiseD ds ∧ ∀ q x, p = some q → ds[0]? = some x → ltD q x
 | [], p, h => ⟨fun i j x y _ hx => by simp at hx, fun q x _ hx => by simp at hx⟩
 | d :: ds, p, h => by
  unfold opensG at h
  by_cases h1 : dsBad is n d = true
  ·rw [if_pos h1] at h; cases h
  ·rw [if_neg h1] at h
   by_cases h2 : dsPrev p d = true
   ·rw [if_pos h2] at h; cases h
   ·rw [if_neg h2] at h
    obtain ⟨r1, r2⟩ := opensG_rise is n ds (some d) h
    have key : ∀ (j : Nat) (y : Ds), ds[j]? = some y → ltD d y := by
     intro j
     induction j with
     | zero => intro y hy; exact r2 _ _ rfl hy
     | succ j ih =>
      intro y hy
      have hjl : j < ds.length := by have := (List.getElem?_eq_some_iff.1 hy).1; omega
      exact ltD_trans (ih _ (List.getElem?_eq_getElem hjl)) (r1 j (j + 1) _ _ (by omega) (List.getElem?_eq_getElem hjl) hy)
    refine ⟨fun i j x y hij hx hy => ?_, fun q x hp hx => ?_⟩
    ·cases j with
     | zero => omega
     | succ j =>
      have hy2 : ds[j]? = some y := by simpa using hy
      cases i with
      | zero =>
       have : d = x := by simpa using hx
       subst this
       exact key j y hy2
      | succ i => exact r1 i j x y (by omega) (by simpa using hx) hy2
    ·have : d = x := by simpa using hx
     subst this
     subst hp
     unfold dsPrev at h2
     simp only [Bool.or_eq_true, Bool.and_eq_true, decide_eq_true_eq] at h2
     unfold ltD
     omega
theorem Good.riseD {s : St} (h : Good s) : RiseD s.opn := (opensG_rise _ _ _ _ h.opn).1
theorem fdV_has : ∀ (ds : List Ds) (core fd : Int), (∀ d ∈ ds, d.num ≠ 0) → (∃ d ∈ ds, d.core = core ∧ d.fd = fd) → fdV ds core fd ≠ 0
 | [], _, _, _, h => by obtain ⟨d, hd, _⟩ := h; simp at hd
 | y :: ds, core, fd, hn, h => by
  unfold fdV
  by_cases hy : y.core = core ∧ y.fd = fd
  ·rw [if_pos hy]; exact hn y (by simp)
  ·rw [if_neg hy]
   refine fdV_has ds core fd (fun d hd => hn d (by simp [hd])) ?_
   obtain ⟨d, hd, h2⟩ := h
   rcases List.mem_cons.1 hd with rfl | hd
   ·exact absurd h2 hy
   ·exact ⟨d, hd, h2⟩
end Go.Proofs.Ytghlgnklnbcppaa
