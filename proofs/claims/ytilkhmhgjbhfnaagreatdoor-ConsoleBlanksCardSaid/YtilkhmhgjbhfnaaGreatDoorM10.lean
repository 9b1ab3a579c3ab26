/- Parts of the proof, side by side: FsDo, FsDoAny, DoOk, DoOk2, MoPlain. -/
import Derived.Test.YtilkhmhgjbhfnaaGreatDoorM03
import Derived.Test.YtilkhmhgjbhfnaaGreatDoorM06
import Derived.Test.YtilkhmhgjbhfnaaGreatDoorM01
import Derived.Test.YtilkhmhgjbhfnaaGreatDoorM09
import Derived.Deep.RegionHeld3
import Derived.Test.YtilkhmhgjbhfnaaGreatDoorM04
import Derived.Outline
import Derived.Deep.CutBlock
import Derived.Test.YtilkhmhgjbhfnaaGreatDoorM05
set_option linter.unusedVariables false
set_option linter.unusedSimpArgs false
namespace Go.Proofs.YtilkhmhgjbhfnaaGreatDoor
open Go.RowKit
theorem StAt.keep3 {B : Nat} {w w' : World} {v : Value} {s : St} (h : StAt (some B) w v s) (k1 : KeepT 65 w w') (k2 : KeepT 131 w w') (k3 : KeepT 97 w w') (k4 : KeepT 3 w w') : StAt (some B) w' v s := by
 obtain ⟨⟨A, n, c, E, m, d, D, k, e, h1, h2, h3, h4, h5, h6, h7⟩, hz⟩ := h
 exact ⟨⟨A, n, c, E, m, d, D, k, e, h1, h2.keep k1 k2, h3.keep k3, h4.keep k4, h5, h6, h7⟩, hz⟩
theorem EntsAt.lower {B B' : Nat} {w : World} {A : Option Addr} {n : Nat} {es : List En} (h : EntsAt (some B) w A n es) (hb : B' ≤ B) : EntsAt (some B') w A n es :=
 ⟨h.1, fun hn => by
  obtain ⟨g, off, hA, hg, hm, hc⟩ := h.2 hn
  exact ⟨g, off, hA, hg, hm.mono hb, hc⟩⟩
theorem StAt.lower {B B' : Nat} {w : World} {v : Value} {s : St} (h : StAt (some B) w v s) (hb : B' ≤ B) : StAt (some B') w v s := by
 obtain ⟨⟨A, n, c, E, m, d, D, k, e, h1, h2, h3, h4, h5, h6, h7⟩, hz⟩ := h
 refine ⟨⟨A, n, c, E, m, d, D, k, e, h1, ⟨h2.1, fun hn => ?_⟩, ⟨h3.1, fun hn => ?_⟩, ⟨h4.1, fun hn => ?_⟩, h5, h6, h7⟩, hz⟩
 ·obtain ⟨g, off, hA, hg, hm, hc⟩ := h2.2 hn
  refine ⟨g, off, hA, hg, hm.mono hb, fun j x hx => ?_⟩
  obtain ⟨a1, a2, ⟨B2, m2, c2, a3, a4, a5⟩, a6⟩ := hc j x hx
  exact ⟨a1, a2, ⟨B2, m2, c2, a3, a4, a5.lower hb⟩, a6⟩
 ·obtain ⟨g, off, hA, hg, hm, hc⟩ := h3.2 hn
  exact ⟨g, off, hA, hg, hm.mono hb, hc⟩
 ·obtain ⟨g, off, hA, hg, hm, hc⟩ := h4.2 hn
  exact ⟨g, off, hA, hg, hm.mono hb, hc⟩
theorem may_whole {s : St} (h : mayV s = true) : Whole s.inos := by
 have hm := may_facts h
 refine ⟨?_, fun x hx => (hm.linked x hx).2⟩
 rw [mayV_eq, Bool.and_eq_true, Bool.and_eq_true, Bool.and_eq_true] at h
 obtain ⟨⟨⟨h1, h2⟩, _⟩, _⟩ := h
 have h3 : mMadeV s = true := h1
 have h4 : mInosV s = true := h2
 obtain ⟨f1, f2, f3, x0, f4, f5⟩ := mInos_facts h3 h4
 rw [atV_of_rise f1 f4 f5]
 omega
def MakeSized (s : St) (c : Ca) : Prop :=
 Sized { s with made := s.made.set c.core.toNat (s.made.getD c.core.toNat 0 + 1) } ∧
 Sized { s with made := s.made.set c.core.toNat (s.made.getD c.core.toNat 0 + 1), inos := setEnts s.inos (parentV s.inos c.path).1 fun es => putE es (parentV s.inos c.path).2.1 (2 + c.core + 8 * s.made.getD c.core.toNat 0) } ∧
 Sized (make1V s c).1 ∧ (parentV s.inos c.path).2.1.size ≤ 140737488355328
section
variable (s : St) (c : Ca) (want : Int) (hm : mayV s = true) (hc0 : 0 ≤ c.core) (hc1 : c.core < (s.made.length : Int))
include hm hc0 hc1
end
structure Dk (a b d : Value) (s : St) (c : Ca) (w0 w : World) : Prop where
 box : OutAt w w0.heap.size a b d
 call : w.heap[w0.heap.size + 1]? = some (caRow c)
 outS : OutAt w (w0.heap.size + 2) (.slice none 0 0) (.slice none 0 0) (.slice none 0 0)
 outR : ResAt w (w0.heap.size + 3) (.int .i64 0) (.int .i64 0) (.int .i64 0) (.bool false) (.string ⟨#[]⟩) (.slice none 0 0)
 st : StAt none w (.agg #[a, b, d]) s
 bel : Below w0.heap.size w0 w
 size : w0.heap.size + 4 ≤ w.heap.size
theorem Dk.below {a b d : Value} {s : St} {c : Ca} {w0 w w' : World} (h : Dk a b d s c w0 w) (hb : Below w.heap.size w w') : Dk a b d s c w0 w' := by
 have hs := h.size
 exact ⟨(hb.block _ (by omega)).trans h.box, (hb.block _ (by omega)).trans h.call, (hb.block _ (by omega)).trans h.outS, (hb.block _ (by omega)).trans h.outR, h.st.below hb, h.bel.trans (hb.mono (by omega)), Nat.le_trans h.size hb.size⟩
theorem Dk.vals {a b d : Value} {s : St} {c : Ca} {w0 w : World} (h : Dk a b d s c w0 w) : w.cell? ⟨w0.heap.size, 0, none⟩ = some a ∧ w.cell? ⟨w0.heap.size, 1, none⟩ = some b ∧ w.cell? ⟨w0.heap.size, 2, none⟩ = some d ∧
  w.cell? ⟨w0.heap.size + 1, 0, none⟩ = some (.int .i64 c.kind) ∧ w.cell? ⟨w0.heap.size + 1, 1, none⟩ = some (.int .i64 c.core) ∧ w.cell? ⟨w0.heap.size + 1, 2, none⟩ = some (.int .i64 c.fd) ∧ w.cell? ⟨w0.heap.size + 1, 3, none⟩ = some (.int .i64 c.off) ∧ w.cell? ⟨w0.heap.size + 1, 4, none⟩ = some (.int .i64 c.num) ∧
  w.cell? ⟨w0.heap.size + 1, 5, none⟩ = some (.string c.path) ∧ w.cell? ⟨w0.heap.size + 1, 6, none⟩ = some (.string c.path2) ∧ w.cell? ⟨w0.heap.size + 1, 7, none⟩ = some (.string c.data) := by
 have hc := h.call
 unfold caRow at hc
 obtain ⟨b0, b1, b2, _⟩ := h.box.get
 refine ⟨b0, b1, b2, ?_, ?_, ?_, ?_, ?_, ?_, ?_, ?_⟩ <;> (rw [cell_of_row w (w0.heap.size + 1) _ _ _ (0, 0) hc]; rfl)
theorem Dk.start {w : World} {s : St} {A : Option Addr} {n cp : Nat} {E : Option Addr} {m d : Nat} {D : Option Addr} {k e : Nat} (h : StAt none w (.agg #[.slice A n cp, .slice E m d, .slice D k e]) s) (c : Ca) :
  ∃ W W2 W3 W4, w.alloc (.cells #[.slice A n cp, .slice E m d, .slice D k e] 31) = W ∧ W.alloc (.cells #[.int .i64 c.kind, .int .i64 c.core, .int .i64 c.fd, .int .i64 c.off, .int .i64 c.num, .string c.path, .string c.path2, .string c.data] 73) = W2 ∧
   W2.alloc (.cells #[.slice none 0 0, .slice none 0 0, .slice none 0 0] 31) = W3 ∧ W3.alloc (.cells #[.int .i64 0, .int .i64 0, .int .i64 0, .bool false, .string ⟨#[]⟩, .slice none 0 0] 87) = W4 ∧
   W.heap.size = w.heap.size + 1 ∧ W2.heap.size = w.heap.size + 2 ∧ W3.heap.size = w.heap.size + 3 ∧ Dk (.slice A n cp) (.slice E m d) (.slice D k e) s c w W4 := by
 have h1 : Below w.heap.size w (w.alloc (.cells #[.slice A n cp, .slice E m d, .slice D k e] 31)) := (Below.refl _ _).alloc (Nat.le_refl _) _
 obtain ⟨W2, hW2, hbc, hal, hsz⟩ := box_ca (w.alloc (.cells #[.slice A n cp, .slice E m d, .slice D k e] 31)) c
 have hs1 : (w.alloc (.cells #[.slice A n cp, .slice E m d, .slice D k e] 31)).heap.size = w.heap.size + 1 := by simp
 obtain ⟨W3, hW3⟩ : ∃ W3, W2.alloc (.cells #[.slice none 0 0, .slice none 0 0, .slice none 0 0] 31) = W3 := ⟨_, rfl⟩
 have hal3 : Below W2.heap.size W2 W3 := by rw [← hW3]; exact (Below.refl _ _).alloc (Nat.le_refl _) _
 have hs3 : W3.heap.size = W2.heap.size + 1 := by rw [← hW3]; simp
 have ho3 : W3.heap[W2.heap.size]? = some (.cells #[.slice none 0 0, .slice none 0 0, .slice none 0 0] 31 (0, 0)) := by rw [← hW3]; exact heap_alloc_new W2 _
 have hal4 : Below W3.heap.size W3 (W3.alloc (.cells #[.int .i64 0, .int .i64 0, .int .i64 0, .bool false, .string ⟨#[]⟩, .slice none 0 0] 87)) := (Below.refl _ _).alloc (Nat.le_refl _) _
 have hb34 := Cv.next hal3 hal4
 have hb24 := Cv.next hal hb34
 rw [hs1] at hbc hsz
 refine ⟨_, W2, W3, _, rfl, hW2, hW3, rfl, hs1, by omega, by omega, ?_, ?_, ?_, ?_, h.below (Cv.next h1 hb24), Cv.next h1 hb24, by simp; omega⟩
 ·exact (hb24.block _ (by omega)).trans (heap_alloc_new w _)
 ·exact (hb34.block _ (by omega)).trans hbc
 ·rw [show w.heap.size + 2 = W2.heap.size by omega]; exact (hal4.block _ (by omega)).trans ho3
 ·rw [show w.heap.size + 3 = W3.heap.size by omega]; exact heap_alloc_new W3 _
end Go.Proofs.YtilkhmhgjbhfnaaGreatDoor
namespace Go.Proofs.YtilkhmhgjbhfnaaGreatDoor
def En1 (e : En) : Prop := e.name.size ≤ 140737488355328 ∧ -9223372036854775808 ≤ e.num ∧ e.num ≤ 9223372036854775807
structure Small (a b c : Nat) (s : St) : Prop where
 il : s.inos.length ≤ a
 io : ∀ x ∈ s.inos, x.ents.length ≤ b ∧ x.data.size ≤ 140737488355328 ∧ (-9223372036854775808 ≤ x.num ∧ x.num ≤ 9223372036854775807) ∧ ∀ e ∈ x.ents, En1 e
 ol : s.opn.length ≤ c
 ml : s.made.length ≤ 8
 mr : ∀ m ∈ s.made, 0 ≤ m ∧ m ≤ 33
theorem bulkE_mul (b : Nat) : ∀ (is : List Ino), (∀ x ∈ is, x.ents.length ≤ b) → bulkE is ≤ is.length * b
 | [], _ => by simp [bulkE]
 | x :: xs, h => by
  have h1 := h x List.mem_cons_self
  have h2 := bulkE_mul b xs (fun y hy => h y (List.mem_cons_of_mem _ hy))
  have e : bulkE (x :: xs) = x.ents.length + bulkE xs := rfl
  rw [e, List.length_cons, Nat.add_mul]
  omega
theorem Small.sized {a b c : Nat} {s : St} (h : Small a b c s) (ha : a ≤ 1000) (hb : b ≤ 1000) (hc : c ≤ 1000) : Sized s := by
 refine ⟨?_, fun x hx => ⟨(h.io x hx).2.1, fun e he => ((h.io x hx).2.2.2 e he).1⟩, ⟨fun x hx => ⟨(h.io x hx).2.2.1.1, (h.io x hx).2.2.1.2, fun e he => ((h.io x hx).2.2.2 e he).2⟩, fun m hm => ?_⟩⟩
 ·have h1 := bulkE_mul b s.inos (fun x hx => (h.io x hx).1)
  have h2 := h.il
  have h3 := h.ol
  have h4 := h.ml
  have h5 : s.inos.length * b ≤ 1000 * 1000 := Nat.mul_le_mul (by omega) hb
  omega
 ·have := h.mr m hm
  omega
theorem Good.small {s : St} (h : Good s) : Small 257 32 32 s := by
 have hm := (good_iff s).2 h
 have hf := may_facts hm
 refine ⟨h.len, fun x hx => ⟨h.ents_len hx, ?_, ?_, fun e he => ⟨?_, ?_, ?_⟩⟩, h.opn_len, h.m8, fun m hm => ?_⟩
 ·have := (hf.data x hx).1; omega
 ·have := hf.nums x hx; omega
 ·have := (hf.data x hx).2 e he; omega
 ·have h1 := (hf.linked x hx).2 e he
  obtain ⟨y, hy, hn⟩ := atV_lt (is := s.inos) (t := e.num) (k := (atV s.inos e.num).toNat) (by omega)
  have := hf.nums y (List.mem_of_getElem? hy)
  omega
 ·have h1 := (hf.linked x hx).2 e he
  obtain ⟨y, hy, hn⟩ := atV_lt (is := s.inos) (t := e.num) (k := (atV s.inos e.num).toNat) (by omega)
  have := hf.nums y (List.mem_of_getElem? hy)
  omega
 ·have := h.mr m hm; omega
theorem Small.more {a b c a' b' c' : Nat} {s : St} (h : Small a b c s) (ha : a ≤ a') (hb : b ≤ b') (hc : c ≤ c') : Small a' b' c' s :=
 ⟨Nat.le_trans h.il ha, fun x hx => ⟨Nat.le_trans (h.io x hx).1 hb, (h.io x hx).2⟩, Nat.le_trans h.ol hc, h.ml, h.mr⟩
theorem Small.ents {a b c : Nat} {s : St} (h : Small a b c s) (dir : Int) (f : List En → List En) (hf : ∀ es, (f es).length ≤ es.length + 1) (hm : ∀ es e, e ∈ f es → e ∈ es ∨ En1 e) : Small a (b + 1) c { s with inos := setEnts s.inos dir f } := by
 refine ⟨by show (setEnts s.inos dir f).length ≤ a; unfold setEnts; rw [List.length_modify]; exact h.il, fun x hx => ?_, h.ol, h.ml, h.mr⟩
 rcases modify_mem _ _ _ _ hx with hx | ⟨z, hz, rfl⟩
 ·have := h.io x hx
  exact ⟨by omega, this.2⟩
 ·have h1 := h.io z hz
  refine ⟨?_, h1.2.1, h1.2.2.1, fun e he => ?_⟩
  ·have := hf z.ents
   show (f z.ents).length ≤ b + 1
   omega
  ·rcases hm _ _ he with h2 | h2
   ·exact h1.2.2.2 e h2
   ·exact h2
theorem putE_mem : ∀ (es : List En) (name : ByteArray) (num : Int) (e : En), e ∈ putE es name num → e ∈ es ∨ e = ⟨name, num⟩
 | [], name, num, e, h => by
  have : e = ⟨name, num⟩ := by simpa [putE] using h
  exact .inr this
 | y :: es, name, num, e, h => by
  unfold putE at h
  split at h
  ·rcases List.mem_cons.1 h with h | h
   ·exact .inr h
   ·exact .inl h
  ·rcases List.mem_cons.1 h with rfl | h
   ·exact .inl List.mem_cons_self
   ·rcases putE_mem es name num e h with h | h
    ·exact .inl (List.mem_cons_of_mem _ h)
    ·exact .inr h
theorem Small.put {a b c : Nat} {s : St} (h : Small a b c s) (dir : Int) (name : ByteArray) (num : Int) (hn : En1 ⟨name, num⟩) : Small a (b + 1) c { s with inos := setEnts s.inos dir fun es => putE es name num } :=
 h.ents dir _ (fun es => by rw [putE_len]; omega) (fun es e he => by
  rcases putE_mem es name num e he with h | h
  ·exact .inl h
  ·exact .inr (h ▸ hn))
theorem Small.dropE {a b c : Nat} {s : St} (h : Small a b c s) (dir : Int) (name : ByteArray) : Small a (b + 1) c { s with inos := setEnts s.inos dir fun es => Go.Proofs.YtilkhmhgjbhfnaaGreatDoor.dropE es name } :=
 h.ents dir _ (fun es => by have := dropE_len es name; omega) (fun es e he => .inl (dropE_mem es name e he))
theorem putI_mem : ∀ (is : List Ino) (y x : Ino), x ∈ putI is y → x ∈ is ∨ x = y
 | [], y, x, h => by
  have : x = y := by simpa [putI] using h
  exact .inr this
 | z :: zs, y, x, h => by
  unfold putI at h
  split at h
  ·rcases List.mem_cons.1 h with h | h
   ·exact .inr h
   ·exact .inl h
  ·rcases List.mem_cons.1 h with rfl | h
   ·exact .inl List.mem_cons_self
   ·rcases putI_mem zs y x h with h | h
    ·exact .inl (List.mem_cons_of_mem _ h)
    ·exact .inr h
theorem putI_len : ∀ (is : List Ino) (y : Ino), (putI is y).length = is.length + 1
 | [], _ => rfl
 | z :: zs, y => by
  unfold putI
  split
  ·rfl
  ·rw [List.length_cons, putI_len zs y, List.length_cons]
theorem Small.putI {a b c : Nat} {s : St} (h : Small a b c s) (y : Ino) (hy : y.ents = []) (hd : y.data.size ≤ 140737488355328) (hn : -9223372036854775808 ≤ y.num ∧ y.num ≤ 9223372036854775807) : Small (a + 1) b c { s with inos := Go.Proofs.YtilkhmhgjbhfnaaGreatDoor.putI s.inos y } := by
 refine ⟨by show (Go.Proofs.YtilkhmhgjbhfnaaGreatDoor.putI s.inos y).length ≤ a + 1; rw [putI_len]; have := h.il; omega, fun x hx => ?_, h.ol, h.ml, h.mr⟩
 rcases putI_mem _ _ _ hx with hx | rfl
 ·exact h.io x hx
 ·exact ⟨by rw [hy]; simp, hd, hn, by rw [hy]; intro e he; simp at he⟩
theorem putD_len : ∀ (ds : List Ds) (y : Ds), (putD ds y).length = ds.length + 1
 | [], _ => rfl
 | z :: zs, y => by
  unfold putD
  split
  ·rfl
  ·rw [List.length_cons, putD_len zs y, List.length_cons]
theorem getLastD_mem {α : Type} : ∀ (l : List α) (d : α), l ≠ [] → l.getLastD d ∈ l
 | [], _, h => absurd rfl h
 | [x], d, _ => by simp [List.getLastD]
 | x :: y :: l, d, _ => by
  rw [List.getLastD_cons]
  exact List.mem_cons_of_mem _ (getLastD_mem (y :: l) x (by simp))
theorem scan_names : ∀ (r cur : List UInt8) (out : List (List UInt8)), (∀ n ∈ out, checkL n = 0) → ∀ n ∈ (scanP r cur out).1, checkL n = 0
 | [], cur, out, ho, n, hn => by
  unfold scanP at hn
  split at hn
  ·simp at hn
  ·exact ho n hn
 | b :: r, cur, out, ho, n, hn => by
  unfold scanP at hn
  split at hn
  ·split at hn
   ·rename_i hc
    refine scan_names r _ _ (fun m hm => ?_) n hn
    rcases List.mem_append.1 hm with hm | hm
    ·exact ho m hm
    ·have : m = cur := by simpa using hm
     rw [this]
     exact hc
   ·split at hn <;> simp at hn
  ·exact scan_names r _ _ ho n hn
theorem parse_names (l : List UInt8) : ∀ n ∈ (parseL l).1, checkL n = 0 := by
 intro n hn
 unfold parseL at hn
 split at hn
 ·simp at hn
 ·split at hn
  ·simp at hn
  ·split at hn
   ·simp at hn
   ·exact scan_names _ _ _ (by simp) n hn
theorem checkL_size {l : List UInt8} (h : checkL l = 0) : l.length ≤ 12 ∧ l ≠ [] := by
 unfold checkL at h
 split at h
 ·cases h
 ·split at h
  ·cases h
  ·rename_i h1 h2
   exact ⟨by omega, fun e => h2 (.inl e)⟩
theorem txt_data (l : List UInt8) : (txt l).data.toList = l := rfl
theorem parentV_name (is : List Ino) (path : ByteArray) (h : (parentV is path).2.2 = 0) : chkB (parentV is path).2.1 = 0 := by
 unfold parentV at h ⊢
 split
 ·rename_i h1
  rw [if_pos h1] at h
  exfalso
  have h2 : codeP (parseL path.data.toList).2 = 0 := h
  unfold codeP at h2
  rw [if_neg h1] at h2
  split at h2 <;> omega
 ·rename_i h1
  rw [if_neg h1] at h
  split
  ·rename_i h2
   rw [if_pos h2] at h
   exact absurd h (by show ¬ (9 : Int) = 0; decide)
  ·rename_i h2
   rw [if_neg h2] at h
   split
   ·rename_i h3
    rw [if_pos h3] at h
    exact absurd h h3
   ·rename_i h3
    rw [if_neg h3] at h
    split
    ·rename_i h4
     rw [if_pos h4] at h
     exact absurd h (by show ¬ (7 : Int) = 0; decide)
    ·show chkB (txt ((parseL path.data.toList).1.getLastD [])) = 0
     unfold chkB
     rw [txt_data]
     exact parse_names path.data.toList _ (getLastD_mem _ _ h2)
theorem parentV_size (is : List Ino) (path : ByteArray) : (parentV is path).2.1.size ≤ 12 := by
 by_cases h : (parentV is path).2.2 = 0
 ·have h1 := parentV_name is path h
  unfold chkB at h1
  have h2 := (checkL_size h1).1
  rwa [Array.length_toList] at h2
 ·have e : (parentV is path).2.1 = txt [] := by
   revert h
   unfold parentV
   split
   ·intro _; rfl
   ·split
    ·intro _; rfl
    ·split
     ·intro _; rfl
     ·split
      ·intro _; rfl
      ·intro h; exact absurd rfl h
  rw [e]
  decide
theorem Good.whole {s : St} (h : Good s) : Whole s.inos := may_whole ((good_iff s).2 h)
theorem Good.num_range {s : St} (h : Good s) {num : Int} (hn : 0 ≤ atV s.inos num) : 1 ≤ num ∧ num ≤ 257 := by
 obtain ⟨k, x, _, hx, hxn⟩ := atV_some hn
 have := (may_facts ((good_iff s).2 h)).nums x (List.mem_of_getElem? hx)
 omega
theorem Small.dropI {a b c : Nat} {s : St} (h : Small a b c s) (num : Int) : Small a b c { s with inos := Go.Proofs.YtilkhmhgjbhfnaaGreatDoor.dropI s.inos num } :=
 ⟨by have := (dropI_len s.inos num).1; have := h.il; show (Go.Proofs.YtilkhmhgjbhfnaaGreatDoor.dropI s.inos num).length ≤ a; omega, fun x hx => h.io x (dropI_mem _ _ _ hx), h.ol, h.ml, h.mr⟩
theorem Small.sweep {a b c : Nat} {s : St} (h : Small a b c s) (num : Int) : Small a b c (sweepV s num) := by
 unfold sweepV
 split
 ·exact h
 ·exact h.dropI num
theorem Small.opn {a b c : Nat} {s : St} (h : Small a b c s) (ds : List Ds) (hd : ds.length ≤ c + 1) : Small a b (c + 1) { s with opn := ds } := ⟨h.il, h.io, hd, h.ml, h.mr⟩
theorem Small.setData {a b c : Nat} {s : St} (h : Small a b c s) (num : Int) (d : ByteArray) (hd : d.size ≤ 140737488355328) : Small a b c { s with inos := Go.Proofs.YtilkhmhgjbhfnaaGreatDoor.setData s.inos num d } := by
 refine ⟨by show (Go.Proofs.YtilkhmhgjbhfnaaGreatDoor.setData s.inos num d).length ≤ a; unfold Go.Proofs.YtilkhmhgjbhfnaaGreatDoor.setData; rw [List.length_modify]; exact h.il, fun x hx => ?_, h.ol, h.ml, h.mr⟩
 rcases modify_mem _ _ _ _ hx with hx | ⟨z, hz, rfl⟩
 ·exact h.io x hx
 ·have := h.io z hz
  exact ⟨this.1, hd, this.2.2⟩
theorem Small.made {a b c : Nat} {s : St} (h : Small a b c s) (xs : List Int) (hl : xs.length ≤ 8) (hr : ∀ m ∈ xs, 0 ≤ m ∧ m ≤ 33) : Small a b c { s with made := xs } := ⟨h.il, h.io, h.ol, hl, hr⟩
theorem layL_len (l : List UInt8) (o : Nat) (d : List UInt8) : (layL l o d).length = max l.length (o + d.length) := by
 unfold layL
 rw [List.length_append, List.length_append, List.length_take, List.length_drop, sizedL_len]
 omega
theorem txt_size (l : List UInt8) : (txt l).size = l.length := by
 show l.toArray.size = _
 simp
theorem make_sized {s : St} (h : Good s) (c : Ca) (hc0 : 0 ≤ c.core) (hc1 : c.core < (s.made.length : Int)) : MakeSized s c ∧ Sized (make1V s c).1 := by
 have hs := h.small
 have hm8 := h.m8
 have hget : 0 ≤ s.made.getD c.core.toNat 0 ∧ s.made.getD c.core.toNat 0 ≤ 32 := by
  have hlt : c.core.toNat < s.made.length := by omega
  rw [List.getD_eq_getElem?_getD, List.getElem?_eq_getElem hlt]
  exact h.mr _ (List.getElem_mem hlt)
 have hset : ∀ m ∈ s.made.set c.core.toNat (s.made.getD c.core.toNat 0 + 1), 0 ≤ m ∧ m ≤ 33 := by
  intro m hm
  rcases List.mem_or_eq_of_mem_set hm with hm | rfl
  ·have := h.mr m hm; omega
  ·omega
 have h1 := hs.made _ (by rw [List.length_set]; exact hm8) hset
 have hns := parentV_size s.inos c.path
 have hen : En1 ⟨(parentV s.inos c.path).2.1, 2 + c.core + 8 * s.made.getD c.core.toNat 0⟩ := ⟨by show (parentV s.inos c.path).2.1.size ≤ _; omega, by show (-9223372036854775808 : Int) ≤ 2 + c.core + 8 * s.made.getD c.core.toNat 0; omega, by show 2 + c.core + 8 * s.made.getD c.core.toNat 0 ≤ 9223372036854775807; omega⟩
 have h2 := h1.put (parentV s.inos c.path).1 _ _ hen
 have h3 := h2.putI ⟨2 + c.core + 8 * s.made.getD c.core.toNat 0, decide (c.kind = 1), [], txt []⟩ rfl (by show (txt []).size ≤ _; rw [txt_size]; simp) ⟨by show (-9223372036854775808 : Int) ≤ 2 + c.core + 8 * s.made.getD c.core.toNat 0; omega, by show 2 + c.core + 8 * s.made.getD c.core.toNat 0 ≤ 9223372036854775807; omega⟩
 have h4 : Sized (make1V s c).1 := by
  unfold make1V
  split
  ·exact hs.sized (by omega) (by omega) (by omega)
  ·split
   ·exact hs.sized (by omega) (by omega) (by omega)
   ·split
    ·exact hs.sized (by omega) (by omega) (by omega)
    ·exact h3.sized (by omega) (by omega) (by omega)
 exact ⟨⟨h1.sized (by omega) (by omega) (by omega), h2.sized (by omega) (by omega) (by omega), h4, by omega⟩, h4⟩
theorem open_sized {s : St} (h : Good s) (c : Ca) (want : Int) : Sized (openedV s c want).1 := by
 have hs := h.small
 have h0 := hs.sized (by omega) (by omega) (by omega)
 have hp : ∀ y, Sized { s with opn := putD s.opn y } := fun y => (hs.opn _ (by rw [putD_len]; have := h.opn_len; omega)).sized (by omega) (by omega) (by omega)
 unfold openedV
 repeat (first | exact h0 | exact hp _ | split)
theorem fd_sized {s : St} (h : Good s) (c : Ca) : Sized (byFdV s c).1 := by
 have hs := h.small
 have h0 := hs.sized (by omega) (by omega) (by omega)
 have hd : Sized (sweepV { s with opn := dropD s.opn c.core c.fd } (fdV s.opn c.core c.fd)) := ((hs.opn _ (by have := dropD_len s.opn c.core c.fd; have := h.opn_len; omega)).sweep _).sized (by omega) (by omega) (by omega)
 have hdat : ∀ num : Int, (dataAt s.inos num).size ≤ 256 := by
  intro num
  unfold dataAt
  rcases atV_cases s.inos num with ⟨h1, _⟩ | ⟨k, x, h1, hx, _, _⟩
  ·rw [h1]; show (txt []).size ≤ 256; rw [txt_size]; simp
  ·rw [h1, inoAt_nat, hx]
   exact ((may_facts ((good_iff s).2 h)).data x (List.mem_of_getElem? hx)).1
 unfold byFdV
 split
 ·exact h0
 split
 ·exact hd
 split
 ·split <;> exact h0
 split
 ·split
  ·exact h0
  split
  ·exact h0
  split
  ·exact h0
  ·rename_i h5 h6 h7
   refine (hs.setData _ _ ?_).sized (by omega) (by omega) (by omega)
   rw [txt_size, layL_len, Array.length_toList, Array.length_toList]
   have := hdat (fdV s.opn c.core c.fd)
   have e1 : (dataAt s.inos (fdV s.opn c.core c.fd)).data.size = (dataAt s.inos (fdV s.opn c.core c.fd)).size := rfl
   have e2 : c.data.data.size = c.data.size := rfl
   omega
 split
 ·split
  ·exact h0
  ·refine (hs.setData _ _ ?_).sized (by omega) (by omega) (by omega)
   rw [txt_size, sizedL_len]
   omega
 split <;> exact h0
theorem link_sized {s : St} (h : Good s) (c : Ca) : Sized (linkV s c).1 := by
 have hs := h.small
 have h0 := hs.sized (by omega) (by omega) (by omega)
 have hns := parentV_size s.inos c.path2
 unfold linkV
 split
 ·exact h0
 ·rename_i hf
  have hn := h.num_range (findV_at h.whole c.path (by omega))
  have h1 := (hs.put (parentV s.inos c.path2).1 (parentV s.inos c.path2).2.1 (findV s.inos c.path).1 ⟨by show (parentV s.inos c.path2).2.1.size ≤ _; omega, by show (-9223372036854775808 : Int) ≤ (findV s.inos c.path).1; omega, by show (findV s.inos c.path).1 ≤ 9223372036854775807; omega⟩).sized (by omega) (by omega) (by omega)
  repeat (first | exact h0 | exact h1 | split)
theorem names_sized {s : St} (h : Good s) (c : Ca) : Sized (namesV s c).1 := by
 have hs := h.small
 have h0 := hs.sized (by omega) (by omega) (by omega)
 have hns := parentV_size s.inos c.path2
 unfold namesV
 split
 ·exact link_sized h c
 split
 ·exact h0
 split
 ·exact h0
 ·rename_i hen
  have hn := h.num_range (entV_whole h.whole hen)
  have h1 := hs.dropE (parentV s.inos c.path).1 (parentV s.inos c.path).2.1
  have h2 := (h1.sweep (entV s.inos (parentV s.inos c.path).1 (parentV s.inos c.path).2.1)).sized (by omega) (by omega) (by omega)
  have h3 := (h1.put (parentV s.inos c.path2).1 (parentV s.inos c.path2).2.1 (entV s.inos (parentV s.inos c.path).1 (parentV s.inos c.path).2.1) ⟨by show (parentV s.inos c.path2).2.1.size ≤ _; omega, by show (-9223372036854775808 : Int) ≤ entV s.inos (parentV s.inos c.path).1 (parentV s.inos c.path).2.1; omega, by show entV s.inos (parentV s.inos c.path).1 (parentV s.inos c.path).2.1 ≤ 9223372036854775807; omega⟩).sized (by omega) (by omega) (by omega)
  split
  ·unfold renameV
   repeat (first | exact h0 | exact h3 | split)
  ·repeat (first | exact h0 | exact h2 | split)
theorem ltB_irrefl : ∀ (a : List UInt8), ltB a a = false
 | [] => rfl
 | a :: l => by unfold ltB; rw [if_pos rfl]; exact ltB_irrefl l
theorem ltN_irrefl (a : ByteArray) : ltN a a = false := ltB_irrefl _
theorem ltN_asymm {a b : ByteArray} (h : ltN a b = true) : ltN b a = false := by
 cases h2 : ltN b a
 ·rfl
 ·have := ltN_trans h h2
  rw [ltN_irrefl] at this
  cases this
theorem ltB_tri : ∀ (a b : List UInt8), ltB a b = false → ltB b a = false → a = b
 | [], [], _, _ => rfl
 | [], _ :: _, h, _ => by simp [ltB] at h
 | _ :: _, [], _, h => by simp [ltB] at h
 | a :: al, b :: bl, h1, h2 => by
  unfold ltB at h1 h2
  by_cases e : a = b
  ·subst e
   rw [if_pos rfl] at h1 h2
   rw [ltB_tri al bl h1 h2]
  ·rw [if_neg e, decide_eq_false_iff_not] at h1
   rw [if_neg (fun e2 => e e2.symm), decide_eq_false_iff_not] at h2
   exact absurd (UInt8.le_antisymm (UInt8.not_lt.1 h2) (UInt8.not_lt.1 h1)) e
theorem ltN_tri {a b : ByteArray} (h1 : ltN a b = false) (h2 : ltN b a = false) : a = b := by
 have h := ltB_tri _ _ h1 h2
 cases a; cases b
 exact congrArg ByteArray.mk (Array.toList_inj.1 h)
theorem EnPos.tail {e : En} {t : List En} {nm : ByteArray} {i : Nat} {b : Bool} (h : EnPos (e :: t) nm (i + 1) b) : EnPos t nm i b :=
 ⟨by have := h.le; simp at this; omega, fun k x hk hx => h.lo (k + 1) x (by omega) (by simpa using hx), fun k x hk hx => h.hi (k + 1) x (by omega) (by simpa using hx), fun hb => by
  obtain ⟨x, hx, hn⟩ := h.is_ hb
  exact ⟨x, by simpa using hx, hn⟩, fun hb => by
  obtain ⟨x, hx, hn⟩ := hb
  exact h.of_ ⟨x, by simpa using hx, hn⟩⟩
theorem EnPos.head {e : En} {t : List En} {nm : ByteArray} {i : Nat} {b : Bool} (h : EnPos (e :: t) nm (i + 1) b) : ltN e.name nm = true := h.lo 0 e (by omega) rfl
theorem putE_pos : ∀ (es : List En) (nm : ByteArray) (i : Nat) (num : Int), EnPos es nm i false → putE es nm num = es.take i ++ [⟨nm, num⟩] ++ es.drop i
 | [], nm, i, num, h => by
  have := h.le
  have : i = 0 := by simpa using this
  subst this
  rfl
 | e :: t, nm, 0, num, h => by
  have h1 := h.hi 0 e (Nat.le_refl _) rfl
  have h2 : e.name ≠ nm := fun e2 => by
   have := h.of_ ⟨e, rfl, e2⟩
   cases this
  have h3 : ltN nm e.name = true := by
   cases h4 : ltN nm e.name
   ·exact absurd (ltN_tri h1 h4) h2
   ·rfl
  unfold putE
  rw [if_pos h3]
  rfl
 | e :: t, nm, i + 1, num, h => by
  unfold putE
  rw [if_neg (by rw [ltN_asymm h.head]; decide), putE_pos t nm i num h.tail]
  rfl
theorem RiseE.tail {e : En} {t : List En} (h : RiseE (e :: t)) : RiseE t := fun i j x y hij hx hy => h (i + 1) (j + 1) x y (by omega) (by simpa using hx) (by simpa using hy)
theorem entG_none : ∀ (l : List En) (nm : ByteArray), (∀ x ∈ l, x.name ≠ nm) → entG l nm = 0
 | [], _, _ => rfl
 | y :: ys, nm, hl => by
  unfold entG
  rw [if_neg (hl y (by simp)), entG_none ys nm (fun x hx => hl x (by simp [hx]))]
theorem entG_pos : ∀ (es : List En) (nm : ByteArray) (i : Nat) (b : Bool), RiseE es → EnPos es nm i b → (b = false → entG es nm = 0) ∧ ∀ e, es[i]? = some e → b = true → entG es nm = e.num
 | [], nm, i, b, hr, h => ⟨fun _ => rfl, fun e he => by simp at he⟩
 | e :: t, nm, 0, b, hr, h => by
  refine ⟨fun hb => ?_, fun x hx hb => ?_⟩
  ·subst hb
   refine entG_none _ _ (fun x hx e2 => ?_)
   obtain ⟨j, hj⟩ := List.getElem?_of_mem hx
   by_cases h0 : j = 0
   ·subst h0
    have := h.of_ ⟨x, hj, e2⟩
    cases this
   ·have h1 := hr 0 j e x (by omega) rfl hj
    have h2 := h.hi 0 e (Nat.le_refl _) rfl
    rw [e2, h2] at h1
    cases h1
  ·have : e = x := by simpa using hx
   subst this
   obtain ⟨y, hy, hn⟩ := h.is_ hb
   have : e = y := by simpa using hy
   subst this
   unfold entG
   rw [if_pos hn]
 | e :: t, nm, i + 1, b, hr, h => by
  have ih := entG_pos t nm i b hr.tail h.tail
  have hne : e.name ≠ nm := fun e2 => by
   have := h.head
   rw [e2, ltN_irrefl] at this
   cases this
  unfold entG
  rw [if_neg hne]
  exact ⟨ih.1, fun x hx hb => ih.2 x (by simpa using hx) hb⟩
theorem dropE_none : ∀ (l : List En) (nm : ByteArray), (∀ x ∈ l, x.name ≠ nm) → dropE l nm = l
 | [], _, _ => rfl
 | y :: ys, nm, hl => by
  unfold dropE
  rw [if_neg (hl y (by simp)), dropE_none ys nm (fun x hx => hl x (by simp [hx]))]
theorem dropE_pos : ∀ (es : List En) (nm : ByteArray) (i : Nat), RiseE es → EnPos es nm i true → dropE es nm = es.take i ++ es.drop (i + 1)
 | [], nm, i, hr, h => by
  obtain ⟨x, hx, _⟩ := h.is_ rfl
  simp at hx
 | e :: t, nm, 0, hr, h => by
  obtain ⟨y, hy, hn⟩ := h.is_ rfl
  have : e = y := by simpa using hy
  subst this
  unfold dropE
  rw [if_pos hn, dropE_none t nm (fun x hx e2 => ?_)]
  ·rfl
  ·obtain ⟨j, hj⟩ := List.getElem?_of_mem hx
   have h1 := hr 0 (j + 1) e x (by omega) rfl (by simpa using hj)
   rw [hn, e2, ltN_irrefl] at h1
   cases h1
 | e :: t, nm, i + 1, hr, h => by
  have hne : e.name ≠ nm := fun e2 => by
   have := h.head
   rw [e2, ltN_irrefl] at this
   cases this
  unfold dropE
  rw [if_neg hne, dropE_pos t nm i hr.tail h.tail]
  rfl
theorem entsG_rise (is : List Ino) : ∀ (es : List En) (p : Option ByteArray) (many : Nat → Nat), entsG is es p many = true → RiseE es ∧ ∀ q x, p = some q → es[0]? = some x → ltN q x.name = true
 | [], p, many, h => ⟨fun i j x y _ hx => by simp at hx, fun q x _ hx => by simp at hx⟩
 | e :: es, p, many, h => by
  unfold entsG at h
  by_cases h1 : entBad is p e = true
  ·rw [if_pos h1] at h; cases h
  ·rw [if_neg h1] at h
   by_cases h2 : 4 < many (bktB e.name) + 1
   ·rw [if_pos h2] at h; cases h
   ·rw [if_neg h2] at h
    obtain ⟨r1, r2⟩ := entsG_rise is es (some e.name) _ h
    have key : ∀ (j : Nat) (y : En), es[j]? = some y → ltN e.name y.name = true := by
     intro j
     induction j with
     | zero => intro y hy; exact r2 _ _ rfl hy
     | succ j ih =>
      intro y hy
      have hjl : j < es.length := by have := (List.getElem?_eq_some_iff.1 hy).1; omega
      exact ltN_trans (ih _ (List.getElem?_eq_getElem hjl)) (r1 j (j + 1) _ _ (by omega) (List.getElem?_eq_getElem hjl) hy)
    refine ⟨fun i j x y hij hx hy => ?_, fun q x hp hx => ?_⟩
    ·cases j with
     | zero => omega
     | succ j =>
      have hy2 : es[j]? = some y := by simpa using hy
      cases i with
      | zero =>
       have : e = x := by simpa using hx
       subst this
       exact key j y hy2
      | succ i => exact r1 i j x y (by omega) (by simpa using hx) hy2
    ·have : e = x := by simpa using hx
     subst this
     subst hp
     cases h3 : ltN q e.name
     ·exfalso
      apply h1
      unfold entBad
      simp [h3]
     ·rfl
theorem Good.riseE {s : St} (h : Good s) {x : Ino} (hx : x ∈ s.inos) : RiseE x.ents := by
 cases hd : x.dir
 ·rw [(h.files x hx hd).1]
  intro i j x y _ hx
  simp at hx
 ·exact (entsG_rise _ _ _ _ (h.dirs x hx hd).2).1
theorem Good.riseI {s : St} (h : Good s) : RiseI s.inos := fun i j x y hij hx hy => by
 obtain ⟨hi, rfl⟩ := List.getElem?_eq_some_iff.1 hx
 obtain ⟨hj, rfl⟩ := List.getElem?_eq_some_iff.1 hy
 exact List.pairwise_iff_getElem.1 h.rise i j hi hj hij
theorem Good.entNum {s : St} (h : Good s) {x : Ino} (hx : x ∈ s.inos) {e : En} (he : e ∈ x.ents) : e.num ≠ 0 ∧ 0 ≤ atV s.inos e.num := by
 have h1 := h.whole.2 x hx e he
 have := h.num_range h1
 exact ⟨by omega, h1⟩
theorem Good.entIs {s : St} (h : Good s) {x : Ino} (hx : x ∈ s.inos) {nm : ByteArray} {i : Nat} {b : Bool} (hp : EnPos x.ents nm i b) : (b = false ∧ entG x.ents nm = 0) ∨ (b = true ∧ entG x.ents nm ≠ 0 ∧ ∃ e, x.ents[i]? = some e ∧ e.num = entG x.ents nm ∧ e.name = nm) := by
 have hr := entG_pos x.ents nm i b (h.riseE hx) hp
 cases b
 ·exact .inl ⟨rfl, hr.1 rfl⟩
 ·obtain ⟨e, he, hn⟩ := hp.is_ rfl
  have h2 := hr.2 e he rfl
  exact .inr ⟨rfl, by rw [h2]; exact (h.entNum hx (List.mem_of_getElem? he)).1, e, he, h2.symm, hn⟩
theorem entV_at {is : List Ino} {t : Int} {i : Nat} {x : Ino} (ha : atV is t = (i : Int)) (hx : is[i]? = some x) (nm : ByteArray) : entV is t nm = entG x.ents nm := by
 unfold entV
 rw [ha, inoAt_nat, hx]
theorem dropI_none : ∀ (l : List Ino) (num : Int), (∀ x ∈ l, x.num ≠ num) → dropI l num = l
 | [], _, _ => rfl
 | y :: ys, num, hl => by
  unfold dropI
  rw [if_neg (hl y (by simp)), dropI_none ys num (fun x hx => hl x (by simp [hx]))]
theorem RiseI.tail {e : Ino} {t : List Ino} (h : RiseI (e :: t)) : RiseI t := fun i j x y hij hx hy => h (i + 1) (j + 1) x y (by omega) (by simpa using hx) (by simpa using hy)
theorem dropI_pos : ∀ (is : List Ino) (i : Nat) (x : Ino), RiseI is → is[i]? = some x → dropI is x.num = is.take i ++ is.drop (i + 1)
 | [], i, x, hr, h => by simp at h
 | e :: t, 0, x, hr, h => by
  have : e = x := by simpa using h
  subst this
  unfold dropI
  rw [if_pos rfl, dropI_none t e.num (fun y hy e2 => ?_)]
  ·rfl
  ·obtain ⟨j, hj⟩ := List.getElem?_of_mem hy
   have h1 := hr 0 (j + 1) e y (by omega) rfl (by simpa using hj)
   omega
 | e :: t, i + 1, x, hr, h => by
  have hx : t[i]? = some x := by simpa using h
  have h1 := hr 0 (i + 1) e x (by omega) rfl h
  unfold dropI
  rw [if_neg (by omega), dropI_pos t i x hr.tail hx]
  rfl
theorem putI_pos : ∀ (is : List Ino) (i : Nat) (y : Ino), i ≤ is.length → (∀ (k : Nat) (x : Ino), k < i → is[k]? = some x → x.num < y.num) → (∀ (k : Nat) (x : Ino), i ≤ k → is[k]? = some x → y.num < x.num) → putI is y = is.take i ++ [y] ++ is.drop i
 | [], i, y, hi, _, _ => by
  have : i = 0 := by simpa using hi
  subst this
  rfl
 | e :: t, 0, y, hi, _, h2 => by
  have := h2 0 e (Nat.le_refl _) rfl
  unfold putI
  rw [if_pos this]
  rfl
 | e :: t, i + 1, y, hi, h1, h2 => by
  have := h1 0 e (by omega) rfl
  unfold putI
  rw [if_neg (by omega), putI_pos t i y (by simpa using hi) (fun k x hk hx => h1 (k + 1) x (by omega) (by simpa using hx)) (fun k x hk hx => h2 (k + 1) x (by omega) (by simpa using hx))]
  rfl
end Go.Proofs.YtilkhmhgjbhfnaaGreatDoor
