/- Parts of the proof, side by side: MoEntry, FsRename, Rows0, FsOpen, FsOpened, FsLooks, LaBuild, FsSized, FsSized2, FsByFd, FsByFdW. -/
import Derived.Test.YtilkhmhgjbhfnaaGreatDoorM05
import Derived.Lib.Bytealg
import Derived.Test.YtilkhmhgjbhfnaaGreatDoorM04
import Derived.Test.YtilkhmhgjbhfnaaGreatDoorM03
import Derived.Test.YtilkhmhgjbhfnaaGreatDoorM01
import Derived.Deep.Cut
import Derived.Deep.DeepCutAuto
import Derived.Test.YtilkhmhgjbhfnaaGreatDoorM02
import Derived.Deep.RegionHeld3
import Derived.Lib.Builder
import Derived.Lib.FrozenHead2
import Derived.Lib.UnsafeStr
import Derived.Shelf.RegionOpenPlain
import Derived.Lib.BufferWrite
import Derived.Deep.WholeRow
import Derived.Deep.RegionWith
import Derived.Lib.MinMax
import Derived.Lib.LazyBuf
set_option linter.unusedVariables false
set_option linter.unusedSimpArgs false
namespace Go.Proofs.YtilkhmhgjbhfnaaGreatDoor
open Go.RowKit
def cmpV (a b : ByteArray) : Int := Lib.compareBytes a.data.toList b.data.toList
theorem cmpL_lt : ∀ (a b : List UInt8), Lib.compareBytes a b < 0 ↔ ltB a b = true
 | [], [] => by simp [Lib.compareBytes, ltB]
 | [], _ :: _ => by simp [Lib.compareBytes, ltB]
 | _ :: _, [] => by simp [Lib.compareBytes, ltB]
 | a :: al, b :: bl => by
  unfold Lib.compareBytes ltB
  by_cases h1 : a < b
  ·have : a ≠ b := fun e => by subst e; exact absurd h1 (UInt8.lt_irrefl _)
   rw [if_pos h1, if_neg this]
   simp [h1]
  ·rw [if_neg h1]
   by_cases h2 : b < a
   ·have : a ≠ b := fun e => by subst e; exact absurd h2 (UInt8.lt_irrefl _)
    rw [if_pos h2, if_neg this]
    simp [h1]
   ·have : a = b := UInt8.le_antisymm (UInt8.not_lt.1 h2) (UInt8.not_lt.1 h1)
    rw [if_neg h2, if_pos this]
    exact cmpL_lt al bl
theorem cmpL_eq0 : ∀ (a b : List UInt8), Lib.compareBytes a b = 0 ↔ a = b
 | [], [] => by simp [Lib.compareBytes]
 | [], _ :: _ => by simp [Lib.compareBytes]
 | _ :: _, [] => by simp [Lib.compareBytes]
 | a :: al, b :: bl => by
  unfold Lib.compareBytes
  by_cases h1 : a < b
  ·have : a ≠ b := fun e => by subst e; exact absurd h1 (UInt8.lt_irrefl _)
   rw [if_pos h1]
   simp [this]
  ·rw [if_neg h1]
   by_cases h2 : b < a
   ·have : a ≠ b := fun e => by subst e; exact absurd h2 (UInt8.lt_irrefl _)
    rw [if_pos h2]
    simp [this]
   ·have : a = b := UInt8.le_antisymm (UInt8.not_lt.1 h2) (UInt8.not_lt.1 h1)
    rw [if_neg h2, this, cmpL_eq0 al bl]
    simp
theorem cmpV_lt (a b : ByteArray) : cmpV a b < 0 ↔ ltN a b = true := cmpL_lt _ _
theorem cmpV_eq (a b : ByteArray) : cmpV a b = 0 ↔ a = b := by
 unfold cmpV
 rw [cmpL_eq0]
 constructor
 ·intro h
  cases a; cases b
  exact congrArg ByteArray.mk (Array.toList_inj.1 h)
 ·intro h; rw [h]
theorem ltB_trans : ∀ (a b c : List UInt8), ltB a b = true → ltB b c = true → ltB a c = true
 | [], [], _, h, _ => by simp [ltB] at h
 | [], _ :: _, [], _, h => by simp [ltB] at h
 | [], _ :: _, _ :: _, _, _ => rfl
 | _ :: _, [], _, h, _ => by simp [ltB] at h
 | _ :: _, _ :: _, [], _, h => by simp [ltB] at h
 | a :: al, b :: bl, c :: cl, h1, h2 => by
  unfold ltB at h1 h2 ⊢
  by_cases e1 : a = b
  ·subst e1
   rw [if_pos rfl] at h1
   by_cases e2 : a = c
   ·subst e2
    rw [if_pos rfl] at h2 ⊢
    exact ltB_trans al bl cl h1 h2
   ·rw [if_neg e2] at h2 ⊢
    exact h2
  ·rw [if_neg e1, decide_eq_true_eq] at h1
   by_cases e2 : b = c
   ·subst e2
    rw [if_neg e1, decide_eq_true_eq]
    exact h1
   ·rw [if_neg e2, decide_eq_true_eq] at h2
    have h3 := UInt8.lt_trans h1 h2
    have e3 : a ≠ c := fun e => by subst e; exact absurd h3 (UInt8.lt_irrefl _)
    rw [if_neg e3, decide_eq_true_eq]
    exact h3
theorem ltN_trans {a b c : ByteArray} (h1 : ltN a b = true) (h2 : ltN b c = true) : ltN a c = true := ltB_trans _ _ _ h1 h2
def RiseE (es : List En) : Prop := ∀ (i j : Nat) (x y : En), i < j → es[i]? = some x → es[j]? = some y → ltN x.name y.name = true
structure EnPos (es : List En) (nm : ByteArray) (i : Nat) (b : Bool) : Prop where
 le : i ≤ es.length
 lo : ∀ (k : Nat) (x : En), k < i → es[k]? = some x → ltN x.name nm = true
 hi : ∀ (k : Nat) (x : En), i ≤ k → es[k]? = some x → ltN x.name nm = false
 is_ : b = true → ∃ e, es[i]? = some e ∧ e.name = nm
 of_ : (∃ e, es[i]? = some e ∧ e.name = nm) → b = true
theorem compare_any (a b : ByteArray) (w : World) : Calls Tryz.prog 188 #[.string a, .string b] w fun e w' => e = .returned (.int .i64 (cmpV a b)) ∧ w = w' := by
 have hx : ∀ w, (callFunc 220 #[.string a, .string b]).run Tryz.prog w = .ok (.value (.int .i64 (cmpV a b))) w := fun w => by
  rw [run_callFunc_extern Tryz.func220 (by kernel_rfl) (by kernel_rfl) (by kernel_rfl) (e := Extern.BytealgCompare.compare) (by kernel_rfl), Lib.run_compareString]
  rfl
 go_enter Tryz.func188, Tryz.ntmps188
 go_wp2
 go_ret
 exact ⟨rfl, rfl⟩
theorem cmpE_any (name : ByteArray) (num : Int) (nm : ByteArray) (w : World) :
  Calls Tryz.prog 187 #[.agg #[.string name, .int .i64 num], .string nm] w fun e w' => e = .returned (.int .i64 (cmpV name nm)) ∧ Below w.heap.size w w' := by
 go_enter Tryz.func187, Tryz.ntmps187
 go_wp2_with fail
 refine (compare_any name nm _).mono ?_
 rintro e w1 ⟨rfl, rfl⟩
 go_wp2_with fail
 go_ret
 exact ⟨rfl, (Below.refl _ _).alloc (Nat.le_refl _) _⟩
set_option maxRecDepth 100000 in
set_option maxHeartbeats 4000000 in
theorem bsearchE_any (es : List En) (A : Option Addr) (n c : Nat) (nm : ByteArray) (w : World) (hI : EntsAt none w A n es) (hn : n ≤ 1099511627776) (hr : RiseE es) :
  Calls Tryz.prog 186 #[.slice A n c, .string nm, .func (.func 187) #[] #[]] w fun e w' => ∃ i b, e = .returned (.tuple #[.int .i64 (i : Nat), .bool b]) ∧ Below w.heap.size w w' ∧ EnPos es nm i b := by
 have HI := Lib.hid hI
 go_enter Tryz.func186, Tryz.ntmps186
 clear hI
 go_wp2_with fail
 go_loopw [9, 10] (fun iv jv wr => ∃ i j : Nat, iv = .int .i64 i ∧ jv = .int .i64 j ∧ i ≤ j ∧ j ≤ n ∧ (∀ (k : Nat) (x : En), k < i → es[k]? = some x → ltN x.name nm = true) ∧ (∀ (k : Nat) (x : En), j ≤ k → es[k]? = some x → ltN x.name nm = false) ∧ Below w.heap.size w wr) (fun iv jv _ => (intOf jv).toNat - (intOf iv).toNat)
 case atStart => exact ⟨0, n, rfl, rfl, by omega, by omega, fun k x hk => by omega, fun k x hk hx => by have := (List.getElem?_eq_some_iff.1 hx).1; have := HI.out.1; omega, Below.refl _ _⟩
 case round =>
  obtain ⟨i, j, rfl, rfl, hij, hjn, hlo, hhi, hbel⟩ := hrel
  have HB := Lib.hid hbel
  have HIr := Lib.hid (HI.out.below hbel)
  have HLO := Lib.hid hlo
  have HHI := Lib.hid hhi
  clear hbel hlo hhi
  by_cases hlt : i < j
  ·obtain ⟨h, hh⟩ : ∃ h, (i + j) / 2 = h := ⟨_, rfl⟩
   have hh1 : i ≤ h := by omega
   have hh2 : h < j := by omega
   obtain ⟨g, off, x, rfl, hg, hx, hd, hmem, c0, c1⟩ := HIr.out.get h (by omega)
   have HHH := Lib.hid hh
   have hx2 : es[h]? = some x := hx
   have HX := Lib.hid hx2
   have HRR := Lib.hid hr
   have HHH2 : Hid (h < j) := Lib.hid hh2
   clear hx2
   go_wp2_with fail
   refine (cmpE_any x.name x.num nm _).mono ?_
   rintro e5 w5 ⟨rfl, hb5⟩
   have e2 : ((i : Int) + (j : Int)) / 2 = (h : Int) := by have := HHH.out; omega
   rw [e2]
   have HB5 := Lib.hid (HB.out.trans (hb5.mono HB.out.size))
   clear hb5 c0 c1
   by_cases hc : ltN x.name nm = true
   ·have q1 : decide (cmpV x.name nm < 0) = true := by rw [decide_eq_true_eq]; exact (cmpV_lt _ _).2 hc
    go_wp2_with fail
    go_roundw
    case rel => exact ⟨h + 1, j, by go_num, rfl, by omega, hjn, fun k y hk hy => by
     by_cases e : k = h
     ·subst e
      have := HX.out
      rw [hy] at this
      cases this
      exact hc
     ·exact ltN_trans (HRR.out k h y x (by omega) hy HX.out) hc, HHI.out, HB5.out⟩
    case measure => simp [intOf]; omega
   ·have q1 : decide (cmpV x.name nm < 0) = false := by rw [decide_eq_false_iff_not]; exact fun h => hc ((cmpV_lt _ _).1 h)
    go_wp2_with fail
    go_roundw
    case rel => exact ⟨i, h, rfl, rfl, hh1, by omega, HLO.out, fun k y hk hy => by
     by_cases e : k = h
     ·subst e
      have := HX.out
      rw [hy] at this
      have e9 : y = x := Option.some.inj this
      rw [e9]
      exact Bool.eq_false_iff.2 hc
     ·cases hv : ltN y.name nm
      ·rfl
      ·exact absurd (ltN_trans (HRR.out h k x y (by omega) HX.out hy) hv) hc, HB5.out⟩
    case measure => simp [intOf]; omega
  ·have eij : j = i := by omega
   subst eij
   by_cases hin : j < n
   ·obtain ⟨g, off, x, rfl, hg, hx, hd, hmem, c0, c1⟩ := HIr.out.get j hin
    have HX := Lib.hid hx
    have HRR := Lib.hid hr
    go_wp2_with fail
    refine (cmpE_any x.name x.num nm _).mono ?_
    rintro e5 w5 ⟨rfl, hb5⟩
    have HB5 := Lib.hid (HB.out.trans (hb5.mono HB.out.size))
    clear hb5 c0 c1
    by_cases hc : x.name = nm
    ·have q1 : cmpV x.name nm = 0 := (cmpV_eq _ _).2 hc
     rw [q1]
     clear q1
     go_wp2_with fail
     go_ret2
     exact ⟨j, true, rfl, HB5.out, by have := HIr.out.1; omega, HLO.out, HHI.out, fun _ => ⟨x, HX.out, hc⟩, fun _ => rfl⟩
    ·have q1 : (cmpV x.name nm == 0) = false := by rw [beq_eq_false_iff_ne]; exact fun h => hc ((cmpV_eq _ _).1 h)
     go_wp2_with fail
     go_ret2
     refine ⟨j, false, rfl, HB5.out, by have := HIr.out.1; omega, HLO.out, HHI.out, (fun h => by cases h), fun h => ?_⟩
     obtain ⟨e, he, hen⟩ := h
     rw [HX.out] at he
     cases he
     exact absurd hen hc
   ·have q1 : decide ((j : Int) < (n : Int)) = false := by rw [decide_eq_false_iff_not]; omega
    clear hlt
    go_wp2_with fail
    go_ret2
    refine ⟨j, false, rfl, HB.out, by have := HIr.out.1; omega, HLO.out, HHI.out, (fun h => by cases h), fun h => ?_⟩
    obtain ⟨e, he, _⟩ := h
    have h1 := (List.getElem?_eq_some_iff.1 he).1
    have h2 := HIr.out.1
    omega
theorem mentry_any (es : List En) (A : Option Addr) (n c : Nat) (nm : ByteArray) (w : World) (hI : EntsAt none w A n es) (hn : n ≤ 1099511627776) (hr : RiseE es) :
  Calls Tryz.prog 128 #[.slice A n c, .string nm] w fun e w' => ∃ i b, e = .returned (.tuple #[.int .i64 (i : Nat), .bool b]) ∧ Below w.heap.size w w' ∧ EnPos es nm i b := by
 go_enter Tryz.func128, Tryz.ntmps128
 go_wp2_with fail
 refine (bsearchE_any es A n c nm _ hI hn hr).mono ?_
 rintro e w1 ⟨i, b, rfl, hb, hp⟩
 go_wp2_with fail
 go_ret2
 exact ⟨i, b, rfl, hb, hp⟩
theorem bulkE_modify (f : List En → List En) (hf : ∀ es, (f es).length ≤ es.length) : ∀ (is : List Ino) (i : Nat), bulkE (is.modify i fun x => { x with ents := f x.ents }) ≤ bulkE is
 | [], _ => by simp
 | x :: xs, 0 => by
  have := hf x.ents
  show (f x.ents).length + bulkE xs ≤ x.ents.length + bulkE xs
  omega
 | x :: xs, i + 1 => by
  have := bulkE_modify f hf xs i
  show x.ents.length + bulkE (xs.modify i _) ≤ x.ents.length + bulkE xs
  omega
theorem modify_mem {α : Type} (f : α → α) : ∀ (l : List α) (i : Nat) (y : α), y ∈ l.modify i f → y ∈ l ∨ ∃ x ∈ l, y = f x
 | [], _, _, h => by simp at h
 | x :: xs, 0, y, h => by
  have h2 : y ∈ f x :: xs := h
  rcases List.mem_cons.1 h2 with rfl | h2
  ·exact .inr ⟨x, List.mem_cons_self, rfl⟩
  ·exact .inl (List.mem_cons_of_mem _ h2)
 | x :: xs, i + 1, y, h => by
  have h2 : y ∈ x :: xs.modify i f := h
  rcases List.mem_cons.1 h2 with rfl | h2
  ·exact .inl List.mem_cons_self
  ·rcases modify_mem f xs i y h2 with h3 | ⟨z, h3, h4⟩
   ·exact .inl (List.mem_cons_of_mem _ h3)
   ·exact .inr ⟨z, List.mem_cons_of_mem _ h3, h4⟩
theorem dropE_mem : ∀ (es : List En) (name : ByteArray) (e : En), e ∈ dropE es name → e ∈ es
 | [], _, _, h => by simp [dropE] at h
 | y :: es, name, e, h => by
  unfold dropE at h
  split at h
  ·exact List.mem_cons_of_mem _ (dropE_mem es name e h)
  ·rcases List.mem_cons.1 h with rfl | h
   ·exact List.mem_cons_self
   ·exact List.mem_cons_of_mem _ (dropE_mem es name e h)
theorem Sized.dropE {s : St} (h : Sized s) (dir : Int) (name : ByteArray) : Sized { s with inos := setEnts s.inos dir fun es => Go.Proofs.YtilkhmhgjbhfnaaGreatDoor.dropE es name } := by
 refine ⟨?_, fun x hx => ?_, ⟨fun x hx => ?_, h.nums.2⟩⟩
 ·have h1 := bulkE_modify (fun es => Go.Proofs.YtilkhmhgjbhfnaaGreatDoor.dropE es name) (fun es => dropE_len es name) s.inos (atV s.inos dir).toNat
  have := h.big
  have h2 : (setEnts s.inos dir fun es => Go.Proofs.YtilkhmhgjbhfnaaGreatDoor.dropE es name).length = s.inos.length := by unfold setEnts; rw [List.length_modify]
  have h3 : bulkE (setEnts s.inos dir fun es => Go.Proofs.YtilkhmhgjbhfnaaGreatDoor.dropE es name) ≤ bulkE s.inos := h1
  show (setEnts s.inos dir fun es => Go.Proofs.YtilkhmhgjbhfnaaGreatDoor.dropE es name).length + bulkE (setEnts s.inos dir fun es => Go.Proofs.YtilkhmhgjbhfnaaGreatDoor.dropE es name) + s.opn.length + s.made.length ≤ _
  omega
 ·rcases modify_mem _ _ _ _ hx with hx | ⟨z, hz, rfl⟩
  ·exact h.text x hx
  ·exact ⟨(h.text z hz).1, fun e he => (h.text z hz).2 e (dropE_mem _ _ _ he)⟩
 ·rcases modify_mem _ _ _ _ hx with hx | ⟨z, hz, rfl⟩
  ·exact h.nums.1 x hx
  ·exact ⟨(h.nums.1 z hz).1, (h.nums.1 z hz).2.1, fun e he => (h.nums.1 z hz).2.2 e (dropE_mem _ _ _ he)⟩
theorem row_past {w : World} {b : Nat} {x : Obj} {o : Option Obj} (h : w.heap[b]? = o) (hlt : b < w.heap.size) : (w.alloc x).heap[b]? = o := (heap_alloc_old w x hlt).trans h
theorem row_new (w : World) (o : Obj) (b : Nat) (hb : b = w.heap.size) : (w.alloc o).heap[b]? = some o := by subst hb; exact heap_alloc_new w o
theorem row_kept {u w5 : World} {g : Nat} {o : Obj} (hb : Below u.heap.size u w5) (h : u.heap[g]? = some o) : w5.heap[g]? = some o := (hb.block g (Array.getElem?_eq_some_iff.1 h).1).trans h
theorem al1 (w : World) (o : Obj) : (w.alloc o).drew.heap[w.heap.size]? = some o := heap_alloc_new w o
theorem box_ds (w : World) (core fd num : Int) : ∃ W, w.alloc (.cells #[.int .i64 core, .int .i64 fd, .int .i64 num] 97) = W ∧ W.cell? ⟨w.heap.size, 0, .none⟩ = some (.int .i64 core) ∧ W.cell? ⟨w.heap.size, 1, .none⟩ = some (.int .i64 fd) ∧ W.cell? ⟨w.heap.size, 2, .none⟩ = some (.int .i64 num) ∧ Below w.heap.size w W ∧ w.heap.size < W.heap.size := by
 refine ⟨_, rfl, ?_, ?_, ?_, (Below.refl _ _).alloc (Nat.le_refl _) _, by simp⟩
 ·exact (World.cell?_alloc_mark w _ _ (0, 0) _).trans rfl
 ·exact (World.cell?_alloc_mark w _ _ (0, 0) _).trans rfl
 ·exact (World.cell?_alloc_mark w _ _ (0, 0) _).trans rfl
def prevD (ds : List Ds) (k : Nat) : Option Ds := if k = 0 then none else ds[k - 1]?
theorem findV_at {is : List Ino} (hw : Whole is) (path : ByteArray) (h : (findV is path).2 = 0) : 0 ≤ atV is (findV is path).1 := by
 unfold findV at h ⊢
 by_cases h1 : (parseL path.data.toList).2 ≠ 0
 ·rw [if_pos h1] at h
  unfold codeP at h
  rw [if_neg h1] at h
  split at h <;> cases h
 rw [if_neg h1] at h ⊢
 exact walkG_some hw _ _ hw.1 h
theorem infoStr9 : (Tryz.prog.info? 9).map (fun i => (i.zero, i.size, i.bytes)) = some (some (.string ⟨#[]⟩), 1, 16) := by kernel_rfl
def NmsAt (lo : Option Nat) (w : World) (A : Option Addr) (n : Nat) (ns : List ByteArray) : Prop :=
 ns.length = n ∧ (0 < n → ∃ g off, A = some ⟨g, off, none⟩ ∧ g < w.heap.size ∧ Mine lo 9 w g ∧ ∀ j x, ns[j]? = some x → w.cell? ⟨g, off + j, none⟩ = some (.string x))
theorem NmsAt.below {lo : Option Nat} {w w' : World} {A : Option Addr} {n : Nat} {ns : List ByteArray} (h : NmsAt lo w A n ns) (hb : Below w.heap.size w w') : NmsAt lo w' A n ns :=
 ⟨h.1, fun hn => by
  obtain ⟨g, off, hA, hg, hm, hc⟩ := h.2 hn
  exact ⟨g, off, hA, Nat.lt_of_lt_of_le hg hb.size, hm.below hb, fun j x hx => (hb.cell (p := ⟨g, _, none⟩) hg).trans (hc j x hx)⟩⟩
theorem NmsAt.weak {lo : Option Nat} {w : World} {A : Option Addr} {n : Nat} {ns : List ByteArray} (h : NmsAt lo w A n ns) : NmsAt none w A n ns :=
 ⟨h.1, fun hn => by
  obtain ⟨g, off, hA, hg, hm, hc⟩ := h.2 hn
  exact ⟨g, off, hA, hg, Mine.any _ _ _, hc⟩⟩
theorem NmsAt.keep {B : Nat} {w w' : World} {A : Option Addr} {n : Nat} {ns : List ByteArray} (h : NmsAt (some B) w A n ns) (hk : KeepT 9 w w') : NmsAt (some B) w' A n ns :=
 ⟨h.1, fun hn => by
  obtain ⟨g, off, hA, hg, hm, hc⟩ := h.2 hn
  obtain ⟨m1, m2⟩ := hk.mine hm
  exact ⟨g, off, hA, Nat.lt_of_lt_of_le hg hk.size, m1, fun j x hx => (cell_same m2 _).trans (hc j x hx)⟩⟩
theorem NmsAt.lower {B B' : Nat} {w : World} {A : Option Addr} {n : Nat} {ns : List ByteArray} (h : NmsAt (some B) w A n ns) (hb : B' ≤ B) : NmsAt (some B') w A n ns :=
 ⟨h.1, fun hn => by
  obtain ⟨g, off, hA, hg, hm, hc⟩ := h.2 hn
  exact ⟨g, off, hA, hg, hm.mono hb, hc⟩⟩
def ResIs (lo : Option Nat) (w : World) (v : Value) (r : Re) : Prop :=
 ∃ A n c, v = .agg #[.int .i64 r.code, .int .i64 r.fd, .int .i64 r.num, .bool r.dir, .string r.data, .slice A n c] ∧ SlOk A n c ∧ NmsAt lo w A n r.names
theorem ResIs.below {lo : Option Nat} {w w' : World} {v : Value} {r : Re} (h : ResIs lo w v r) (hb : Below w.heap.size w w') : ResIs lo w' v r := by
 obtain ⟨A, n, c, h1, h2, h3⟩ := h
 exact ⟨A, n, c, h1, h2, h3.below hb⟩
theorem ResIs.weak {lo : Option Nat} {w : World} {v : Value} {r : Re} (h : ResIs lo w v r) : ResIs none w v r := by
 obtain ⟨A, n, c, h1, h2, h3⟩ := h
 exact ⟨A, n, c, h1, h2, h3.weak⟩
structure Lk (a b d : Value) (s : St) (c : Ca) (w0 w : World) : Prop where
 box : OutAt w w0.heap.size a b d
 call : w.heap[w0.heap.size + 1]? = some (caRow c)
 res : ResAt w (w0.heap.size + 2) (.int .i64 0) (.int .i64 0) (.int .i64 0) (.bool false) (.string ⟨#[]⟩) (.slice none 0 0)
 st : StAt none w (.agg #[a, b, d]) s
 bel : Below w0.heap.size w0 w
 size : w0.heap.size + 3 ≤ w.heap.size
theorem Lk.below {a b d : Value} {s : St} {c : Ca} {w0 w w' : World} (h : Lk a b d s c w0 w) (hb : Below w.heap.size w w') : Lk a b d s c w0 w' :=
 ⟨(hb.block _ (by have := h.size; omega)).trans h.box, (hb.block _ (by have := h.size; omega)).trans h.call, (hb.block _ h.res.lt).trans h.res, h.st.below hb, h.bel.trans (hb.mono (by have := h.size; omega)), Nat.le_trans h.size hb.size⟩
theorem Lk.vals {a b d : Value} {s : St} {c : Ca} {w0 w : World} (h : Lk a b d s c w0 w) : w0.heap.size < w.heap.size ∧ w0.heap.size + 1 < w.heap.size ∧ w.cell? ⟨w0.heap.size, 0, none⟩ = some a ∧ w.cell? ⟨w0.heap.size, 1, none⟩ = some b ∧ w.cell? ⟨w0.heap.size, 2, none⟩ = some d ∧
  w.cell? ⟨w0.heap.size + 1, 0, none⟩ = some (.int .i64 c.kind) ∧ w.cell? ⟨w0.heap.size + 1, 5, none⟩ = some (.string c.path) := by
 have hc := h.call
 unfold caRow at hc
 obtain ⟨b0, b1, b2, _⟩ := h.box.get
 refine ⟨by have := h.size; omega, by have := h.size; omega, b0, b1, b2, ?_, ?_⟩ <;> (rw [cell_of_row w (w0.heap.size + 1) _ _ _ (0, 0) hc]; rfl)
theorem Lk.six {a b d : Value} {s : St} {c : Ca} {w0 w : World} (h : Lk a b d s c w0 w) (q r x y z t : Value) :
  ∃ w', (((((w.setCell ⟨w0.heap.size + 2, 0, none⟩ q).setCell ⟨w0.heap.size + 2, 1, none⟩ r).setCell ⟨w0.heap.size + 2, 2, none⟩ x).setCell ⟨w0.heap.size + 2, 3, none⟩ y).setCell ⟨w0.heap.size + 2, 4, none⟩ z).setCell ⟨w0.heap.size + 2, 5, none⟩ t = w' ∧
   ResAt w' (w0.heap.size + 2) q r x y z t ∧ Below w0.heap.size w0 w' ∧ ∀ ty, 87 ≠ ty → KeepT ty w w' := by
 obtain ⟨w', hw, hr, hk, hb, _, _⟩ := h.res.six q r x y z t
 exact ⟨w', hw, hr, hb w0.heap.size w0 (by omega) h.bel, hk⟩
theorem Lk.start {w : World} {s : St} {A : Option Addr} {n cp : Nat} {E : Option Addr} {m d : Nat} {D : Option Addr} {k e : Nat} (h : StAt none w (.agg #[.slice A n cp, .slice E m d, .slice D k e]) s) (c : Ca) :
  ∃ W W2 W3, w.alloc (.cells #[.slice A n cp, .slice E m d, .slice D k e] 31) = W ∧ W.alloc (.cells #[.int .i64 c.kind, .int .i64 c.core, .int .i64 c.fd, .int .i64 c.off, .int .i64 c.num, .string c.path, .string c.path2, .string c.data] 73) = W2 ∧
   W2.alloc (.cells #[.int .i64 0, .int .i64 0, .int .i64 0, .bool false, .string ⟨#[]⟩, .slice none 0 0] 87) = W3 ∧ W.heap.size = w.heap.size + 1 ∧ W2.heap.size = w.heap.size + 2 ∧ Lk (.slice A n cp) (.slice E m d) (.slice D k e) s c w W3 := by
 have h1 : Below w.heap.size w (w.alloc (.cells #[.slice A n cp, .slice E m d, .slice D k e] 31)) := (Below.refl _ _).alloc (Nat.le_refl _) _
 obtain ⟨W2, hW2, hbc, hal, hsz⟩ := box_ca (w.alloc (.cells #[.slice A n cp, .slice E m d, .slice D k e] 31)) c
 have hs1 : (w.alloc (.cells #[.slice A n cp, .slice E m d, .slice D k e] 31)).heap.size = w.heap.size + 1 := by simp
 have hal2 : Below W2.heap.size W2 (W2.alloc (.cells #[.int .i64 0, .int .i64 0, .int .i64 0, .bool false, .string ⟨#[]⟩, .slice none 0 0] 87)) := (Below.refl _ _).alloc (Nat.le_refl _) _
 have hb2 := Cv.next hal hal2
 rw [hs1] at hbc hsz
 refine ⟨_, W2, _, rfl, hW2, rfl, hs1, by omega, ?_, ?_, ?_, h.below (Cv.next h1 hb2), Cv.next h1 hb2, by simp; omega⟩
 ·exact (hb2.block _ (by omega)).trans (heap_alloc_new w _)
 ·exact (hal2.block _ (by omega)).trans hbc
 ·rw [show w.heap.size + 2 = W2.heap.size by omega]; exact heap_alloc_new W2 _
theorem infoByte : (Tryz.prog.info? 5).map (fun i => (i.zero, i.size, i.bytes)) = some (some (.int .u8 0), 1, 1) := by kernel_rfl
theorem sizeBuilder : (Tryz.prog.info? 54).map (fun i => i.size) = some 2 := by kernel_rfl
structure Wr (B b : Nat) (w w' : World) : Prop where
 below : Below B w w'
 keep : ∀ k o, w.heap[k]? = some o → k ≠ b → (∀ cs fr, o ≠ .cells cs 5 fr) → w'.heap[k]? = some o
theorem Wr.refl (B b : Nat) (w : World) : Wr B b w w := ⟨Below.refl _ _, fun _ _ h _ _ => h⟩
theorem Wr.trans {B b : Nat} {w w' w'' : World} (h : Wr B b w w') (h' : Wr B b w' w'') : Wr B b w w'' := ⟨h.below.trans h'.below, fun k o h1 h2 h3 => h'.keep k o (h.keep k o h1 h2 h3) h2 h3⟩
theorem Wr.of_below {B b : Nat} {w w' : World} (h : Below w.heap.size w w') (hB : B ≤ w.heap.size) : Wr B b w w' := ⟨h.mono hB, fun k o h1 _ _ => (h.block k (Array.getElem?_eq_some_iff.1 h1).1).trans h1⟩
theorem Wr.drew {B b : Nat} {w : World} : Wr B b w w.drew := ⟨Below.drew (Below.refl _ _), fun _ _ h _ _ => h⟩
theorem Wr.set {B b : Nat} {w : World} (hB : B ≤ b) (o : Nat) (v : Value) : Wr B b w (w.setCell ⟨b, o, .none⟩ v) :=
 ⟨(Below.refl _ _).setCell (p := ⟨b, o, .none⟩) hB v, fun k x h1 h2 _ => (Below.heap_setCell w ⟨b, o, .none⟩ v k h2).trans h1⟩
theorem Wr.grown {B b n : Nat} {v : Value} {xs : List Value} {w w' : World} (hown : w.ownsRowF B 5 1 v n xs) (hg : w.grownBy w' v.ownBlock) (hBw : B ≤ w.heap.size) : Wr B b w w' := by
 refine ⟨(Below.refl _ _).grown hg hBw (fun k hk => (hown.lt k hk).1), fun k o h1 _ h3 => (hg.block k (Array.getElem?_eq_some_iff.1 h1).1 ?_).trans h1⟩
 intro e
 rcases hown.2 with ⟨rfl, _⟩ | ⟨g, cap, cur, fz, rfl, _, hh, _⟩
 ·cases e
 ·have : k = g := by simpa [Value.ownBlock] using e
  subst this
  rw [hh] at h1
  exact h3 cur fz (Option.some.inj h1).symm
theorem Wr.freeze {B b g : Nat} {cur : Array Value} {fz : Nat × Nat} {w : World} (hg : w.heap[g]? = some (.cells cur 5 fz)) (hB : B ≤ g) (n : Nat) : Wr B b w (w.freeze ⟨g, 0, .none⟩ n) := by
 refine ⟨Lib.below_freeze (Below.refl B w) (p := ⟨g, 0, none⟩) hB n, fun k o h1 _ h3 => ?_⟩
 have hk : k ≠ g := by
  intro e
  subst e
  rw [hg] at h1
  exact h3 cur fz (Option.some.inj h1).symm
 have h5 := Lib.below_freeze (B := k + 1) (Below.refl (k + 1) w) (p := ⟨g, 0, none⟩)
 unfold World.freeze
 split
 ·exact h1
 ·simp only [Array.getElem?_modify]
  rw [if_neg (fun e => hk e.symm)]
  exact h1
theorem sizedL_long (l : List UInt8) (k : Nat) (h : l.length ≤ k) : sizedL l k = l ++ List.replicate (k - l.length) 0 := by
 unfold sizedL
 rw [List.take_append, List.take_of_length_le h]
 congr 1
 rw [List.take_replicate]
 congr 1
 omega
theorem run_copy_row_cut {P : Program} (w : World) (dT sT ty elem : TypeId) (g dLen dCap : Nat) (s : ByteArray) (cur : Array Value) (t : TypeId)
  (hu : P.underlying dT = some (.slice elem)) (hs : (P.info? elem).map (·.size) = some 1) (hg : w.heap[g]? = some (.cells cur t (0, 0))) (hle : dLen ≤ s.size) (hfit : dLen ≤ cur.size) :
  (Builtin.copy_ #[dT, sT] ty #[.slice (some ⟨g, 0, none⟩) dLen dCap, .string s]).run P w =
   .ok (goInt dLen) (w.setRow g (Lib.byteCells (s.data.toList.take dLen) ++ cur.toList.drop dLen).toArray) := by
 have hlen : (Lib.byteCells (s.data.toList.take dLen)).length = dLen := by rw [Lib.byteCells_length, List.length_take, Array.length_toList]; exact Nat.min_eq_left hle
 have hst := run_storeCells_at P g 0 t (Lib.byteCells (s.data.toList.take dLen)) 0 cur w hg (by rw [hlen]; simpa using hfit) (Lib.byteCells_one _)
 have hmin : Nat.min s.size dLen = dLen := Nat.min_eq_right hle
 have htk : List.take dLen (List.map (fun b : UInt8 => Value.int IntKind.u8 (b.toNat : Int)) s.data.toList) = Lib.byteCells (s.data.toList.take dLen) := by
  rw [List.map_take.symm]
  rfl
 rw [hlen] at hst
 simp only [Nat.add_zero, Nat.zero_add, List.take_zero, List.nil_append] at hst
 cases hq : P.info? elem with
 | none => simp [hq] at hs
 | some i =>
  simp [Builtin.copy_, run_underlying hu, Builtin.lenOf, Builtin.firstCells, sizeOf, typeInfo, hq, hmin]
  rw [htk, hst]
  simp [Result.andThen]
theorem sizedL_short (l : List UInt8) (k : Nat) (h : k ≤ l.length) : sizedL l k = l.take k := by
 unfold sizedL
 rw [List.take_append, show k - l.length = 0 by omega]
 simp
theorem sizedL_len (l : List UInt8) (k : Nat) : (sizedL l k).length = k := by
 unfold sizedL
 rw [List.length_take, List.length_append, List.length_replicate]
 omega
theorem Sized.setData {s : St} (h : Sized s) {i : Nat} {x : Ino} (hx : s.inos[i]? = some x) (d : ByteArray) (hd : d.size ≤ 140737488355328) : Sized { s with inos := s.inos.set i { x with data := d } } := by
 have hmem : x ∈ s.inos := List.mem_of_getElem? hx
 have hb : ∀ (is : List Ino) (i : Nat), is[i]? = some x → bulkE (is.set i { x with data := d }) = bulkE is := by
  intro is
  induction is with
  | nil => intro i h; simp at h
  | cons y ys ih =>
   intro i h
   cases i with
   | zero =>
    have : y = x := by simpa using h
    subst this
    rfl
   | succ i =>
    have := ih i (by simpa using h)
    show y.ents.length + bulkE (ys.set i _) = y.ents.length + bulkE ys
    rw [this]
 refine ⟨?_, fun y hy => ?_, ⟨fun y hy => ?_, h.nums.2⟩⟩
 ·show (s.inos.set i _).length + bulkE (s.inos.set i _) + _ + _ ≤ _
  rw [List.length_set, hb _ _ hx]
  exact h.big
 ·rcases List.mem_or_eq_of_mem_set hy with hy | rfl
  ·exact h.text y hy
  ·exact ⟨hd, (h.text x hmem).2⟩
 ·rcases List.mem_or_eq_of_mem_set hy with hy | rfl
  ·exact h.nums.1 y hy
  ·exact h.nums.1 x hmem
theorem Fr.calls {B p : Nat} {s : St} {c : Ca} {w0 w : World} (h : Fr B p s c w0 w) : w.cell? ⟨w0.heap.size, 0, none⟩ = some (.int .i64 c.kind) ∧ w.cell? ⟨w0.heap.size, 1, none⟩ = some (.int .i64 c.core) ∧ w.cell? ⟨w0.heap.size, 2, none⟩ = some (.int .i64 c.fd) ∧ w.cell? ⟨w0.heap.size, 3, none⟩ = some (.int .i64 c.off) ∧ w.cell? ⟨w0.heap.size, 4, none⟩ = some (.int .i64 c.num) ∧ w.cell? ⟨w0.heap.size, 7, none⟩ = some (.string c.data) := by
 obtain ⟨_, _, _, _, _, _, _, _, _, _, _, _, _, _, _, _, _, _, k0, k1, k2, k3, k4, _, _, k7⟩ := h.vals
 exact ⟨k0, k1, k2, k3, k4, k7⟩
theorem dropD_len : ∀ (ds : List Ds) (core fd : Int), (dropD ds core fd).length ≤ ds.length
 | [], _, _ => Nat.le_refl _
 | d :: ds, core, fd => by
  unfold dropD
  have := dropD_len ds core fd
  split <;> simp <;> omega
theorem Sized.dropD {s : St} (h : Sized s) (core fd : Int) : Sized { s with opn := Go.Proofs.YtilkhmhgjbhfnaaGreatDoor.dropD s.opn core fd } := by
 refine ⟨?_, h.text, h.nums⟩
 have := h.big
 have := dropD_len s.opn core fd
 show s.inos.length + bulkE s.inos + (Go.Proofs.YtilkhmhgjbhfnaaGreatDoor.dropD s.opn core fd).length + s.made.length ≤ _
 omega
theorem piece_eq (d : ByteArray) (o k : Nat) (hd : d.size ≤ 140737488355328) (ho : o ≤ 256) (hk : k ≤ 256) : d.extract (min o d.size) (min (min o d.size + k) d.size) = txt ((d.data.toList.drop o).take k) := by
 have hl : d.data.toList.length = d.size := Array.length_toList
 apply ByteArray.ext
 apply Array.toList_inj.1
 rw [ByteArray.data_extract, Array.toList_extract]
 show _ = ((d.data.toList.drop o).take k)
 rw [List.extract_eq_take_drop]
 by_cases h : o ≤ d.size
 ·rw [Nat.min_eq_left h]
  by_cases h2 : o + k ≤ d.size
  ·rw [Nat.min_eq_left h2, show o + k - o = k by omega]
  ·rw [Nat.min_eq_right (by omega), List.take_of_length_le (by rw [List.length_drop]; omega), List.take_of_length_le (by rw [List.length_drop]; omega)]
 ·rw [Nat.min_eq_right (by omega), List.drop_of_length_le (by omega), List.drop_of_length_le (by omega)]
  simp only [List.take_nil]
theorem size_byte (w : World) : (Go.sizeOf 5).run Tryz.prog w = .ok 1 w := by
 obtain ⟨ib, hib, hz0, hz1, hz2⟩ := info_parts infoByte
 simp [Go.sizeOf, typeInfo, hib, hz1]
theorem size_setC (g : Nat) : ∀ (vs : List Value) (o : Nat) (w : World), (w.setCells g o vs).heap.size = w.heap.size
 | [], _, _ => rfl
 | v :: r, o, w => by rw [World.setCells, size_setC g r]; simp [World.setCell]
theorem lay_get (l d : List UInt8) (o j : Nat) (ho : o + d.length ≤ l.length) : (l.take o ++ d ++ l.drop (o + d.length))[j]? = if o ≤ j ∧ j < o + d.length then d[j - o]? else l[j]? := by
 have htl : (l.take o).length = o := by rw [List.length_take]; omega
 rw [List.append_assoc]
 by_cases h1 : j < o
 ·rw [if_neg (by omega), List.getElem?_append_left (by omega), List.getElem?_take, if_pos h1]
 ·rw [List.getElem?_append_right (by omega), htl]
  by_cases h2 : j < o + d.length
  ·rw [if_pos (by omega), List.getElem?_append_left (by omega)]
  ·rw [if_neg (by omega), List.getElem?_append_right (by omega), List.getElem?_drop]
   congr 1
   omega
theorem byterow_lay {w : World} {g : Nat} {l : List UInt8} (h : Cv.ByteRow w g l) (o : Nat) (d : List UInt8) (ho : o + d.length ≤ l.length) :
  Cv.ByteRow (w.setCells g o (d.map fun x => Value.int .u8 (x.toNat : Int))) g (l.take o ++ d ++ l.drop (o + d.length)) := by
 have hlen : (l.take o ++ d ++ l.drop (o + d.length)).length = l.length := by
  rw [List.length_append, List.length_append, List.length_take, List.length_drop]
  omega
 have hml : (d.map fun x => Value.int .u8 (x.toNat : Int)).length = d.length := List.length_map _
 refine ⟨by rw [size_setC]; exact h.1, fun j hj => ⟨?_, ?_⟩⟩
 ·rw [hlen] at hj
  rw [List.getD_eq_getElem?_getD, lay_get l d o j ho]
  by_cases h1 : o ≤ j ∧ j < o + d.length
  ·have h2 := World.cell?_setCells_in g (d.map fun x => Value.int .u8 (x.toNat : Int)) o w (fun k hk => by
    rw [hml] at hk
    rw [(h.2 (o + k) (by omega)).1]
    rfl) (j - o) (by rw [hml]; omega)
   rw [show o + (j - o) = j by omega] at h2
   rw [h2, if_pos h1, List.getElem_map, List.getElem?_eq_getElem (show j - o < d.length by omega)]
   rfl
  ·rw [World.cell?_setCells_out g _ o w ⟨g, j, none⟩ (fun _ _ => by rw [hml]; show j < o ∨ _ ≤ j; omega), (h.2 j hj).1, if_neg h1, List.getD_eq_getElem?_getD]
 ·rw [World.frozen?_setCells]
  rw [hlen] at hj
  exact (h.2 j hj).2
end Go.Proofs.YtilkhmhgjbhfnaaGreatDoor
