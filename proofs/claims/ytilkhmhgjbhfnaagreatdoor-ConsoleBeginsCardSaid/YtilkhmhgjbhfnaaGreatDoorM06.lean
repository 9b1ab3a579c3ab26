/- Parts of the proof, side by side: Rows0, FsOpen, FsOpened, FsLooks, LaBuild, FsSized, FsSized2, FsByFd, FsByFdW, MoReachP, LaInode. -/
import Derived.Test.YtilkhmhgjbhfnaaGreatDoorM02
import Derived.Test.YtilkhmhgjbhfnaaGreatDoorM01
import Derived.Deep.Cut
import Derived.Deep.DeepCutAuto
import Derived.Test.YtilkhmhgjbhfnaaGreatDoorM03
import Derived.Test.YtilkhmhgjbhfnaaGreatDoorM05
import Derived.Deep.RegionHeld3
import Derived.Lib.Builder
import Derived.Lib.FrozenHead2
import Derived.Lib.UnsafeStr
import Derived.Shelf.RegionOpenPlain
import Derived.Lib.BufferWrite
import Derived.Deep.WholeRow
import Derived.Deep.RegionWith
import Derived.Lib.MinMax
import Derived.Lib.LazyBuf
import Derived.Test.YtilkhmhgjbhfnaaGreatDoorM04
import Derived.Laws.BitsAllLaws
import Derived.RegionTactic
set_option linter.unusedVariables false
set_option linter.unusedSimpArgs false
namespace Go.Proofs.YtilkhmhgjbhfnaaGreatDoor
open Go.RowKit
theorem row_past {w : World} {b : Nat} {x : Obj} {o : Option Obj} (h : w.heap[b]? = o) (hlt : b < w.heap.size) : (w.alloc x).heap[b]? = o := (heap_alloc_old w x hlt).trans h
theorem row_new (w : World) (o : Obj) (b : Nat) (hb : b = w.heap.size) : (w.alloc o).heap[b]? = some o := by subst hb; exact heap_alloc_new w o
theorem row_kept {u w5 : World} {g : Nat} {o : Obj} (hb : Below u.heap.size u w5) (h : u.heap[g]? = some o) : w5.heap[g]? = some o := (hb.block g (Array.getElem?_eq_some_iff.1 h).1).trans h
theorem al1 (w : World) (o : Obj) : (w.alloc o).drew.heap[w.heap.size]? = some o := heap_alloc_new w o
theorem box_ds (w : World) (core fd num : Int) : ∃ W, w.alloc (.cells #[.int .i64 core, .int .i64 fd, .int .i64 num] 97) = W ∧ W.cell? ⟨w.heap.size, 0, .none⟩ = some (.int .i64 core) ∧ W.cell? ⟨w.heap.size, 1, .none⟩ = some (.int .i64 fd) ∧ W.cell? ⟨w.heap.size, 2, .none⟩ = some (.int .i64 num) ∧ Below w.heap.size w W ∧ w.heap.size < W.heap.size := by
 refine ⟨_, rfl, ?_, ?_, ?_, (Below.refl _ _).alloc (Nat.le_refl _) _, by simp⟩
 ·exact (World.cell?_alloc_mark w _ _ (0, 0) _).trans rfl
 ·exact (World.cell?_alloc_mark w _ _ (0, 0) _).trans rfl
 ·exact (World.cell?_alloc_mark w _ _ (0, 0) _).trans rfl
def prevD (ds : List Ds) (k : Nat) : Option Ds := if k = 0 then none else ds[k - 1]?
theorem findV_at {is : List Ino} (hw : Whole is) (path : ByteArray) (h : (findV is path).2 = 0) : 0 ≤ atV is (findV is path).1 := by
 unfold findV at h ⊢
 by_cases h1 : (parseL path.data.toList).2 ≠ 0
 ·rw [if_pos h1] at h
  unfold codeP at h
  rw [if_neg h1] at h
  split at h <;> cases h
 rw [if_neg h1] at h ⊢
 exact walkG_some hw _ _ hw.1 h
theorem infoStr9 : (Tryz.prog.info? 9).map (fun i => (i.zero, i.size, i.bytes)) = some (some (.string ⟨#[]⟩), 1, 16) := by kernel_rfl
def NmsAt (lo : Option Nat) (w : World) (A : Option Addr) (n : Nat) (ns : List ByteArray) : Prop :=
 ns.length = n ∧ (0 < n → ∃ g off, A = some ⟨g, off, none⟩ ∧ g < w.heap.size ∧ Mine lo 9 w g ∧ ∀ j x, ns[j]? = some x → w.cell? ⟨g, off + j, none⟩ = some (.string x))
theorem NmsAt.below {lo : Option Nat} {w w' : World} {A : Option Addr} {n : Nat} {ns : List ByteArray} (h : NmsAt lo w A n ns) (hb : Below w.heap.size w w') : NmsAt lo w' A n ns :=
 ⟨h.1, fun hn => by
  obtain ⟨g, off, hA, hg, hm, hc⟩ := h.2 hn
  exact ⟨g, off, hA, Nat.lt_of_lt_of_le hg hb.size, hm.below hb, fun j x hx => (hb.cell (p := ⟨g, _, none⟩) hg).trans (hc j x hx)⟩⟩
theorem NmsAt.weak {lo : Option Nat} {w : World} {A : Option Addr} {n : Nat} {ns : List ByteArray} (h : NmsAt lo w A n ns) : NmsAt none w A n ns :=
 ⟨h.1, fun hn => by
  obtain ⟨g, off, hA, hg, hm, hc⟩ := h.2 hn
  exact ⟨g, off, hA, hg, Mine.any _ _ _, hc⟩⟩
theorem NmsAt.keep {B : Nat} {w w' : World} {A : Option Addr} {n : Nat} {ns : List ByteArray} (h : NmsAt (some B) w A n ns) (hk : KeepT 9 w w') : NmsAt (some B) w' A n ns :=
 ⟨h.1, fun hn => by
  obtain ⟨g, off, hA, hg, hm, hc⟩ := h.2 hn
  obtain ⟨m1, m2⟩ := hk.mine hm
  exact ⟨g, off, hA, Nat.lt_of_lt_of_le hg hk.size, m1, fun j x hx => (cell_same m2 _).trans (hc j x hx)⟩⟩
theorem NmsAt.lower {B B' : Nat} {w : World} {A : Option Addr} {n : Nat} {ns : List ByteArray} (h : NmsAt (some B) w A n ns) (hb : B' ≤ B) : NmsAt (some B') w A n ns :=
 ⟨h.1, fun hn => by
  obtain ⟨g, off, hA, hg, hm, hc⟩ := h.2 hn
  exact ⟨g, off, hA, hg, hm.mono hb, hc⟩⟩
def ResIs (lo : Option Nat) (w : World) (v : Value) (r : Re) : Prop :=
 ∃ A n c, v = .agg #[.int .i64 r.code, .int .i64 r.fd, .int .i64 r.num, .bool r.dir, .string r.data, .slice A n c] ∧ SlOk A n c ∧ NmsAt lo w A n r.names
theorem ResIs.below {lo : Option Nat} {w w' : World} {v : Value} {r : Re} (h : ResIs lo w v r) (hb : Below w.heap.size w w') : ResIs lo w' v r := by
 obtain ⟨A, n, c, h1, h2, h3⟩ := h
 exact ⟨A, n, c, h1, h2, h3.below hb⟩
theorem ResIs.weak {lo : Option Nat} {w : World} {v : Value} {r : Re} (h : ResIs lo w v r) : ResIs none w v r := by
 obtain ⟨A, n, c, h1, h2, h3⟩ := h
 exact ⟨A, n, c, h1, h2, h3.weak⟩
structure Lk (a b d : Value) (s : St) (c : Ca) (w0 w : World) : Prop where
 box : OutAt w w0.heap.size a b d
 call : w.heap[w0.heap.size + 1]? = some (caRow c)
 res : ResAt w (w0.heap.size + 2) (.int .i64 0) (.int .i64 0) (.int .i64 0) (.bool false) (.string ⟨#[]⟩) (.slice none 0 0)
 st : StAt none w (.agg #[a, b, d]) s
 bel : Below w0.heap.size w0 w
 size : w0.heap.size + 3 ≤ w.heap.size
theorem Lk.below {a b d : Value} {s : St} {c : Ca} {w0 w w' : World} (h : Lk a b d s c w0 w) (hb : Below w.heap.size w w') : Lk a b d s c w0 w' :=
 ⟨(hb.block _ (by have := h.size; omega)).trans h.box, (hb.block _ (by have := h.size; omega)).trans h.call, (hb.block _ h.res.lt).trans h.res, h.st.below hb, h.bel.trans (hb.mono (by have := h.size; omega)), Nat.le_trans h.size hb.size⟩
theorem Lk.vals {a b d : Value} {s : St} {c : Ca} {w0 w : World} (h : Lk a b d s c w0 w) : w0.heap.size < w.heap.size ∧ w0.heap.size + 1 < w.heap.size ∧ w.cell? ⟨w0.heap.size, 0, none⟩ = some a ∧ w.cell? ⟨w0.heap.size, 1, none⟩ = some b ∧ w.cell? ⟨w0.heap.size, 2, none⟩ = some d ∧
  w.cell? ⟨w0.heap.size + 1, 0, none⟩ = some (.int .i64 c.kind) ∧ w.cell? ⟨w0.heap.size + 1, 5, none⟩ = some (.string c.path) := by
 have hc := h.call
 unfold caRow at hc
 obtain ⟨b0, b1, b2, _⟩ := h.box.get
 refine ⟨by have := h.size; omega, by have := h.size; omega, b0, b1, b2, ?_, ?_⟩ <;> (rw [cell_of_row w (w0.heap.size + 1) _ _ _ (0, 0) hc]; rfl)
theorem Lk.six {a b d : Value} {s : St} {c : Ca} {w0 w : World} (h : Lk a b d s c w0 w) (q r x y z t : Value) :
  ∃ w', (((((w.setCell ⟨w0.heap.size + 2, 0, none⟩ q).setCell ⟨w0.heap.size + 2, 1, none⟩ r).setCell ⟨w0.heap.size + 2, 2, none⟩ x).setCell ⟨w0.heap.size + 2, 3, none⟩ y).setCell ⟨w0.heap.size + 2, 4, none⟩ z).setCell ⟨w0.heap.size + 2, 5, none⟩ t = w' ∧
   ResAt w' (w0.heap.size + 2) q r x y z t ∧ Below w0.heap.size w0 w' ∧ ∀ ty, 87 ≠ ty → KeepT ty w w' := by
 obtain ⟨w', hw, hr, hk, hb, _, _⟩ := h.res.six q r x y z t
 exact ⟨w', hw, hr, hb w0.heap.size w0 (by omega) h.bel, hk⟩
theorem Lk.start {w : World} {s : St} {A : Option Addr} {n cp : Nat} {E : Option Addr} {m d : Nat} {D : Option Addr} {k e : Nat} (h : StAt none w (.agg #[.slice A n cp, .slice E m d, .slice D k e]) s) (c : Ca) :
  ∃ W W2 W3, w.alloc (.cells #[.slice A n cp, .slice E m d, .slice D k e] 31) = W ∧ W.alloc (.cells #[.int .i64 c.kind, .int .i64 c.core, .int .i64 c.fd, .int .i64 c.off, .int .i64 c.num, .string c.path, .string c.path2, .string c.data] 73) = W2 ∧
   W2.alloc (.cells #[.int .i64 0, .int .i64 0, .int .i64 0, .bool false, .string ⟨#[]⟩, .slice none 0 0] 87) = W3 ∧ W.heap.size = w.heap.size + 1 ∧ W2.heap.size = w.heap.size + 2 ∧ Lk (.slice A n cp) (.slice E m d) (.slice D k e) s c w W3 := by
 have h1 : Below w.heap.size w (w.alloc (.cells #[.slice A n cp, .slice E m d, .slice D k e] 31)) := (Below.refl _ _).alloc (Nat.le_refl _) _
 obtain ⟨W2, hW2, hbc, hal, hsz⟩ := box_ca (w.alloc (.cells #[.slice A n cp, .slice E m d, .slice D k e] 31)) c
 have hs1 : (w.alloc (.cells #[.slice A n cp, .slice E m d, .slice D k e] 31)).heap.size = w.heap.size + 1 := by simp
 have hal2 : Below W2.heap.size W2 (W2.alloc (.cells #[.int .i64 0, .int .i64 0, .int .i64 0, .bool false, .string ⟨#[]⟩, .slice none 0 0] 87)) := (Below.refl _ _).alloc (Nat.le_refl _) _
 have hb2 := Cv.next hal hal2
 rw [hs1] at hbc hsz
 refine ⟨_, W2, _, rfl, hW2, rfl, hs1, by omega, ?_, ?_, ?_, h.below (Cv.next h1 hb2), Cv.next h1 hb2, by simp; omega⟩
 ·exact (hb2.block _ (by omega)).trans (heap_alloc_new w _)
 ·exact (hal2.block _ (by omega)).trans hbc
 ·rw [show w.heap.size + 2 = W2.heap.size by omega]; exact heap_alloc_new W2 _
theorem infoByte : (Tryz.prog.info? 5).map (fun i => (i.zero, i.size, i.bytes)) = some (some (.int .u8 0), 1, 1) := by kernel_rfl
theorem sizeBuilder : (Tryz.prog.info? 54).map (fun i => i.size) = some 2 := by kernel_rfl
structure Wr (B b : Nat) (w w' : World) : Prop where
 below : Below B w w'
 keep : ∀ k o, w.heap[k]? = some o → k ≠ b → (∀ cs fr, o ≠ .cells cs 5 fr) → w'.heap[k]? = some o
theorem Wr.refl (B b : Nat) (w : World) : Wr B b w w := ⟨Below.refl _ _, fun _ _ h _ _ => h⟩
theorem Wr.trans {B b : Nat} {w w' w'' : World} (h : Wr B b w w') (h' : Wr B b w' w'') : Wr B b w w'' := ⟨h.below.trans h'.below, fun k o h1 h2 h3 => h'.keep k o (h.keep k o h1 h2 h3) h2 h3⟩
theorem Wr.of_below {B b : Nat} {w w' : World} (h : Below w.heap.size w w') (hB : B ≤ w.heap.size) : Wr B b w w' := ⟨h.mono hB, fun k o h1 _ _ => (h.block k (Array.getElem?_eq_some_iff.1 h1).1).trans h1⟩
theorem Wr.drew {B b : Nat} {w : World} : Wr B b w w.drew := ⟨Below.drew (Below.refl _ _), fun _ _ h _ _ => h⟩
theorem Wr.set {B b : Nat} {w : World} (hB : B ≤ b) (o : Nat) (v : Value) : Wr B b w (w.setCell ⟨b, o, .none⟩ v) :=
 ⟨(Below.refl _ _).setCell (p := ⟨b, o, .none⟩) hB v, fun k x h1 h2 _ => (Below.heap_setCell w ⟨b, o, .none⟩ v k h2).trans h1⟩
theorem Wr.grown {B b n : Nat} {v : Value} {xs : List Value} {w w' : World} (hown : w.ownsRowF B 5 1 v n xs) (hg : w.grownBy w' v.ownBlock) (hBw : B ≤ w.heap.size) : Wr B b w w' := by
 refine ⟨(Below.refl _ _).grown hg hBw (fun k hk => (hown.lt k hk).1), fun k o h1 _ h3 => (hg.block k (Array.getElem?_eq_some_iff.1 h1).1 ?_).trans h1⟩
 intro e
 rcases hown.2 with ⟨rfl, _⟩ | ⟨g, cap, cur, fz, rfl, _, hh, _⟩
 ·cases e
 ·have : k = g := by simpa [Value.ownBlock] using e
  subst this
  rw [hh] at h1
  exact h3 cur fz (Option.some.inj h1).symm
theorem Wr.freeze {B b g : Nat} {cur : Array Value} {fz : Nat × Nat} {w : World} (hg : w.heap[g]? = some (.cells cur 5 fz)) (hB : B ≤ g) (n : Nat) : Wr B b w (w.freeze ⟨g, 0, .none⟩ n) := by
 refine ⟨Lib.below_freeze (Below.refl B w) (p := ⟨g, 0, none⟩) hB n, fun k o h1 _ h3 => ?_⟩
 have hk : k ≠ g := by
  intro e
  subst e
  rw [hg] at h1
  exact h3 cur fz (Option.some.inj h1).symm
 have h5 := Lib.below_freeze (B := k + 1) (Below.refl (k + 1) w) (p := ⟨g, 0, none⟩)
 unfold World.freeze
 split
 ·exact h1
 ·simp only [Array.getElem?_modify]
  rw [if_neg (fun e => hk e.symm)]
  exact h1
theorem sizedL_long (l : List UInt8) (k : Nat) (h : l.length ≤ k) : sizedL l k = l ++ List.replicate (k - l.length) 0 := by
 unfold sizedL
 rw [List.take_append, List.take_of_length_le h]
 congr 1
 rw [List.take_replicate]
 congr 1
 omega
theorem run_copy_row_cut {P : Program} (w : World) (dT sT ty elem : TypeId) (g dLen dCap : Nat) (s : ByteArray) (cur : Array Value) (t : TypeId)
  (hu : P.underlying dT = some (.slice elem)) (hs : (P.info? elem).map (·.size) = some 1) (hg : w.heap[g]? = some (.cells cur t (0, 0))) (hle : dLen ≤ s.size) (hfit : dLen ≤ cur.size) :
  (Builtin.copy_ #[dT, sT] ty #[.slice (some ⟨g, 0, none⟩) dLen dCap, .string s]).run P w =
   .ok (goInt dLen) (w.setRow g (Lib.byteCells (s.data.toList.take dLen) ++ cur.toList.drop dLen).toArray) := by
 have hlen : (Lib.byteCells (s.data.toList.take dLen)).length = dLen := by rw [Lib.byteCells_length, List.length_take, Array.length_toList]; exact Nat.min_eq_left hle
 have hst := run_storeCells_at P g 0 t (Lib.byteCells (s.data.toList.take dLen)) 0 cur w hg (by rw [hlen]; simpa using hfit) (Lib.byteCells_one _)
 have hmin : Nat.min s.size dLen = dLen := Nat.min_eq_right hle
 have htk : List.take dLen (List.map (fun b : UInt8 => Value.int IntKind.u8 (b.toNat : Int)) s.data.toList) = Lib.byteCells (s.data.toList.take dLen) := by
  rw [List.map_take.symm]
  rfl
 rw [hlen] at hst
 simp only [Nat.add_zero, Nat.zero_add, List.take_zero, List.nil_append] at hst
 cases hq : P.info? elem with
 | none => simp [hq] at hs
 | some i =>
  simp [Builtin.copy_, run_underlying hu, Builtin.lenOf, Builtin.firstCells, sizeOf, typeInfo, hq, hmin]
  rw [htk, hst]
  simp [Result.andThen]
theorem sizedL_short (l : List UInt8) (k : Nat) (h : k ≤ l.length) : sizedL l k = l.take k := by
 unfold sizedL
 rw [List.take_append, show k - l.length = 0 by omega]
 simp
theorem sizedL_len (l : List UInt8) (k : Nat) : (sizedL l k).length = k := by
 unfold sizedL
 rw [List.length_take, List.length_append, List.length_replicate]
 omega
theorem Sized.setData {s : St} (h : Sized s) {i : Nat} {x : Ino} (hx : s.inos[i]? = some x) (d : ByteArray) (hd : d.size ≤ 140737488355328) : Sized { s with inos := s.inos.set i { x with data := d } } := by
 have hmem : x ∈ s.inos := List.mem_of_getElem? hx
 have hb : ∀ (is : List Ino) (i : Nat), is[i]? = some x → bulkE (is.set i { x with data := d }) = bulkE is := by
  intro is
  induction is with
  | nil => intro i h; simp at h
  | cons y ys ih =>
   intro i h
   cases i with
   | zero =>
    have : y = x := by simpa using h
    subst this
    rfl
   | succ i =>
    have := ih i (by simpa using h)
    show y.ents.length + bulkE (ys.set i _) = y.ents.length + bulkE ys
    rw [this]
 refine ⟨?_, fun y hy => ?_, ⟨fun y hy => ?_, h.nums.2⟩⟩
 ·show (s.inos.set i _).length + bulkE (s.inos.set i _) + _ + _ ≤ _
  rw [List.length_set, hb _ _ hx]
  exact h.big
 ·rcases List.mem_or_eq_of_mem_set hy with hy | rfl
  ·exact h.text y hy
  ·exact ⟨hd, (h.text x hmem).2⟩
 ·rcases List.mem_or_eq_of_mem_set hy with hy | rfl
  ·exact h.nums.1 y hy
  ·exact h.nums.1 x hmem
theorem Fr.calls {B p : Nat} {s : St} {c : Ca} {w0 w : World} (h : Fr B p s c w0 w) : w.cell? ⟨w0.heap.size, 0, none⟩ = some (.int .i64 c.kind) ∧ w.cell? ⟨w0.heap.size, 1, none⟩ = some (.int .i64 c.core) ∧ w.cell? ⟨w0.heap.size, 2, none⟩ = some (.int .i64 c.fd) ∧ w.cell? ⟨w0.heap.size, 3, none⟩ = some (.int .i64 c.off) ∧ w.cell? ⟨w0.heap.size, 4, none⟩ = some (.int .i64 c.num) ∧ w.cell? ⟨w0.heap.size, 7, none⟩ = some (.string c.data) := by
 obtain ⟨_, _, _, _, _, _, _, _, _, _, _, _, _, _, _, _, _, _, k0, k1, k2, k3, k4, _, _, k7⟩ := h.vals
 exact ⟨k0, k1, k2, k3, k4, k7⟩
theorem dropD_len : ∀ (ds : List Ds) (core fd : Int), (dropD ds core fd).length ≤ ds.length
 | [], _, _ => Nat.le_refl _
 | d :: ds, core, fd => by
  unfold dropD
  have := dropD_len ds core fd
  split <;> simp <;> omega
theorem Sized.dropD {s : St} (h : Sized s) (core fd : Int) : Sized { s with opn := Go.Proofs.YtilkhmhgjbhfnaaGreatDoor.dropD s.opn core fd } := by
 refine ⟨?_, h.text, h.nums⟩
 have := h.big
 have := dropD_len s.opn core fd
 show s.inos.length + bulkE s.inos + (Go.Proofs.YtilkhmhgjbhfnaaGreatDoor.dropD s.opn core fd).length + s.made.length ≤ _
 omega
theorem piece_eq (d : ByteArray) (o k : Nat) (hd : d.size ≤ 140737488355328) (ho : o ≤ 256) (hk : k ≤ 256) : d.extract (min o d.size) (min (min o d.size + k) d.size) = txt ((d.data.toList.drop o).take k) := by
 have hl : d.data.toList.length = d.size := Array.length_toList
 apply ByteArray.ext
 apply Array.toList_inj.1
 rw [ByteArray.data_extract, Array.toList_extract]
 show _ = ((d.data.toList.drop o).take k)
 rw [List.extract_eq_take_drop]
 by_cases h : o ≤ d.size
 ·rw [Nat.min_eq_left h]
  by_cases h2 : o + k ≤ d.size
  ·rw [Nat.min_eq_left h2, show o + k - o = k by omega]
  ·rw [Nat.min_eq_right (by omega), List.take_of_length_le (by rw [List.length_drop]; omega), List.take_of_length_le (by rw [List.length_drop]; omega)]
 ·rw [Nat.min_eq_right (by omega), List.drop_of_length_le (by omega), List.drop_of_length_le (by omega)]
  simp only [List.take_nil]
theorem size_byte (w : World) : (Go.sizeOf 5).run Tryz.prog w = .ok 1 w := by
 obtain ⟨ib, hib, hz0, hz1, hz2⟩ := info_parts infoByte
 simp [Go.sizeOf, typeInfo, hib, hz1]
theorem size_setC (g : Nat) : ∀ (vs : List Value) (o : Nat) (w : World), (w.setCells g o vs).heap.size = w.heap.size
 | [], _, _ => rfl
 | v :: r, o, w => by rw [World.setCells, size_setC g r]; simp [World.setCell]
theorem lay_get (l d : List UInt8) (o j : Nat) (ho : o + d.length ≤ l.length) : (l.take o ++ d ++ l.drop (o + d.length))[j]? = if o ≤ j ∧ j < o + d.length then d[j - o]? else l[j]? := by
 have htl : (l.take o).length = o := by rw [List.length_take]; omega
 rw [List.append_assoc]
 by_cases h1 : j < o
 ·rw [if_neg (by omega), List.getElem?_append_left (by omega), List.getElem?_take, if_pos h1]
 ·rw [List.getElem?_append_right (by omega), htl]
  by_cases h2 : j < o + d.length
  ·rw [if_pos (by omega), List.getElem?_append_left (by omega)]
  ·rw [if_neg (by omega), List.getElem?_append_right (by omega), List.getElem?_drop]
   congr 1
   omega
theorem byterow_lay {w : World} {g : Nat} {l : List UInt8} (h : Cv.ByteRow w g l) (o : Nat) (d : List UInt8) (ho : o + d.length ≤ l.length) :
  Cv.ByteRow (w.setCells g o (d.map fun x => Value.int .u8 (x.toNat : Int))) g (l.take o ++ d ++ l.drop (o + d.length)) := by
 have hlen : (l.take o ++ d ++ l.drop (o + d.length)).length = l.length := by
  rw [List.length_append, List.length_append, List.length_take, List.length_drop]
  omega
 have hml : (d.map fun x => Value.int .u8 (x.toNat : Int)).length = d.length := List.length_map _
 refine ⟨by rw [size_setC]; exact h.1, fun j hj => ⟨?_, ?_⟩⟩
 ·rw [hlen] at hj
  rw [List.getD_eq_getElem?_getD, lay_get l d o j ho]
  by_cases h1 : o ≤ j ∧ j < o + d.length
  ·have h2 := World.cell?_setCells_in g (d.map fun x => Value.int .u8 (x.toNat : Int)) o w (fun k hk => by
    rw [hml] at hk
    rw [(h.2 (o + k) (by omega)).1]
    rfl) (j - o) (by rw [hml]; omega)
   rw [show o + (j - o) = j by omega] at h2
   rw [h2, if_pos h1, List.getElem_map, List.getElem?_eq_getElem (show j - o < d.length by omega)]
   rfl
  ·rw [World.cell?_setCells_out g _ o w ⟨g, j, none⟩ (fun _ _ => by rw [hml]; show j < o ∨ _ ≤ j; omega), (h.2 j hj).1, if_neg h1, List.getD_eq_getElem?_getD]
 ·rw [World.frozen?_setCells]
  rw [hlen] at hj
  exact (h.2 j hj).2
end Go.Proofs.YtilkhmhgjbhfnaaGreatDoor
namespace Go.Proofs.YtilkhmhgjbhfnaaGreatDoor
def Linked (is : List Ino) : Prop := ∀ x ∈ is, (x.dir = false → x.ents = []) ∧ ∀ e ∈ x.ents, 0 ≤ atV is e.num
structure FoundQ (is : List Ino) (todo : List Int) (cur : Nat) (rest : List En) (f : List Bool) : Prop where
 len : f.length = is.length
 sound : ∀ k, f.getD k false = true → Reach is k
 queue : ∀ t ∈ todo, ∃ k : Nat, t = (k : Int) ∧ f.getD k false = true
 closed : ∀ (k : Nat) (x : Ino), f.getD k false = true → is[k]? = some x → x.dir = true → ∀ e ∈ x.ents, ∀ j : Nat, atV is e.num = (j : Int) → f.getD j false = true ∨ (k : Int) ∈ todo ∨ (k = cur ∧ e ∈ rest)
 root : ∀ j : Nat, atV is 1 = (j : Int) → f.getD j false = true
theorem FoundQ.done {is : List Ino} {f : List Bool} {cur : Nat} (h : FoundQ is [] cur [] f) : f = reachV is :=
 Found.same ⟨h.len, h.sound, fun t ht => by simp at ht, fun k x hk hx hd e he j hj => by
  rcases h.closed k x hk hx hd e he j hj with h1 | h1 | h1
  ·exact .inl h1
  ·simp at h1
  ·simp at h1, fun j hj => .inl (h.root j hj)⟩
theorem FoundQ.start {is : List Ino} {x : Ino} (h0 : is[0]? = some x) (hn : x.num = 1) : FoundQ is [0] 0 [] ((List.replicate is.length false).set 0 true) := by
 have hl : 0 < is.length := (List.getElem?_eq_some_iff.1 h0).1
 have ha : atV is 1 = (0 : Nat) := by
  rcases atV_cases is 1 with ⟨_, h2⟩ | ⟨k, y, h1, h2, h3, h4⟩
  ·exact absurd hn (h2 x (List.mem_of_getElem? h0))
  ·rcases Nat.eq_zero_or_pos k with h | h
   ·rw [h1, h]
   ·exact absurd hn (h4 0 x h h0)
 have hf : ∀ k, ((List.replicate is.length false).set 0 true).getD k false = true → k = 0 := fun k hk => by
  rw [getD_set _ 0 k (by simpa using hl)] at hk
  split at hk
  ·assumption
  ·rw [List.getD_eq_getElem?_getD, List.getElem?_replicate] at hk
   split at hk <;> cases hk
 have hf0 : ((List.replicate is.length false).set 0 true).getD 0 false = true := by rw [getD_set _ 0 0 (by simpa using hl), if_pos rfl]
 refine ⟨by simp, fun k hk => ?_, fun t ht => ?_, fun k y hk hy hd e he j hj => ?_, fun j hj => ?_⟩
 ·rw [hf k hk]; exact .root 0 ha
 ·have : t = 0 := by simpa using ht
  exact ⟨0, this, hf0⟩
 ·rw [hf k hk]; exact .inr (.inl (by simp))
 ·have : j = 0 := by rw [ha] at hj; omega
  rw [this]; exact hf0
theorem FoundQ.take {is : List Ino} {t : Int} {ts : List Int} {f : List Bool} {c : Nat} (h : FoundQ is (t :: ts) c [] f) : ∃ (k : Nat) (x : Ino), t = (k : Int) ∧ is[k]? = some x ∧ f.getD k false = true ∧ FoundQ is ts k x.ents f := by
 obtain ⟨k, rfl, hk⟩ := h.queue t (by simp)
 have hkl : k < is.length := by
  rw [← h.len]
  apply Classical.byContradiction
  intro hn
  rw [List.getD_eq_getElem?_getD, List.getElem?_eq_none (by omega)] at hk
  cases hk
 refine ⟨k, is[k], rfl, List.getElem?_eq_getElem hkl, hk, ⟨h.len, h.sound, fun u hu => h.queue u (by simp [hu]), fun i y hi hy hd e he j hj => ?_, h.root⟩⟩
 rcases h.closed i y hi hy hd e he j hj with h1 | h1 | h1
 ·exact .inl h1
 ·rcases List.mem_cons.1 h1 with h2 | h2
  ·have e1 : i = k := by omega
   subst e1
   rw [List.getElem?_eq_getElem hkl] at hy
   have : is[i] = y := Option.some.inj hy
   rw [this]
   exact .inr (.inr ⟨rfl, he⟩)
  ·exact .inr (.inl h2)
 ·simp at h1
theorem FoundQ.old {is : List Ino} {ts : List Int} {k j : Nat} {e : En} {es : List En} {f : List Bool} (h : FoundQ is ts k (e :: es) f) (hj : atV is e.num = (j : Int)) (hf : f.getD j false = true) : FoundQ is ts k es f := by
 refine ⟨h.len, h.sound, h.queue, fun i y hi hy hd e2 he i2 hi2 => ?_, h.root⟩
 rcases h.closed i y hi hy hd e2 he i2 hi2 with h1 | h1 | ⟨h1, h2⟩
 ·exact .inl h1
 ·exact .inr (.inl h1)
 ·rcases List.mem_cons.1 h2 with h3 | h3
  ·subst h3
   have : i2 = j := by omega
   rw [this]; exact .inl hf
  ·exact .inr (.inr ⟨h1, h3⟩)
theorem FoundQ.new {is : List Ino} {ts : List Int} {k j : Nat} {x : Ino} {e : En} {es : List En} {f : List Bool} (h : FoundQ is ts k (e :: es) f) (hk : f.getD k false = true) (hx : is[k]? = some x) (hd : x.dir = true) (he : e ∈ x.ents) (hj : atV is e.num = (j : Int)) :
  FoundQ is (ts ++ [(j : Int)]) k es (f.set j true) := by
 have hjl : j < f.length := by
  rw [h.len]
  obtain ⟨y, hy, _⟩ := atV_lt hj
  exact (List.getElem?_eq_some_iff.1 hy).1
 have old : ∀ i, f.getD i false = true → (f.set j true).getD i false = true := fun i hi => by rw [getD_set f j i hjl]; split; rfl; exact hi
 have new : (f.set j true).getD j false = true := by rw [getD_set f j j hjl, if_pos rfl]
 refine ⟨by rw [List.length_set]; exact h.len, fun i hi => ?_, fun t ht => ?_, fun i y hi hy hd2 e2 he2 i2 hi2 => ?_, fun i hi => old i (h.root i hi)⟩
 ·rw [getD_set f j i hjl] at hi
  by_cases e1 : i = j
  ·subst e1
   exact .step k i x e (h.sound k hk) hx hd he hj
  ·rw [if_neg e1] at hi; exact h.sound i hi
 ·rcases List.mem_append.1 ht with h1 | h1
  ·obtain ⟨i, e1, e2⟩ := h.queue t h1
   exact ⟨i, e1, old i e2⟩
  ·exact ⟨j, by simpa using h1, new⟩
 ·by_cases e1 : i = j
  ·subst e1; exact .inr (.inl (by simp))
  ·rw [getD_set f j i hjl, if_neg e1] at hi
   rcases h.closed i y hi hy hd2 e2 he2 i2 hi2 with h1 | h1 | ⟨h1, h2⟩
   ·exact .inl (old _ h1)
   ·exact .inr (.inl (List.mem_append.2 (.inl h1)))
   ·rcases List.mem_cons.1 h2 with h3 | h3
    ·subst h3
     have : i2 = j := by omega
     rw [this]; exact .inl new
    ·exact .inr (.inr ⟨h1, h3⟩)
def unF : List Bool → Nat
 | [] => 0
 | b :: f => (if b then 0 else 1) + unF f
theorem unF_le : ∀ f : List Bool, unF f ≤ f.length
 | [] => Nat.le_refl _
 | b :: f => by
  have := unF_le f
  unfold unF
  rw [List.length_cons]
  split <;> omega
theorem unF_set : ∀ (f : List Bool) (k : Nat), k < f.length → f.getD k false = false → unF f = unF (f.set k true) + 1
 | [], _, h, _ => by simp at h
 | b :: f, 0, _, h => by
  have : b = false := by simpa using h
  subst this
  show 1 + unF f = 0 + unF f + 1
  omega
 | b :: f, k + 1, h, h2 => by
  have := unF_set f k (by simpa using h) (by simpa using h2)
  show (if b = true then 0 else 1) + unF f = (if b = true then 0 else 1) + unF (f.set k true) + 1
  omega
def partL (is : List Ino) (i q : Nat) (num : Int) : Nat := linkI (is.take i) num + (match is[i]? with | none => 0 | some x => linkE (x.ents.take q) num)
theorem linkE_take (es : List En) (q : Nat) (e : En) (num : Int) (h : es[q]? = some e) : linkE (es.take (q + 1)) num = linkE (es.take q) num + if e.num = num then 1 else 0 := by
 induction es generalizing q with
 | nil => simp at h
 | cons x xs ih =>
  cases q with
  | zero =>
   have : x = e := by simpa using h
   subst this
   simp [linkE]
  | succ q =>
   have := ih q (by simpa using h)
   simp only [List.take_succ_cons, linkE]
   rw [this]
   omega
theorem linkI_take (is : List Ino) (i : Nat) (x : Ino) (num : Int) (h : is[i]? = some x) : linkI (is.take (i + 1)) num = linkI (is.take i) num + if x.dir then linkE x.ents num else 0 := by
 induction is generalizing i with
 | nil => simp at h
 | cons y ys ih =>
  cases i with
  | zero =>
   have : y = x := by simpa using h
   subst this
   simp [linkI]
  | succ i =>
   have := ih i (by simpa using h)
   simp only [List.take_succ_cons, linkI]
   rw [this]
   omega
theorem partL_zero (is : List Ino) (num : Int) : partL is 0 0 num = 0 := by
 unfold partL
 cases is with
 | nil => rfl
 | cons x xs => simp [linkI, linkE]
theorem partL_entry {is : List Ino} {i q : Nat} {x : Ino} {e : En} (hx : is[i]? = some x) (he : x.ents[q]? = some e) (num : Int) : partL is i (q + 1) num = partL is i q num + if e.num = num then 1 else 0 := by
 unfold partL
 rw [hx]
 simp only
 rw [linkE_take _ _ _ _ he]
 omega
theorem partL_next {is : List Ino} (hl : Linked is) {i q : Nat} {x : Ino} (hx : is[i]? = some x) (hq : x.ents.length ≤ q) (num : Int) : partL is (i + 1) 0 num = partL is i q num := by
 unfold partL
 rw [hx, linkI_take _ _ _ _ hx]
 simp only
 rw [List.take_of_length_le hq]
 have h0 : (match is[i + 1]? with | none => 0 | some x => linkE (x.ents.take 0) num) = 0 := by
  cases is[i + 1]? with
  | none => rfl
  | some y => simp [linkE]
 rw [h0]
 cases hd : x.dir
 ·rw [(hl x (List.mem_of_getElem? hx)).1 hd]
  simp [linkE]
 ·simp
theorem partL_all {is : List Ino} {i : Nat} (h : is.length ≤ i) (num : Int) : partL is i 0 num = linkI is num := by
 unfold partL
 rw [List.take_of_length_le h, List.getElem?_eq_none h]
 simp
theorem linkE_le : ∀ (es : List En) (num : Int), linkE es num ≤ es.length
 | [], _ => Nat.le_refl _
 | e :: es, num => by
  have := linkE_le es num
  unfold linkE
  rw [List.length_cons]
  split <;> omega
theorem linkI_le : ∀ (is : List Ino) (num : Int), linkI is num ≤ bulkE is
 | [], _ => Nat.le_refl _
 | x :: xs, num => by
  have h1 := linkI_le xs num
  have h2 := linkE_le x.ents num
  have h3 : bulkE (x :: xs) = x.ents.length + bulkE xs := rfl
  unfold linkI
  rw [h3]
  split <;> omega
theorem bulkE_take (is : List Ino) (i : Nat) (x : Ino) (h : is[i]? = some x) : bulkE (is.take i) + x.ents.length ≤ bulkE is := by
 induction is generalizing i with
 | nil => simp at h
 | cons y ys ih =>
  have h3 : bulkE (y :: ys) = y.ents.length + bulkE ys := rfl
  cases i with
  | zero =>
   have : y = x := by simpa using h
   subst this
   rw [h3, List.take_zero]
   have : bulkE [] = 0 := rfl
   omega
  | succ i =>
   have := ih i (by simpa using h)
   rw [List.take_succ_cons, h3]
   have h4 : bulkE (y :: ys.take i) = y.ents.length + bulkE (ys.take i) := rfl
   omega
theorem partL_le (is : List Ino) (i q : Nat) (num : Int) : partL is i q num ≤ bulkE is := by
 unfold partL
 cases h : is[i]? with
 | none =>
  have : is.length ≤ i := List.getElem?_eq_none_iff.1 h
  rw [List.take_of_length_le this]
  have := linkI_le is num
  simp only
  omega
 | some x =>
  have h1 := bulkE_take is i x h
  have h2 := linkI_le (is.take i) num
  have h3 := linkE_le (x.ents.take q) num
  have h4 : (x.ents.take q).length ≤ x.ents.length := by simp; omega
  simp only
  omega
end Go.Proofs.YtilkhmhgjbhfnaaGreatDoor
namespace Go.Proofs.YtilkhmhgjbhfnaaGreatDoor
open Go.RowKit
structure InoOk (x : Ino) : Prop where
 num : 0 ≤ x.num ∧ x.num ≤ 1099511627776
 data : x.data.size ≤ 1099511627776
 ents : x.ents.length ≤ 1099511627776 ∧ ∀ e ∈ x.ents, 0 ≤ e.num ∧ e.num ≤ 1099511627776 ∧ e.name.size ≤ 1099511627776
end Go.Proofs.YtilkhmhgjbhfnaaGreatDoor
