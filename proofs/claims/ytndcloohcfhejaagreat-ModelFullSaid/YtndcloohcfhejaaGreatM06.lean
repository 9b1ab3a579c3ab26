/- Parts of the proof, side by side: FsRename, Rows0, FsOpen, FsOpened, FsLooks, LaBuild, FsSized, FsSized2, FsByFd, FsByFdW, FsMay. -/
import Derived.Test.YtndcloohcfhejaaGreatM05
import Derived.Test.YtndcloohcfhejaaGreatM01
import Derived.Deep.Cut
import Derived.Deep.DeepCutAuto
import Derived.Test.YtndcloohcfhejaaGreatM02
import Derived.Test.YtndcloohcfhejaaGreatM03
import Derived.Deep.RegionHeld3
import Derived.Lib.Builder
import Derived.Lib.FrozenHead2
import Derived.Lib.UnsafeStr
import Derived.Shelf.RegionOpenPlain
import Derived.Lib.BufferWrite
import Derived.Deep.WholeRow
import Derived.Deep.RegionWith
import Derived.Lib.MinMax
import Derived.Lib.LazyBuf
set_option linter.unusedVariables false
set_option linter.unusedSimpArgs false
namespace Go.Proofs.YtndcloohcfhejaaGreat
open Go.RowKit
theorem modify_mem {α : Type} (f : α → α) : ∀ (l : List α) (i : Nat) (y : α), y ∈ l.modify i f → y ∈ l ∨ ∃ x ∈ l, y = f x
 | [], _, _, h => by simp at h
 | x :: xs, 0, y, h => by
  have h2 : y ∈ f x :: xs := h
  rcases List.mem_cons.1 h2 with rfl | h2
  ·exact .inr ⟨x, List.mem_cons_self, rfl⟩
  ·exact .inl (List.mem_cons_of_mem _ h2)
 | x :: xs, i + 1, y, h => by
  have h2 : y ∈ x :: xs.modify i f := h
  rcases List.mem_cons.1 h2 with rfl | h2
  ·exact .inl List.mem_cons_self
  ·rcases modify_mem f xs i y h2 with h3 | ⟨z, h3, h4⟩
   ·exact .inl (List.mem_cons_of_mem _ h3)
   ·exact .inr ⟨z, List.mem_cons_of_mem _ h3, h4⟩
theorem dropE_mem : ∀ (es : List En) (name : ByteArray) (e : En), e ∈ dropE es name → e ∈ es
 | [], _, _, h => by simp [dropE] at h
 | y :: es, name, e, h => by
  unfold dropE at h
  split at h
  ·exact List.mem_cons_of_mem _ (dropE_mem es name e h)
  ·rcases List.mem_cons.1 h with rfl | h
   ·exact List.mem_cons_self
   ·exact List.mem_cons_of_mem _ (dropE_mem es name e h)
theorem row_far {w : World} {b g k : Nat} {u : Value} {o : Option Obj} (h : w.heap[b]? = o) (hne : b ≠ g) : (w.setCell ⟨g, k, none⟩ u).heap[b]? = o := (Below.heap_setCell w ⟨g, k, none⟩ u b hne).trans h
theorem row_kept {u w5 : World} {g : Nat} {o : Obj} (hb : Below u.heap.size u w5) (h : u.heap[g]? = some o) : w5.heap[g]? = some o := (hb.block g (Array.getElem?_eq_some_iff.1 h).1).trans h
theorem box_ds (w : World) (core fd num : Int) : ∃ W, w.alloc (.cells #[.int .i64 core, .int .i64 fd, .int .i64 num] 79) = W ∧ W.cell? ⟨w.heap.size, 0, .none⟩ = some (.int .i64 core) ∧ W.cell? ⟨w.heap.size, 1, .none⟩ = some (.int .i64 fd) ∧ W.cell? ⟨w.heap.size, 2, .none⟩ = some (.int .i64 num) ∧ Below w.heap.size w W ∧ w.heap.size < W.heap.size := by
 refine ⟨_, rfl, ?_, ?_, ?_, (Below.refl _ _).alloc (Nat.le_refl _) _, by simp⟩
 ·exact (World.cell?_alloc_mark w _ _ (0, 0) _).trans rfl
 ·exact (World.cell?_alloc_mark w _ _ (0, 0) _).trans rfl
 ·exact (World.cell?_alloc_mark w _ _ (0, 0) _).trans rfl
def prevD (ds : List Ds) (k : Nat) : Option Ds := if k = 0 then none else ds[k - 1]?
theorem findV_at {is : List Ino} (hw : Whole is) (path : ByteArray) (h : (findV is path).2 = 0) : 0 ≤ atV is (findV is path).1 := by
 unfold findV at h ⊢
 by_cases h1 : (parseL path.data.toList).2 ≠ 0
 ·rw [if_pos h1] at h
  unfold codeP at h
  rw [if_neg h1] at h
  split at h <;> cases h
 rw [if_neg h1] at h ⊢
 exact walkG_some hw _ _ hw.1 h
def NmsAt (lo : Option Nat) (w : World) (A : Option Addr) (n : Nat) (ns : List ByteArray) : Prop :=
 ns.length = n ∧ (0 < n → ∃ g off, A = some ⟨g, off, none⟩ ∧ g < w.heap.size ∧ Mine lo 9 w g ∧ ∀ j x, ns[j]? = some x → w.cell? ⟨g, off + j, none⟩ = some (.string x))
theorem NmsAt.below {lo : Option Nat} {w w' : World} {A : Option Addr} {n : Nat} {ns : List ByteArray} (h : NmsAt lo w A n ns) (hb : Below w.heap.size w w') : NmsAt lo w' A n ns :=
 ⟨h.1, fun hn => by
  obtain ⟨g, off, hA, hg, hm, hc⟩ := h.2 hn
  exact ⟨g, off, hA, Nat.lt_of_lt_of_le hg hb.size, hm.below hb, fun j x hx => (hb.cell (p := ⟨g, _, none⟩) hg).trans (hc j x hx)⟩⟩
theorem NmsAt.weak {lo : Option Nat} {w : World} {A : Option Addr} {n : Nat} {ns : List ByteArray} (h : NmsAt lo w A n ns) : NmsAt none w A n ns :=
 ⟨h.1, fun hn => by
  obtain ⟨g, off, hA, hg, hm, hc⟩ := h.2 hn
  exact ⟨g, off, hA, hg, Mine.any _ _ _, hc⟩⟩
theorem NmsAt.keep {B : Nat} {w w' : World} {A : Option Addr} {n : Nat} {ns : List ByteArray} (h : NmsAt (some B) w A n ns) (hk : KeepT 9 w w') : NmsAt (some B) w' A n ns :=
 ⟨h.1, fun hn => by
  obtain ⟨g, off, hA, hg, hm, hc⟩ := h.2 hn
  obtain ⟨m1, m2⟩ := hk.mine hm
  exact ⟨g, off, hA, Nat.lt_of_lt_of_le hg hk.size, m1, fun j x hx => (cell_same m2 _).trans (hc j x hx)⟩⟩
theorem NmsAt.lower {B B' : Nat} {w : World} {A : Option Addr} {n : Nat} {ns : List ByteArray} (h : NmsAt (some B) w A n ns) (hb : B' ≤ B) : NmsAt (some B') w A n ns :=
 ⟨h.1, fun hn => by
  obtain ⟨g, off, hA, hg, hm, hc⟩ := h.2 hn
  exact ⟨g, off, hA, hg, hm.mono hb, hc⟩⟩
def ResIs (lo : Option Nat) (w : World) (v : Value) (r : Re) : Prop :=
 ∃ A n c, v = .agg #[.int .i64 r.code, .int .i64 r.fd, .int .i64 r.num, .bool r.dir, .string r.data, .slice A n c] ∧ SlOk A n c ∧ NmsAt lo w A n r.names
theorem infoByte : (Tryz.prog.info? 5).map (fun i => (i.zero, i.size, i.bytes)) = some (some (.int .u8 0), 1, 1) := by kernel_rfl
theorem sizedL_long (l : List UInt8) (k : Nat) (h : l.length ≤ k) : sizedL l k = l ++ List.replicate (k - l.length) 0 := by
 unfold sizedL
 rw [List.take_append, List.take_of_length_le h]
 congr 1
 rw [List.take_replicate]
 congr 1
 omega
theorem run_copy_row_cut {P : Program} (w : World) (dT sT ty elem : TypeId) (g dLen dCap : Nat) (s : ByteArray) (cur : Array Value) (t : TypeId)
  (hu : P.underlying dT = some (.slice elem)) (hs : (P.info? elem).map (·.size) = some 1) (hg : w.heap[g]? = some (.cells cur t (0, 0))) (hle : dLen ≤ s.size) (hfit : dLen ≤ cur.size) :
  (Builtin.copy_ #[dT, sT] ty #[.slice (some ⟨g, 0, none⟩) dLen dCap, .string s]).run P w =
   .ok (goInt dLen) (w.setRow g (Lib.byteCells (s.data.toList.take dLen) ++ cur.toList.drop dLen).toArray) := by
 have hlen : (Lib.byteCells (s.data.toList.take dLen)).length = dLen := by rw [Lib.byteCells_length, List.length_take, Array.length_toList]; exact Nat.min_eq_left hle
 have hst := run_storeCells_at P g 0 t (Lib.byteCells (s.data.toList.take dLen)) 0 cur w hg (by rw [hlen]; simpa using hfit) (Lib.byteCells_one _)
 have hmin : Nat.min s.size dLen = dLen := Nat.min_eq_right hle
 have htk : List.take dLen (List.map (fun b : UInt8 => Value.int IntKind.u8 (b.toNat : Int)) s.data.toList) = Lib.byteCells (s.data.toList.take dLen) := by
  rw [List.map_take.symm]
  rfl
 rw [hlen] at hst
 simp only [Nat.add_zero, Nat.zero_add, List.take_zero, List.nil_append] at hst
 cases hq : P.info? elem with
 | none => simp [hq] at hs
 | some i =>
  simp [Builtin.copy_, run_underlying hu, Builtin.lenOf, Builtin.firstCells, sizeOf, typeInfo, hq, hmin]
  rw [htk, hst]
  simp [Result.andThen]
theorem sizedL_short (l : List UInt8) (k : Nat) (h : k ≤ l.length) : sizedL l k = l.take k := by
 unfold sizedL
 rw [List.take_append, show k - l.length = 0 by omega]
 simp
theorem sizedL_len (l : List UInt8) (k : Nat) : (sizedL l k).length = k := by
 unfold sizedL
 rw [List.length_take, List.length_append, List.length_replicate]
 omega
theorem dropD_len : ∀ (ds : List Ds) (core fd : Int), (dropD ds core fd).length ≤ ds.length
 | [], _, _ => Nat.le_refl _
 | d :: ds, core, fd => by
  unfold dropD
  have := dropD_len ds core fd
  split <;> simp <;> omega
theorem piece_eq (d : ByteArray) (o k : Nat) (hd : d.size ≤ 140737488355328) (ho : o ≤ 256) (hk : k ≤ 256) : d.extract (min o d.size) (min (min o d.size + k) d.size) = txt ((d.data.toList.drop o).take k) := by
 have hl : d.data.toList.length = d.size := Array.length_toList
 apply ByteArray.ext
 apply Array.toList_inj.1
 rw [ByteArray.data_extract, Array.toList_extract]
 show _ = ((d.data.toList.drop o).take k)
 rw [List.extract_eq_take_drop]
 by_cases h : o ≤ d.size
 ·rw [Nat.min_eq_left h]
  by_cases h2 : o + k ≤ d.size
  ·rw [Nat.min_eq_left h2, show o + k - o = k by omega]
  ·rw [Nat.min_eq_right (by omega), List.take_of_length_le (by rw [List.length_drop]; omega), List.take_of_length_le (by rw [List.length_drop]; omega)]
 ·rw [Nat.min_eq_right (by omega), List.drop_of_length_le (by omega), List.drop_of_length_le (by omega)]
  simp only [List.take_nil]
theorem size_byte (w : World) : (Go.sizeOf 5).run Tryz.prog w = .ok 1 w := by
 obtain ⟨ib, hib, hz0, hz1, hz2⟩ := info_parts infoByte
 simp [Go.sizeOf, typeInfo, hib, hz1]
theorem size_setC (g : Nat) : ∀ (vs : List Value) (o : Nat) (w : World), (w.setCells g o vs).heap.size = w.heap.size
 | [], _, _ => rfl
 | v :: r, o, w => by rw [World.setCells, size_setC g r]; simp [World.setCell]
theorem lay_get (l d : List UInt8) (o j : Nat) (ho : o + d.length ≤ l.length) : (l.take o ++ d ++ l.drop (o + d.length))[j]? = if o ≤ j ∧ j < o + d.length then d[j - o]? else l[j]? := by
 have htl : (l.take o).length = o := by rw [List.length_take]; omega
 rw [List.append_assoc]
 by_cases h1 : j < o
 ·rw [if_neg (by omega), List.getElem?_append_left (by omega), List.getElem?_take, if_pos h1]
 ·rw [List.getElem?_append_right (by omega), htl]
  by_cases h2 : j < o + d.length
  ·rw [if_pos (by omega), List.getElem?_append_left (by omega)]
  ·rw [if_neg (by omega), List.getElem?_append_right (by omega), List.getElem?_drop]
   congr 1
   omega
theorem byterow_lay {w : World} {g : Nat} {l : List UInt8} (h : Cv.ByteRow w g l) (o : Nat) (d : List UInt8) (ho : o + d.length ≤ l.length) :
  Cv.ByteRow (w.setCells g o (d.map fun x => Value.int .u8 (x.toNat : Int))) g (l.take o ++ d ++ l.drop (o + d.length)) := by
 have hlen : (l.take o ++ d ++ l.drop (o + d.length)).length = l.length := by
  rw [List.length_append, List.length_append, List.length_take, List.length_drop]
  omega
 have hml : (d.map fun x => Value.int .u8 (x.toNat : Int)).length = d.length := List.length_map _
 refine ⟨by rw [size_setC]; exact h.1, fun j hj => ⟨?_, ?_⟩⟩
 ·rw [hlen] at hj
  rw [List.getD_eq_getElem?_getD, lay_get l d o j ho]
  by_cases h1 : o ≤ j ∧ j < o + d.length
  ·have h2 := World.cell?_setCells_in g (d.map fun x => Value.int .u8 (x.toNat : Int)) o w (fun k hk => by
    rw [hml] at hk
    rw [(h.2 (o + k) (by omega)).1]
    rfl) (j - o) (by rw [hml]; omega)
   rw [show o + (j - o) = j by omega] at h2
   rw [h2, if_pos h1, List.getElem_map, List.getElem?_eq_getElem (show j - o < d.length by omega)]
   rfl
  ·rw [World.cell?_setCells_out g _ o w ⟨g, j, none⟩ (fun _ _ => by rw [hml]; show j < o ∨ _ ≤ j; omega), (h.2 j hj).1, if_neg h1, List.getD_eq_getElem?_getD]
 ·rw [World.frozen?_setCells]
  rw [hlen] at hj
  exact (h.2 j hj).2
end Go.Proofs.YtndcloohcfhejaaGreat
namespace Go.Proofs.YtndcloohcfhejaaGreat
def numsM (made : List Int) : List Ino → Int → Bool
 | [], _ => true
 | x :: xs, p => if x.num ≤ p ∨ givenV made x.num = false then false else numsM made xs x.num
def shapesM (is : List Ino) : List Ino → Bool
 | [] => true
 | x :: xs => if x.dir = true then (if x.data.size ≠ 0 ∨ entsV is x.ents = false then false else shapesM is xs) else if x.ents ≠ [] ∨ 256 < x.data.size then false else shapesM is xs
def finalR (s : St) : List Ino → Bool → List Bool → Bool
 | [], _, _ => true
 | x :: xs, first, f => if (first = false ∧ x.dir = true ∧ (linkI s.inos x.num ≠ 1 ∨ f.headD false = false)) ∨ (x.dir = false ∧ f.headD false = false ∧ openB s.opn x.num = false) then false else finalR s xs false f.tail
def finalM (s : St) : List Ino → Bool → List Nat → List Bool → Bool
 | [], _, _, _ => true
 | x :: xs, first, many, f =>
  if first = true then finalM s xs false many.tail f.tail
  else if x.dir = true ∧ (many.headD 0 ≠ 1 ∨ f.headD false = false) then false
  else if x.dir = false ∧ f.headD false = false ∧ (0 < many.headD 0 ∨ openB s.opn x.num = false) then false
  else finalM s xs false many.tail f.tail
def numsP (made : List Int) (p : Option Int) (xs : List Ino) : Bool :=
 match p, xs with
 | some q, xs => numsM made xs q
 | none, [] => true
 | none, x :: xs => numsM made xs x.num
theorem numsP_cons (made : List Int) (p : Option Int) (x : Ino) (xs : List Ino) : numsP made p (x :: xs) = (!badNum made p x.num && numsM made xs x.num) := by
 cases p with
 | none => simp [numsP, badNum]
 | some q =>
  simp only [numsP, numsM, badNum]
  by_cases h1 : x.num ≤ q <;> cases h2 : givenV made x.num <;> simp [h1]
theorem inosG_split (s : St) : ∀ (xs : List Ino) (p : Option Int) (f : List Bool), inosG s xs p f = (numsP s.made p xs && (shapesM s.inos xs && finalR s xs p.isNone f))
 | [], none, f => rfl
 | [], some q, f => rfl
 | x :: xs, p, f => by
  unfold inosG shapesM finalR
  rw [inosG_split s xs (some x.num) f.tail, numsP_cons]
  simp only [numsP, Option.isNone_some]
  unfold inoBad inoLost
  generalize p.isNone = first
  generalize badNum s.made p x.num = A
  generalize numsM s.made xs x.num = N
  generalize shapesM s.inos xs = S
  generalize finalR s xs false f.tail = F
  have hE : x.ents = [] → entsV s.inos x.ents = true := fun h => by rw [h]; rfl
  generalize entsV s.inos x.ents = E at hE ⊢
  generalize f.headD false = H
  generalize openB s.opn x.num = O
  cases hd : x.dir
  ·by_cases h1 : x.ents = []
   ·have := hE h1
    subst this
    by_cases h2 : 256 < x.data.size <;> cases A <;> cases N <;> cases S <;> cases F <;> cases H <;> cases O <;> simp [h1, h2]
   ·have h3 : x.ents.isEmpty = false := by simpa using h1
    cases A <;> cases N <;> cases S <;> simp [h1, h3]
  ·by_cases h1 : x.data.size = 0
   ·by_cases h2 : linkI s.inos x.num = 1 <;> cases A <;> cases N <;> cases S <;> cases F <;> cases H <;> cases E <;> cases first <;> simp [h1, h2]
   ·cases A <;> cases N <;> cases S <;> simp [h1]
theorem finalR_iff (s : St) : ∀ (xs : List Ino) (first : Bool) (f : List Bool), finalR s xs first f = true ↔ ∀ (i : Nat) (x : Ino), xs[i]? = some x → ((first = false ∨ 0 < i) → x.dir = true → linkI s.inos x.num = 1 ∧ f.getD i false = true) ∧ (x.dir = false → f.getD i false = true ∨ openB s.opn x.num = true)
 | [], first, f => by simp [finalR]
 | x :: xs, first, f => by
  unfold finalR
  have hh : f.headD false = f.getD 0 false := by cases f <;> rfl
  have ht : ∀ i, f.tail.getD i false = f.getD (i + 1) false := fun i => by cases f <;> rfl
  constructor
  ·intro h
   split at h
   ·cases h
   ·rename_i hc
    have ih := (finalR_iff s xs false f.tail).1 h
    intro i y hy
    cases i with
    | zero =>
     have e : x = y := by simpa using hy
     subst e
     rw [← hh]
     refine ⟨fun h1 h2 => ?_, fun h2 => ?_⟩
     ·have hf : first = false := by rcases h1 with h1 | h1; exact h1; omega
      refine ⟨?_, ?_⟩
      ·apply Classical.byContradiction
       intro hn
       exact hc (.inl ⟨hf, h2, .inl hn⟩)
      ·cases hb : f.headD false
       ·exact absurd (.inl ⟨hf, h2, .inr hb⟩) hc
       ·rfl
     ·cases hb : f.headD false
      ·right
       cases ho : openB s.opn x.num
       ·exact absurd (.inr ⟨h2, hb, ho⟩) hc
       ·rfl
      ·exact .inl rfl
    | succ i =>
     have := ih i y (by simpa using hy)
     rw [ht] at this
     exact ⟨fun _ => this.1 (.inl rfl), this.2⟩
  ·intro h
   rw [if_neg, finalR_iff s xs false f.tail]
   ·intro i y hy
    have := h (i + 1) y (by simpa using hy)
    rw [ht]
    exact ⟨fun _ => this.1 (.inr (by omega)), this.2⟩
   ·have h0 := h 0 x rfl
    rw [← hh] at h0
    rintro (⟨h1, h2, h3⟩ | ⟨h1, h2, h3⟩)
    ·have := h0.1 (.inl h1) h2
     rcases h3 with h3 | h3
     ·exact h3 this.1
     ·rw [this.2] at h3; cases h3
    ·rcases h0.2 h1 with h4 | h4
     ·rw [h2] at h4; cases h4
     ·rw [h3] at h4; cases h4
theorem finalM_iff (s : St) : ∀ (xs : List Ino) (first : Bool) (many : List Nat) (f : List Bool), finalM s xs first many f = true ↔ ∀ (i : Nat) (x : Ino), xs[i]? = some x → (first = false ∨ 0 < i) → (x.dir = true → many.getD i 0 = 1 ∧ f.getD i false = true) ∧ (x.dir = false → f.getD i false = true ∨ (many.getD i 0 = 0 ∧ openB s.opn x.num = true))
 | [], first, many, f => by simp [finalM]
 | x :: xs, first, many, f => by
  unfold finalM
  have hh : f.headD false = f.getD 0 false := by cases f <;> rfl
  have ht : ∀ i, f.tail.getD i false = f.getD (i + 1) false := fun i => by cases f <;> rfl
  have mh : many.headD 0 = many.getD 0 0 := by cases many <;> rfl
  have mt : ∀ i, many.tail.getD i 0 = many.getD (i + 1) 0 := fun i => by cases many <;> rfl
  rw [hh, mh]
  have ih := finalM_iff s xs false many.tail f.tail
  have tail_ : (∀ (i : Nat) (x : Ino), xs[i]? = some x → (false = false ∨ 0 < i) → (x.dir = true → many.tail.getD i 0 = 1 ∧ f.tail.getD i false = true) ∧ (x.dir = false → f.tail.getD i false = true ∨ (many.tail.getD i 0 = 0 ∧ openB s.opn x.num = true))) ↔
    (∀ (i : Nat) (y : Ino), xs[i]? = some y → (y.dir = true → many.getD (i + 1) 0 = 1 ∧ f.getD (i + 1) false = true) ∧ (y.dir = false → f.getD (i + 1) false = true ∨ (many.getD (i + 1) 0 = 0 ∧ openB s.opn y.num = true))) := by
   constructor
   ·intro h i y hy
    have := h i y hy (.inl rfl)
    rwa [ht, mt] at this
   ·intro h i y hy _
    have := h i y hy
    rwa [ht, mt]
  rw [tail_] at ih
  have whole : (∀ (i : Nat) (y : Ino), (x :: xs)[i]? = some y → (first = false ∨ 0 < i) → (y.dir = true → many.getD i 0 = 1 ∧ f.getD i false = true) ∧ (y.dir = false → f.getD i false = true ∨ (many.getD i 0 = 0 ∧ openB s.opn y.num = true))) ↔
    (first = false → (x.dir = true → many.getD 0 0 = 1 ∧ f.getD 0 false = true) ∧ (x.dir = false → f.getD 0 false = true ∨ (many.getD 0 0 = 0 ∧ openB s.opn x.num = true))) ∧ (∀ (i : Nat) (y : Ino), xs[i]? = some y → (y.dir = true → many.getD (i + 1) 0 = 1 ∧ f.getD (i + 1) false = true) ∧ (y.dir = false → f.getD (i + 1) false = true ∨ (many.getD (i + 1) 0 = 0 ∧ openB s.opn y.num = true))) := by
   constructor
   ·intro h
    exact ⟨fun h1 => h 0 x rfl (.inl h1), fun i y hy => h (i + 1) y (by simpa using hy) (.inr (by omega))⟩
   ·rintro ⟨h1, h2⟩ i y hy hq
    cases i with
    | zero =>
     have e : x = y := by simpa using hy
     subst e
     rcases hq with hq | hq
     ·exact h1 hq
     ·omega
    | succ i => exact h2 i y (by simpa using hy)
  rw [whole, ← ih]
  clear ih whole tail_ ht mt hh mh
  generalize finalM s xs false many.tail f.tail = F
  generalize many.getD 0 0 = m
  generalize f.getD 0 false = b
  generalize openB s.opn x.num = o
  by_cases h1 : m = 1
  ·cases first <;> cases x.dir <;> cases b <;> cases o <;> simp [h1]
  ·by_cases h0 : m = 0
   ·cases first <;> cases x.dir <;> cases b <;> cases o <;> simp [h0]
   ·have : 0 < m := by omega
    cases first <;> cases x.dir <;> cases b <;> cases o <;> simp [h1, h0, this]
theorem linkE_pos : ∀ (es : List En) (num : Int), 0 < linkE es num → ∃ e ∈ es, e.num = num
 | [], num, h => absurd h (by simp [linkE])
 | e :: es, num, h => by
  unfold linkE at h
  by_cases hq : e.num = num
  ·exact ⟨e, by simp, hq⟩
  ·rw [if_neg hq] at h
   obtain ⟨y, hy, hn⟩ := linkE_pos es num (by omega)
   exact ⟨y, by simp [hy], hn⟩
theorem linkI_pos : ∀ (is : List Ino) (num : Int), 0 < linkI is num → ∃ (k : Nat) (y : Ino) (e : En), is[k]? = some y ∧ y.dir = true ∧ e ∈ y.ents ∧ e.num = num
 | [], num, h => absurd h (by simp [linkI])
 | x :: xs, num, h => by
  unfold linkI at h
  by_cases hd : x.dir = true ∧ 0 < linkE x.ents num
  ·obtain ⟨e, he, hn⟩ := linkE_pos _ _ hd.2
   exact ⟨0, x, e, rfl, hd.1, he, hn⟩
  ·have : 0 < linkI xs num := by
    split at h
    ·rename_i h1
     have : ¬ 0 < linkE x.ents num := fun h2 => hd ⟨h1, h2⟩
     omega
    ·omega
   obtain ⟨k, y, e, h1, h2⟩ := linkI_pos xs num this
   exact ⟨k + 1, y, e, by simpa using h1, h2⟩
theorem nums_pair : ∀ (made : List Int) (xs : List Ino) (p : Int), numsM made xs p = true → (∀ x ∈ xs, p < x.num) ∧ xs.Pairwise (fun a b => a.num < b.num) ∧ ∀ x ∈ xs, givenV made x.num = true
 | made, [], p, h => by simp
 | made, x :: xs, p, h => by
  unfold numsM at h
  split at h
  ·cases h
  ·rename_i hc
   obtain ⟨h1, h2, h3⟩ := nums_pair made xs x.num h
   have hg : givenV made x.num = true := by cases hg : givenV made x.num; exact absurd (.inr hg) hc; rfl
   have hp : p < x.num := by
    rcases Int.lt_or_le p x.num with h | h
    ·exact h
    ·exact absurd (.inl h) hc
   refine ⟨?_, List.pairwise_cons.2 ⟨h1, h2⟩, ?_⟩
   ·intro y hy
    rcases List.mem_cons.1 hy with rfl | hy
    ·exact hp
    ·have := h1 y hy; omega
   ·intro y hy
    rcases List.mem_cons.1 hy with rfl | hy
    ·exact hg
    ·exact h3 y hy
theorem numsP_pair {made : List Int} {is : List Ino} (h : numsP made none is = true) : is.Pairwise (fun a b => a.num < b.num) := by
 cases is with
 | nil => exact List.Pairwise.nil
 | cons x xs =>
  obtain ⟨h1, h2, _⟩ := nums_pair made xs x.num h
  exact List.pairwise_cons.2 ⟨h1, h2⟩
theorem atV_of {is : List Ino} (hp : is.Pairwise (fun a b => a.num < b.num)) {i : Nat} {x : Ino} (hx : is[i]? = some x) : atV is x.num = (i : Int) := by
 obtain ⟨hi, hxe⟩ := List.getElem?_eq_some_iff.1 hx
 rcases atV_cases is x.num with ⟨_, h2⟩ | ⟨k, y, h1, h2, h3, h4⟩
 ·exact absurd rfl (h2 x (List.mem_of_getElem? hx))
 ·rw [h1]
  obtain ⟨hk, hye⟩ := List.getElem?_eq_some_iff.1 h2
  rcases Nat.lt_trichotomy k i with h | h | h
  ·have := List.pairwise_iff_getElem.1 hp k i hk hi h
   rw [hye, hxe] at this
   omega
  ·rw [h]
  ·exact absurd rfl (h4 i x h hx)
theorem given_le {made : List Int} (hm : madeG made = true) {n : Int} (h : givenV made n = true) : n ≤ 257 := by
 have all : ∀ (l : List Int), madeG l = true → ∀ k, l.getD k 0 ≤ 32 := by
  intro l
  induction l with
  | nil => intro _ k; simp
  | cons x l ih =>
   intro h k
   unfold madeG at h
   split at h
   ·cases h
   ·rename_i hc
    cases k with
    | zero => simp; omega
    | succ k => simpa using ih h k
 unfold givenV at h
 split at h
 ·cases h
 ·rw [Bool.and_eq_true, decide_eq_true_eq, decide_eq_true_eq] at h
  have := all made hm ((n - 2) % 8).toNat
  omega
theorem nums_len : ∀ (made : List Int) (xs : List Ino) (p : Int), madeG made = true → numsM made xs p = true → p ≤ 257 → (xs.length : Int) + p ≤ 257
 | made, [], p, _, _, hp => by simpa using hp
 | made, x :: xs, p, hm, h, hp => by
  obtain ⟨h1, _, h3⟩ := nums_pair made (x :: xs) p h
  unfold numsM at h
  split at h
  ·cases h
  ·have := nums_len made xs x.num hm h (given_le hm (h3 x (by simp)))
   have := h1 x (by simp)
   rw [List.length_cons]
   omega
def manyV (is : List Ino) : List Nat := is.map fun x => linkI is x.num
theorem final_same (s : St) (h0 : rootB s.inos = true) (hn : numsP s.made none s.inos = true) : finalR s s.inos true (reachV s.inos) = finalM s s.inos true (manyV s.inos) (reachV s.inos) := by
 have hp := numsP_pair hn
 have hroot : ∃ x xs, s.inos = x :: xs ∧ x.num = 1 ∧ x.dir = true := by
  cases e : s.inos with
  | nil => rw [e] at h0; cases h0
  | cons x xs =>
   rw [e] at h0
   unfold rootB at h0
   rw [Bool.and_eq_true, decide_eq_true_eq] at h0
   exact ⟨x, xs, rfl, h0⟩
 obtain ⟨r, rs, he, hr1, hrd⟩ := hroot
 have hmany : ∀ (i : Nat) (x : Ino), s.inos[i]? = some x → (manyV s.inos).getD i 0 = linkI s.inos x.num := by
  intro i x hx
  unfold manyV
  rw [List.getD_eq_getElem?_getD, List.getElem?_map, hx]
  rfl
 apply Bool.eq_iff_iff.2
 rw [finalR_iff, finalM_iff]
 constructor
 ·intro h i x hx hq
  have hi := h i x hx
  rw [hmany i x hx]
  refine ⟨fun hd => hi.1 hq hd, fun hd => ?_⟩
  cases hb : (reachV s.inos).getD i false
  ·right
   rcases hi.2 hd with h1 | h1
   ·rw [hb] at h1; cases h1
   ·refine ⟨?_, h1⟩
    apply Classical.byContradiction
    intro hl
    obtain ⟨k, y, e, hy, hyd, hey, hen⟩ := linkI_pos s.inos x.num (by omega)
    have hry : Reach s.inos k := by
     rcases Nat.eq_zero_or_pos k with h2 | h2
     ·subst h2
      have : r = y := by rw [he] at hy; simpa using hy
      subst this
      refine .root 0 ?_
      rw [← hr1]
      exact atV_of hp hy
     ·exact (reachV_iff _ _).1 ((h k y hy).1 (.inr h2) hyd).2
    have hrx : Reach s.inos i := .step k i y e hry hy hyd hey (by rw [hen]; exact atV_of hp hx)
    rw [(reachV_iff _ _).2 hrx] at hb
    cases hb
  ·exact .inl rfl
 ·intro h i x hx
  refine ⟨fun hq hd => ?_, fun hd => ?_⟩
  ·have := (h i x hx (by rcases hq with h1 | h1; cases h1; exact .inr h1)).1 hd
   rwa [hmany i x hx] at this
  ·have hi : 0 < i := by
    rcases Nat.eq_zero_or_pos i with h2 | h2
    ·subst h2
     have : r = x := by rw [he] at hx; simpa using hx
     subst this
     rw [hd] at hrd
     cases hrd
    ·exact h2
   rcases (h i x hx (.inr hi)).2 hd with h1 | h1
   ·exact .inl h1
   ·exact .inr h1.2
theorem mayV_eq (s : St) : mayV s = ((decide (1 ≤ s.made.length) && decide (s.made.length ≤ 8) && madeG s.made) && (rootB s.inos && numsP s.made none s.inos && shapesM s.inos s.inos) && opensV s && finalM s s.inos true (manyV s.inos) (reachV s.inos)) := by
 unfold mayV
 rw [inosG_split]
 simp only [Option.isNone_none]
 cases h0 : rootB s.inos
 ·simp
 cases hn : numsP s.made none s.inos
 ·simp
 rw [final_same s h0 hn]
 cases hm : madeG s.made
 ·simp
 have hlen : s.inos.length ≤ 257 := by
  cases e : s.inos with
  | nil => simp
  | cons x xs =>
   rw [e] at h0 hn
   unfold rootB at h0
   rw [Bool.and_eq_true, decide_eq_true_eq] at h0
   have := nums_len s.made xs x.num hm hn (by omega)
   rw [List.length_cons]
   omega
 generalize finalM s s.inos true (manyV s.inos) (reachV s.inos) = F
 generalize shapesM s.inos s.inos = S
 generalize opensV s = O
 cases F <;> cases S <;> cases O <;> simp [hlen]
end Go.Proofs.YtndcloohcfhejaaGreat
