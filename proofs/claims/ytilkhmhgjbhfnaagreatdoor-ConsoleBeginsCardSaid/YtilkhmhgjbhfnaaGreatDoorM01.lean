/- Parts of the proof, side by side: FsRead, Ext, FsRead2, StRow, FsReached, PlainPath, PlainPath2, FsPlain2, NameBase, Rune1, RefCheck. -/
import Derived.Test.YtilkhmhgjbhfnaaGreatDoorM00
import Derived.Lib.Hide
import Derived.WalkKit
import Derived.BigQuiet
import Derived.Deep.QuietTactic
import Derived.StillTailTactics
import Derived.Laws.AppendOwnNone
import Derived.Laws.AppendOwn
import Derived.Deep.OwnRows
import Derived.Deep.LoopGhost
import Derived.Test.YtilkhmhgjbhfnaaGreatDoorRows
import Derived.WalkSpells
import Derived.WalkLawsBesides
import Derived.Laws.RangeAny
set_option linter.unusedVariables false
set_option linter.unusedSimpArgs false
namespace Go.Proofs.YtilkhmhgjbhfnaaGreatDoor
open Go.RowKit
theorem box_st (w : World) (A : Option Addr) (n c : Nat) (B : Option Addr) (m d : Nat) (D : Option Addr) (k e : Nat) : ∃ W, w.alloc (.cells #[.slice A n c, .slice B m d, .slice D k e] 31) = W ∧ W.cell? ⟨w.heap.size, 0, .none⟩ = some (.slice A n c) ∧ W.cell? ⟨w.heap.size, 1, .none⟩ = some (.slice B m d) ∧ W.cell? ⟨w.heap.size, 2, .none⟩ = some (.slice D k e) ∧ Below w.heap.size w W ∧ w.heap.size < W.heap.size := by
 refine ⟨_, rfl, ?_, ?_, ?_, (Below.refl _ _).alloc (Nat.le_refl _) _, by simp⟩
 ·exact (World.cell?_alloc_mark w _ _ (0, 0) _).trans rfl
 ·exact (World.cell?_alloc_mark w _ _ (0, 0) _).trans rfl
 ·exact (World.cell?_alloc_mark w _ _ (0, 0) _).trans rfl
structure Ext (W : World) where
 w : World
 bel : Below W.heap.size W w
instance extSome (W : World) : Nonempty (Ext W) := ⟨⟨W, Below.refl _ _⟩⟩
theorem Ext.cell {W : World} (x : Ext W) (p : Addr) (h : (W.cell? p).isSome = true) : x.w.cell? p = W.cell? p := by
 obtain ⟨u, hu⟩ := Option.isSome_iff_exists.1 h
 exact x.bel.cell (World.block_lt_of_cell? W p hu)
theorem wp_region_ext {P : Program} {id : Nat} {Q : Exit → Act → World → Prop} {a : Act} {w : World} {l : List Oper} (hm : P.follows .mixedOrders = true) (hB : Region.lexB .any l.toArray = true)
  (h : wpQuiet P l.toArray (fun w' => ∃ x : Ext w, w' = x.w) (fun a' => ∀ w', (∃ x : Ext w, w' = x.w) → Q .normal a' w') l a) : (Code.region id l.toArray true).wp P Q a w :=
 wp_region_quiet (C := fun w' => ∃ x : Ext w, w' = x.w) hm hB ⟨⟨w.drew, Cv.drewN_below (Below.refl _ _) 1⟩, rfl⟩ (by simpa using h)
theorem wre {P : Program} {id : Nat} {Q : Exit → Act → World → Prop} {a : Act} {w : World} {l : List Oper}
  (h : wpQuiet P l.toArray (fun w' => ∃ x : Ext w, w' = x.w) (fun a' => ∀ w', (∃ x : Ext w, w' = x.w) → Q .normal a' w') l a) (hm : P.follows .mixedOrders = true := by kernel_rfl) (hB : Region.lexB .any l.toArray = true := by kernel_rfl) : (Code.region id l.toArray true).wp P Q a w :=
 wp_region_ext hm hB h
theorem Calls.ext_of {P : Program} {f : FuncId} {args : Array Value} {W : World} {x : Ext W} {v : Value}
  (h : Calls P f args x.w fun e w' => e = .returned v ∧ Below x.w.heap.size x.w w') : Calls P f args x.w fun e w'' => e = .returned v ∧ ∃ y : Ext W, w'' = y.w :=
 h.mono fun _ w' ⟨he, hb⟩ => ⟨he, ⟨w', Cv.next x.bel hb⟩, rfl⟩
theorem Calls.ext_of_same {P : Program} {f : FuncId} {args : Array Value} {W : World} {x : Ext W} {v : Value}
  (h : Calls P f args x.w fun e w' => e = .returned v ∧ x.w = w') : Calls P f args x.w fun e w'' => e = .returned v ∧ ∃ y : Ext W, w'' = y.w :=
 h.mono fun _ w' ⟨he, hb⟩ => ⟨he, x, hb.symm⟩
theorem still_of_quiet {P : Program} {ops : Array Oper} {w : World} {Q : Act → Prop} : ∀ (l : List Oper) (a : Act), wpQuiet P ops (fun w' => w' = w) Q l a → wpStill P ops w Q l a
 | [], a, h => h
 | o :: rest, a, h => by
  unfold wpQuiet at h
  unfold wpStill
  split at h
  ·rename_i hw
   rw [if_pos hw]
   obtain ⟨v, h1, h2⟩ := h
   have h3 := h1 w rfl
   unfold Oper.quietAt at h3
   unfold Oper.still
   generalize (execOp a.eval o).run P w = r at h3 ⊢
   have h4 := still_of_quiet rest _ h2
   cases r with
   | ok n w' =>
    cases n <;> simp only [Oper.quietUpon] at h3
    case value u =>
     obtain ⟨e1, e2⟩ := h3
     subst e1 e2
     exact ⟨rfl, h4⟩
    case skip =>
     obtain ⟨e1, e2⟩ := h3
     subst e1 e2
     exact ⟨rfl, h4⟩
    case enter f args =>
     obtain ⟨e1, hc⟩ := h3
     subst e1
     exact ⟨rfl, v, hc, h4⟩
   | halt x w' => simp only [Oper.quietUpon] at h3
  ·rename_i hw
   rw [if_neg hw]
   exact still_of_quiet rest _ h
theorem wp_region_quiet_tail {P : Program} {id : Nat} {Q : Exit → Act → World → Prop} {a : Act} {w : World} {l : List Oper} (n : Nat) (hm : P.follows .mixedOrders = true) (hB : Region.lexTailB .any l.toArray n = true)
  (h : wpQuiet P l.toArray (fun w' => w' = w.drew) (fun a' => wpList P l.toArray Q (l.drop n) a' w.drew) (l.take n) a) : (Code.region id l.toArray true).wp P Q a w :=
 wp_region_still_tail n hm hB (still_of_quiet _ _ h)
theorem ba_list_ne {a b : ByteArray} (h : a ≠ b) : (a.toList == b.toList) = false := by
 rw [beq_eq_false_iff_ne, ByteArray.toList_eq, ByteArray.toList_eq]
 intro e
 apply h
 cases a with | mk da => cases b with | mk db => exact congrArg ByteArray.mk (Array.toList_inj.1 e)
theorem ba_list_eq {a b : ByteArray} (h : a = b) : (a.toList == b.toList) = true := by rw [h]; exact beq_self_eq_true _
theorem linkE_len : ∀ (es : List En) (num : Int), linkE es num ≤ es.length
 | [], _ => Nat.le_refl _
 | e :: es, num => by
  unfold linkE
  have := linkE_len es num
  rw [List.length_cons]
  split <;> omega
theorem linkI_len : ∀ (is : List Ino) (num : Int), linkI is num ≤ bulkE is
 | [], _ => Nat.le_refl _
 | x :: xs, num => by
  unfold linkI
  have := linkI_len xs num
  have h2 := linkE_len x.ents num
  show _ ≤ x.ents.length + bulkE xs
  split <;> omega
theorem flat_get {α : Type} (f : α → List Value) (k : Nat) (hk : ∀ x, (f x).length = k) : ∀ (l : List α) (j : Nat) (x : α), l[j]? = some x → ∀ i, i < k → (l.flatMap f)[j * k + i]? = (f x)[i]?
 | [], j, x, h, i, hi => by simp at h
 | y :: l, 0, x, h, i, hi => by
  have : y = x := by simpa using h
  subst this
  rw [List.flatMap_cons, List.getElem?_append_left (by rw [hk]; omega)]
  simp
 | y :: l, j + 1, x, h, i, hi => by
  have e : (j + 1) * k = k + j * k := by rw [Nat.add_mul]; omega
  rw [List.flatMap_cons, List.getElem?_append_right (by rw [hk]; omega), hk]
  have h2 : l[j]? = some x := by simpa using h
  rw [← flat_get f k hk l j x h2 i hi]
  congr 1
  omega
theorem flat_len {α : Type} (f : α → List Value) (k : Nat) (hk : ∀ x, (f x).length = k) : ∀ (l : List α), (l.flatMap f).length = l.length * k
 | [] => by simp
 | y :: l => by rw [List.flatMap_cons, List.length_append, hk, flat_len f k hk l, List.length_cons, Nat.add_mul]; omega
theorem row_any {w : World} {B : Nat} {e : TypeId} {size : Nat} {v : Value} {n : Nat} {xs : List Value} (h : w.ownsRow B e size v n xs) (hs : 0 < size) :
  ∃ A c, v = .slice A n c ∧ n ≤ c ∧ (A = none → n = 0 ∧ c = 0) ∧ (0 < n → ∃ g, A = some ⟨g, 0, none⟩ ∧ g < w.heap.size ∧ Mine (some B) e w g ∧ ∀ j, j < n * size → w.cell? ⟨g, j, none⟩ = xs[j]?) := by
 have h0 := h
 rcases h.2 with ⟨rfl, rfl⟩ | ⟨g, cap, cur, rfl, hb, hg, hnc, hcm, hcs, htk⟩
 ·exact ⟨none, 0, rfl, Nat.le_refl _, fun _ => ⟨rfl, rfl⟩, fun h => absurd h (by omega)⟩
 ·refine ⟨some ⟨g, 0, none⟩, cap, rfl, hnc, fun e => (by cases e), fun hn => ⟨g, rfl, (Array.getElem?_eq_some_iff.1 hg).1, fun C hC => ?_, fun j hj => h0.cellAt j hj⟩⟩
  cases hC
  exact ⟨hb, cur, hg⟩
def enV (e : En) : List Value := [.string e.name, .int .i64 e.num]
def dsV (d : Ds) : List Value := [.int .i64 d.core, .int .i64 d.fd, .int .i64 d.num]
def inoV (z : Ino × Value) : List Value := [.int .i64 z.1.num, .bool z.1.dir, z.2, .string z.1.data]
def FlagsAt (w : World) (G n : Nat) (f : List Bool) : Prop := ∃ cur : Array Value, w.heap[G]? = some (.cells cur 4 (0, 0)) ∧ ∀ j, j < n → cur[j]? = some (.bool (f.getD j false))
theorem FlagsAt.lt {w : World} {G n : Nat} {f : List Bool} (h : FlagsAt w G n f) : G < w.heap.size := by
 obtain ⟨cur, hh, _⟩ := h
 exact (Array.getElem?_eq_some_iff.1 hh).1
theorem FlagsAt.same {w w' : World} {G n : Nat} {f : List Bool} (h : FlagsAt w G n f) (hb : w'.heap[G]? = w.heap[G]?) : FlagsAt w' G n f := by
 obtain ⟨cur, hh, hc⟩ := h
 exact ⟨cur, hb.trans hh, hc⟩
theorem FlagsAt.below {w w' : World} {G n : Nat} {f : List Bool} (h : FlagsAt w G n f) (hb : Below w.heap.size w w') : FlagsAt w' G n f := h.same (hb.block G h.lt)
theorem FlagsAt.get {w : World} {G n : Nat} {f : List Bool} (h : FlagsAt w G n f) (j : Nat) (hj : j < n) : w.cell? ⟨G, j, .none⟩ = some (.bool (f.getD j false)) ∧ w.frozen? ⟨G, j, .none⟩ = false := by
 obtain ⟨cur, hh, hc⟩ := h
 exact ⟨by rw [cell_of_row w G j cur _ (0, 0) hh]; exact hc j hj, frozen_of_row w G j cur _ hh⟩
theorem FlagsAt.set {w : World} {G n : Nat} {f : List Bool} (h : FlagsAt w G n f) (b : Nat) (hb : b < n) (hf : b < f.length) : FlagsAt (w.setCell ⟨G, b, .none⟩ (.bool true)) G n (f.set b true) := by
 obtain ⟨cur, hh, hc⟩ := h
 refine ⟨_, heap_setCell_same w G b cur _ _ hh, fun j hj => ?_⟩
 rw [Array.getElem?_setIfInBounds, getD_set f b j hf]
 by_cases e : b = j
 ·subst e
  have : b < cur.size := (Array.getElem?_eq_some_iff.1 (hc b hb)).1
  simp [this]
 ·rw [if_neg e, if_neg (fun e2 => e e2.symm)]
  exact hc j hj
theorem infoFlag : (Tryz.prog.info? 4).map (fun i => (i.zero, i.size, i.bytes)) = some (some (.bool false), 1, 1) := by kernel_rfl
theorem infoNum : (Tryz.prog.info? 3).map (fun i => (i.zero, i.size, i.bytes)) = some (some (.int .i64 0), 1, 8) := by kernel_rfl
theorem new_one (w : World) (v : Value) (t : TypeId) : ∀ j u, ([v] : List Value)[j]? = some u → (w.alloc (.cells #[v] t)).cell? ((⟨w.heap.size, 0, .none⟩ : Addr).add j) = some u := by
 intro j u hu
 have e : (⟨w.heap.size, 0, .none⟩ : Addr).add j = ⟨w.heap.size, j, .none⟩ := by unfold Addr.add; split <;> simp_all
 rw [e]
 exact (World.cell?_alloc_mark w _ _ (0, 0) _).trans (by simpa using hu)
theorem row_below {B : Nat} {e : TypeId} {k : Nat} {w w' : World} {v : Value} {n : Nat} {xs : List Value} (h : w.ownsRow B e k v n xs) (hb : Below w.heap.size w w') : w'.ownsRow B e k v n xs := by
 obtain ⟨hl, h⟩ := h
 refine ⟨hl, ?_⟩
 rcases h with h | ⟨g, cap, cur, hv, hB, hg, r⟩
 ·exact Or.inl h
 ·exact Or.inr ⟨g, cap, cur, hv, hB, (hb.block g (Array.getElem?_eq_some_iff.1 hg).1).trans hg, r⟩
end Go.Proofs.YtilkhmhgjbhfnaaGreatDoor
namespace Go.Proofs.YtilkhmhgjbhfnaaGreatDoor
theorem checkL_cases (l : List UInt8) : checkL l = 0 ∨ checkL l = 800 ∨ checkL l = 801 := by
 unfold checkL
 split
 ·exact Or.inr (Or.inr rfl)
 ·split
  ·exact Or.inr (Or.inl rfl)
  ·split
   ·exact Or.inr (Or.inl rfl)
   ·exact Or.inl rfl
def scanP : List UInt8 → List UInt8 → List (List UInt8) → List (List UInt8) × Nat
 | [], _, out => if 4 < out.length then ([], 1102) else (out, 0)
 | b :: r, cur, out => if b = 47 then (if checkL cur = 0 then scanP r [] (out ++ [cur]) else if checkL cur = 801 then ([], 1101) else ([], 1100)) else scanP r (cur ++ [b]) out
def parseL (l : List UInt8) : List (List UInt8) × Nat :=
 if 64 < l.length then ([], 1101) else if ¬ l.head? = some 47 then ([], 1100) else if l.length = 1 then ([], 0) else scanP (l.drop 1 ++ [47]) [] []
theorem scanP_nil (cur : List UInt8) (out : List (List UInt8)) : scanP [] cur out = if 4 < out.length then ([], 1102) else (out, 0) := rfl
theorem scanP_other (b : UInt8) (r cur : List UInt8) (out : List (List UInt8)) (h : ¬ b = 47) : scanP (b :: r) cur out = scanP r (cur ++ [b]) out := by
 show (if b = 47 then _ else _) = _
 rw [if_neg h]
theorem scanP_ok (r cur : List UInt8) (out : List (List UInt8)) (h : checkL cur = 0) : scanP (47 :: r) cur out = scanP r [] (out ++ [cur]) := by
 show (if (47 : UInt8) = 47 then _ else _) = _
 rw [if_pos rfl, if_pos h]
theorem scanP_long (r cur : List UInt8) (out : List (List UInt8)) (h : checkL cur = 801) : scanP (47 :: r) cur out = ([], 1101) := by
 show (if (47 : UInt8) = 47 then _ else _) = _
 rw [if_pos rfl, if_neg (by omega), if_pos h]
theorem scanP_form (r cur : List UInt8) (out : List (List UInt8)) (h : checkL cur = 800) : scanP (47 :: r) cur out = ([], 1100) := by
 show (if (47 : UInt8) = 47 then _ else _) = _
 rw [if_pos rfl, if_neg (by omega), if_neg (by omega)]
def piece (l : List UInt8) (i j : Nat) : List UInt8 := (l.take j).drop i
theorem piece_self (l : List UInt8) (i : Nat) : piece l i i = [] := by
 unfold piece
 exact List.drop_eq_nil_of_le (by rw [List.length_take]; omega)
theorem extract_piece (s : ByteArray) (i j : Nat) : s.extract i j = ⟨(piece s.data.toList i j).toArray⟩ := by
 apply ByteArray.ext
 apply Array.ext'
 simp [piece, List.extract_eq_take_drop, List.drop_take]
theorem drop_out (l : List UInt8) (j : Nat) (h : j = l.length + 1) : (l ++ [47]).drop j = [] := by
 subst h
 simp
theorem path_head (s : ByteArray) : s.data.toList.head? = some 47 ↔ ∃ h : 0 < s.size, s[0] = 47 := by
 constructor
 ·intro h
  have hl : 0 < s.data.toList.length := by
   cases e : s.data.toList with
   | nil => rw [e] at h; simp at h
   | cons a l => simp
  have hs : 0 < s.size := hl
  refine ⟨hs, ?_⟩
  rw [List.head?_eq_getElem?, List.getElem?_eq_getElem hl] at h
  exact Option.some.inj h
 ·rintro ⟨h, e⟩
  have hl : 0 < s.data.toList.length := h
  rw [List.head?_eq_getElem?, List.getElem?_eq_getElem hl]
  exact congrArg some e
end Go.Proofs.YtilkhmhgjbhfnaaGreatDoor
namespace Go.Proofs.YtilkhmhgjbhfnaaGreatDoor
open Go.Lib (decodeN)
theorem decodeN_slash (n b0 b1 b2 b3 : Nat) (h : b0 = 47) : decodeN n b0 b1 b2 b3 = (47, 1) := by
 unfold decodeN; rw [if_pos (by omega), h]
theorem decodeN_noslash (n b0 b1 b2 b3 : Nat) (h : ¬ b0 = 47) : ¬ (decodeN n b0 b1 b2 b3).1 = 47 ∧ (2 ≤ (decodeN n b0 b1 b2 b3).2 → b1 / 64 = 2) ∧ (3 ≤ (decodeN n b0 b1 b2 b3).2 → b2 / 64 = 2) ∧ (4 ≤ (decodeN n b0 b1 b2 b3).2 → b3 / 64 = 2) := by
 unfold decodeN
 repeat' split
 all_goals (simp only; omega)
theorem decodeL_slash (l : List UInt8) (h : l.getD 0 0 = 47) : decodeL l = (47, 1) := decodeN_slash _ _ _ _ _ (by rw [h]; rfl)
theorem toNat_47 {b : UInt8} (h : ¬ b = 47) : ¬ b.toNat = 47 := fun e => h (UInt8.toNat_inj.1 e)
theorem decodeL_noslash (l : List UInt8) (h : ¬ l.getD 0 0 = 47) : ¬ (decodeL l).1 = 47 ∧ ∀ b ∈ l.take (decodeL l).2, ¬ b = 47 := by
 have hn := decodeN_noslash l.length (l.getD 0 0).toNat (l.getD 1 0).toNat (l.getD 2 0).toNat (l.getD 3 0).toNat (toNat_47 h)
 have hw := decodeL_width l
 refine ⟨hn.1, fun b hb e => ?_⟩
 obtain ⟨j, hj, rfl⟩ := List.getElem_of_mem hb
 have hj1 : j < (decodeL l).2 ∧ j < l.length := by rw [List.length_take] at hj; omega
 rw [List.getElem_take] at e
 have hg : l.getD j 0 = 47 := by rw [List.getD_eq_getElem?_getD, List.getElem?_eq_getElem hj1.2]; exact e
 have hd : (decodeL l).2 = (decodeN l.length (l.getD 0 0).toNat (l.getD 1 0).toNat (l.getD 2 0).toNat (l.getD 3 0).toNat).2 := rfl
 rw [← hd] at hn
 match j, hg, hj1 with
 | 0, hg, _ => exact h hg
 | 1, hg, hj1 => have := hn.2.1 (by omega); rw [hg] at this; exact absurd this (by decide)
 | 2, hg, hj1 => have := hn.2.2.1 (by omega); rw [hg] at this; exact absurd this (by decide)
 | 3, hg, hj1 => have := hn.2.2.2 (by omega); rw [hg] at this; exact absurd this (by decide)
 | j + 4, _, hj1 => omega
theorem scanP_skip (bs : List UInt8) : ∀ (r cur : List UInt8) (out : List (List UInt8)), (∀ b ∈ bs, ¬ b = 47) → scanP (bs ++ r) cur out = scanP r (cur ++ bs) out := by
 induction bs with
 | nil => intro r cur out _; simp
 | cons b bs ih =>
  intro r cur out h
  show scanP (b :: (bs ++ r)) cur out = _
  rw [scanP_other _ _ _ _ (h b (by simp)), ih r _ out (fun c hc => h c (by simp [hc]))]
  simp
theorem piece_more (l : List UInt8) (i j k : Nat) (hij : i ≤ j) (hj : j + k ≤ l.length) : piece l i (j + k) = piece l i j ++ (l.drop j).take k := by
 unfold piece
 rw [List.take_add, List.drop_append_of_le_length (by rw [List.length_take]; omega)]
theorem piece_left (l t : List UInt8) (i j : Nat) (hj : j ≤ l.length) : piece (l ++ t) i j = piece l i j := by
 unfold piece; rw [List.take_append_of_le_length hj]
theorem scanP_rune (t : List UInt8) (p j : Nat) (out : List (List UInt8)) (hpj : p ≤ j) (hj : j < t.length) (h : ¬ t.getD j 0 = 47) :
  scanP (t.drop j) (piece t p j) out = scanP (t.drop (j + (decodeL (t.drop j)).2)) (piece t p (j + (decodeL (t.drop j)).2)) out := by
 have hne : t.drop j ≠ [] := by intro e; have := congrArg List.length e; rw [List.length_drop] at this; simp at this; omega
 have hf := decodeL_fits _ hne
 rw [List.length_drop] at hf
 have h0 : ¬ (t.drop j).getD 0 0 = 47 := by simpa [List.getD_eq_getElem?_getD, List.getElem?_drop] using h
 have hs := (decodeL_noslash _ h0).2
 rw [piece_more t p j _ hpj (by omega), ← scanP_skip _ _ _ _ hs, ← List.drop_drop, List.take_append_drop]
end Go.Proofs.YtilkhmhgjbhfnaaGreatDoor
namespace Go.Proofs.YtilkhmhgjbhfnaaGreatDoor
def txt (l : List UInt8) : ByteArray := ⟨l.toArray⟩
def walkG (is : List Ino) : List (List UInt8) → Int → Int × Int
 | [], at_ => (at_, 0)
 | n :: ns, at_ =>
  match inoAt is (atV is at_) with
  | none => (0, 0)
  | some x => if x.dir = false then (0, 7) else if entV is at_ (txt n) = 0 then (0, 1) else walkG is ns (entV is at_ (txt n))
def codeP (n : Nat) : Int := if n = 0 then 0 else if n = 1101 ∨ n = 1102 then 6 else 9
def findV (is : List Ino) (path : ByteArray) : Int × Int :=
 if (parseL path.data.toList).2 ≠ 0 then (0, codeP (parseL path.data.toList).2) else walkG is (parseL path.data.toList).1 1
def dirAt (is : List Ino) (num : Int) : Bool := match inoAt is (atV is num) with | none => false | some x => x.dir
def parentV (is : List Ino) (path : ByteArray) : Int × ByteArray × Int :=
 if (parseL path.data.toList).2 ≠ 0 then (0, txt [], codeP (parseL path.data.toList).2)
 else if (parseL path.data.toList).1 = [] then (0, txt [], 9)
 else if (walkG is (parseL path.data.toList).1.dropLast 1).2 ≠ 0 then (0, txt [], (walkG is (parseL path.data.toList).1.dropLast 1).2)
 else if dirAt is (walkG is (parseL path.data.toList).1.dropLast 1).1 = false then (0, txt [], 7)
 else ((walkG is (parseL path.data.toList).1.dropLast 1).1, txt ((parseL path.data.toList).1.getLastD []), 0)
def fullE : List En → ByteArray → ByteArray → Nat
 | [], _, _ => 0
 | e :: es, name, but => (if e.name ≠ but ∧ bktB e.name = bktB name then 1 else 0) + fullE es name but
def fullV (is : List Ino) (dir : Int) (name but : ByteArray) : Bool := match inoAt is (atV is dir) with | none => false | some x => decide (4 ≤ fullE x.ents name but)
def putE : List En → ByteArray → Int → List En
 | [], name, num => [⟨name, num⟩]
 | e :: es, name, num => if ltN name e.name then ⟨name, num⟩ :: e :: es else e :: putE es name num
def dropE : List En → ByteArray → List En
 | [], _ => []
 | e :: es, name => if e.name = name then dropE es name else e :: dropE es name
def setEnts (is : List Ino) (num : Int) (f : List En → List En) : List Ino := is.modify (atV is num).toNat fun x => { x with ents := f x.ents }
def setData (is : List Ino) (num : Int) (d : ByteArray) : List Ino := is.modify (atV is num).toNat fun x => { x with data := d }
def putI : List Ino → Ino → List Ino
 | [], y => [y]
 | x :: xs, y => if y.num < x.num then y :: x :: xs else x :: putI xs y
def dropI : List Ino → Int → List Ino
 | [], _ => []
 | x :: xs, num => if x.num = num then dropI xs num else x :: dropI xs num
def putD : List Ds → Ds → List Ds
 | [], y => [y]
 | d :: ds, y => if y.core < d.core ∨ (d.core = y.core ∧ y.fd < d.fd) then y :: d :: ds else d :: putD ds y
def dropD : List Ds → Int → Int → List Ds
 | [], _, _ => []
 | d :: ds, core, fd => if d.core = core ∧ d.fd = fd then dropD ds core fd else d :: dropD ds core fd
def sweepV (s : St) (num : Int) : St := if 0 < linkI s.inos num ∨ openB s.opn num = true then s else { s with inos := dropI s.inos num }
structure Ca where
 kind : Int
 core : Int
 fd : Int
 off : Int
 num : Int
 path : ByteArray
 path2 : ByteArray
 data : ByteArray
structure Re where
 code : Int := 0
 fd : Int := 0
 num : Int := 0
 dir : Bool := false
 data : ByteArray := ⟨#[]⟩
 names : List ByteArray := []
def make1V (s : St) (c : Ca) : St × Re :=
 if (parentV s.inos c.path).2.2 ≠ 0 then (s, { code := (parentV s.inos c.path).2.2 })
 else if entV s.inos (parentV s.inos c.path).1 (parentV s.inos c.path).2.1 ≠ 0 then (s, { code := 2 })
 else if fullV s.inos (parentV s.inos c.path).1 (parentV s.inos c.path).2.1 (txt []) = true ∨ 32 ≤ s.made.getD c.core.toNat 0 then (s, { code := 5 })
 else ({ s with made := s.made.set c.core.toNat (s.made.getD c.core.toNat 0 + 1), inos := putI (setEnts s.inos (parentV s.inos c.path).1 fun es => putE es (parentV s.inos c.path).2.1 (2 + c.core + 8 * s.made.getD c.core.toNat 0)) ⟨2 + c.core + 8 * s.made.getD c.core.toNat 0, decide (c.kind = 1), [], txt []⟩ }, {})
def freeFd (ds : List Ds) (core : Int) : Nat := if fdV ds core 0 = 0 then 0 else if fdV ds core 1 = 0 then 1 else if fdV ds core 2 = 0 then 2 else if fdV ds core 3 = 0 then 3 else 4
def openedV (s : St) (c : Ca) (want : Int) : St × Re × Bool :=
 if (findV s.inos c.path).2 ≠ 0 then (s, { code := (findV s.inos c.path).2 }, true)
 else if dirAt s.inos (findV s.inos c.path).1 = true then (s, { code := 8 }, true)
 else if freeFd s.opn c.core = 4 then (s, { code := 10 }, true)
 else if 0 ≤ want then
  if 4 ≤ want ∨ fdV s.opn c.core want ≠ 0 then (s, {}, false)
  else ({ s with opn := putD s.opn ⟨c.core, want, (findV s.inos c.path).1⟩ }, { fd := want }, true)
 else ({ s with opn := putD s.opn ⟨c.core, freeFd s.opn c.core, (findV s.inos c.path).1⟩ }, { fd := freeFd s.opn c.core }, true)
def sizedL (l : List UInt8) (k : Nat) : List UInt8 := (l ++ List.replicate k 0).take k
def layL (l : List UInt8) (off : Nat) (d : List UInt8) : List UInt8 := (sizedL l (max l.length (off + d.length))).take off ++ d ++ (sizedL l (max l.length (off + d.length))).drop (off + d.length)
def dataAt (is : List Ino) (num : Int) : ByteArray := match inoAt is (atV is num) with | none => txt [] | some x => x.data
def byFdV (s : St) (c : Ca) : St × Re :=
 if fdV s.opn c.core c.fd = 0 then (s, { code := 4 })
 else if c.kind = 3 then (sweepV { s with opn := dropD s.opn c.core c.fd } (fdV s.opn c.core c.fd), {})
 else if c.kind = 4 then
  if c.off < 0 ∨ 256 < c.off ∨ c.num < 0 ∨ 256 < c.num then (s, { code := 9 })
  else (s, { data := txt (((dataAt s.inos (fdV s.opn c.core c.fd)).data.toList.drop c.off.toNat).take c.num.toNat) })
 else if c.kind = 5 then
  if c.off < 0 ∨ 256 < c.off ∨ 256 < c.data.size then (s, { code := 9 })
  else if 256 < c.off + c.data.size then (s, { code := 5 })
  else if c.data.size = 0 then (s, {})
  else ({ s with inos := setData s.inos (fdV s.opn c.core c.fd) (txt (layL (dataAt s.inos (fdV s.opn c.core c.fd)).data.toList c.off.toNat c.data.data.toList)) }, { num := c.data.size })
 else if c.kind = 6 then
  if c.num < 0 ∨ 256 < c.num then (s, { code := 9 })
  else ({ s with inos := setData s.inos (fdV s.opn c.core c.fd) (txt (sizedL (dataAt s.inos (fdV s.opn c.core c.fd)).data.toList c.num.toNat)) }, {})
 else if c.kind = 7 then (s, { num := (dataAt s.inos (fdV s.opn c.core c.fd)).size })
 else (s, {})
def linkV (s : St) (c : Ca) : St × Re :=
 if (findV s.inos c.path).2 ≠ 0 then (s, { code := (findV s.inos c.path).2 })
 else if dirAt s.inos (findV s.inos c.path).1 = true then (s, { code := 8 })
 else if (parentV s.inos c.path2).2.2 ≠ 0 then (s, { code := (parentV s.inos c.path2).2.2 })
 else if entV s.inos (parentV s.inos c.path2).1 (parentV s.inos c.path2).2.1 ≠ 0 then (s, { code := 2 })
 else if fullV s.inos (parentV s.inos c.path2).1 (parentV s.inos c.path2).2.1 (txt []) = true then (s, { code := 5 })
 else ({ s with inos := setEnts s.inos (parentV s.inos c.path2).1 fun es => putE es (parentV s.inos c.path2).2.1 (findV s.inos c.path).1 }, {})
def withinF (is : List Ino) (dir : Int) : Nat → Int → Bool
 | 0, _ => false
 | n + 1, top => if dir = top then true else match inoAt is (atV is top) with | none => false | some x => x.ents.any fun e => dirAt is e.num && withinF is dir n e.num
def withinV (is : List Ino) (dir top : Int) : Bool := withinF is dir (1 + is.length) top
def renameV (s : St) (c : Ca) (dir : Int) (name : ByteArray) (num : Int) : St × Re :=
 if (parentV s.inos c.path2).2.2 ≠ 0 then (s, { code := (parentV s.inos c.path2).2.2 })
 else if dirAt s.inos num = true ∧ withinV s.inos (parentV s.inos c.path2).1 num = true then (s, { code := 9 })
 else if entV s.inos (parentV s.inos c.path2).1 (parentV s.inos c.path2).2.1 ≠ 0 then (s, { code := 2 })
 else if fullV s.inos (parentV s.inos c.path2).1 (parentV s.inos c.path2).2.1 (if (parentV s.inos c.path2).1 = dir then name else txt []) = true then (s, { code := 5 })
 else ({ s with inos := setEnts (setEnts s.inos dir fun es => dropE es name) (parentV s.inos c.path2).1 fun es => putE es (parentV s.inos c.path2).2.1 num }, {})
def entsOf (is : List Ino) (num : Int) : List En := match inoAt is (atV is num) with | none => [] | some x => x.ents
def namesV (s : St) (c : Ca) : St × Re :=
 if c.kind = 8 then linkV s c
 else if (parentV s.inos c.path).2.2 ≠ 0 then (s, { code := (parentV s.inos c.path).2.2 })
 else if entV s.inos (parentV s.inos c.path).1 (parentV s.inos c.path).2.1 = 0 then (s, { code := 1 })
 else if c.kind = 11 then renameV s c (parentV s.inos c.path).1 (parentV s.inos c.path).2.1 (entV s.inos (parentV s.inos c.path).1 (parentV s.inos c.path).2.1)
 else if c.kind = 9 ∧ dirAt s.inos (entV s.inos (parentV s.inos c.path).1 (parentV s.inos c.path).2.1) = true then (s, { code := 8 })
 else if c.kind = 10 ∧ dirAt s.inos (entV s.inos (parentV s.inos c.path).1 (parentV s.inos c.path).2.1) = false then (s, { code := 7 })
 else if c.kind = 10 ∧ entsOf s.inos (entV s.inos (parentV s.inos c.path).1 (parentV s.inos c.path).2.1) ≠ [] then (s, { code := 3 })
 else (sweepV { s with inos := setEnts s.inos (parentV s.inos c.path).1 fun es => dropE es (parentV s.inos c.path).2.1 } (entV s.inos (parentV s.inos c.path).1 (parentV s.inos c.path).2.1), {})
def looksV (s : St) (c : Ca) : Re :=
 if (findV s.inos c.path).2 ≠ 0 then { code := (findV s.inos c.path).2 }
 else if c.kind = 12 then if dirAt s.inos (findV s.inos c.path).1 = false then { code := 7 } else { names := (entsOf s.inos (findV s.inos c.path).1).map (·.name) }
 else if c.kind = 13 then { dir := dirAt s.inos (findV s.inos c.path).1, num := (dataAt s.inos (findV s.inos c.path).1).size }
 else if dirAt s.inos (findV s.inos c.path).1 = true then { code := 8 }
 else { num := linkI s.inos (findV s.inos c.path).1 }
def doF (s : St) (c : Ca) (want : Int) : St × Re × Bool :=
 if mayV s = false ∨ c.core < 0 ∨ (s.made.length : Int) ≤ c.core ∨ c.kind < 0 ∨ 16 < c.kind then (s, { code := 9 }, true)
 else if c.kind ≤ 1 then ((make1V s c).1, (make1V s c).2, true)
 else if c.kind = 2 then openedV s c want
 else if c.kind ≤ 7 ∨ c.kind = 15 then ((byFdV s c).1, (byFdV s c).2, true)
 else if c.kind ≤ 11 then ((namesV s c).1, (namesV s c).2, true)
 else if c.kind ≤ 14 then (s, looksV s c, true)
 else (s, {}, true)
def doV (s : St) (c : Ca) : St × Re := ((doF s c (-1)).1, (doF s c (-1)).2.1)
def newV (cores : Nat) : St := ⟨[⟨1, true, [], txt []⟩], [], List.replicate cores 0⟩
theorem scan_len : ∀ (r cur : List UInt8) (out : List (List UInt8)), (scanP r cur out).1.length ≤ 4
 | [], _, out => by unfold scanP; split <;> simp <;> omega
 | b :: r, cur, out => by
  unfold scanP
  split
  ·split
   ·exact scan_len r _ _
   ·split <;> simp
  ·exact scan_len r _ _
theorem scan_err : ∀ (r cur : List UInt8) (out : List (List UInt8)), (scanP r cur out).2 ≤ 1102
 | [], _, out => by unfold scanP; split <;> simp
 | b :: r, cur, out => by
  unfold scanP
  split
  ·split
   ·exact scan_err r _ _
   ·split <;> simp
  ·exact scan_err r _ _
theorem parse_err (l : List UInt8) : (parseL l).2 ≤ 1102 := by
 unfold parseL
 split
 ·simp
 ·split
  ·simp
  ·split
   ·simp
   ·exact scan_err _ _ _
theorem parse_len (l : List UInt8) : (parseL l).1.length ≤ 4 := by
 unfold parseL
 split
 ·simp
 ·split
  ·simp
  ·split
   ·simp
   ·exact scan_len _ _ _
end Go.Proofs.YtilkhmhgjbhfnaaGreatDoor
namespace Go.Proofs.YtilkhmhgjbhfnaaGreatDoor
open Go.RowKit
theorem drop_ne {s : ByteArray} {p : Nat} (h : p < s.size) : s.data.toList.drop p ≠ [] := by
 intro e
 have e2 := congrArg List.length e
 have e3 : s.size = s.data.toList.length := rfl
 rw [List.length_drop] at e2
 simp only [List.length_nil] at e2
 omega
theorem drop_all {s : ByteArray} {p : Nat} (h : ¬ p < s.size) : s.data.toList.drop p = [] := by
 apply List.drop_eq_nil_of_le
 have e3 : s.size = s.data.toList.length := rfl
 omega
theorem retv_int {k : IntKind} {a b : Int} (h : a = b) : Ending.returned (.int k a) = .returned (.int k b) := by rw [h]
theorem valv_int {k : IntKind} {a b : Int} (h : a = b) : Value.int k a = .int k b := by rw [h]
theorem below_iter (w : World) (s : ByteArray) (p : Nat) : Below w.heap.size w (w.iter s p) := (Below.refl _ _).alloc (Nat.le_refl _) _
theorem getD_at {s : ByteArray} {i : Nat} (h : i < s.size) : s.data.toList.getD i 0 = s[i] := by
 have h' : i < s.data.size := h
 rw [List.getD_eq_getElem?_getD, Array.getElem?_toList, Array.getElem?_eq_getElem h']
 rfl
theorem checkL_long {l : List UInt8} (h : 12 < l.length) : checkL l = 801 := if_pos h
theorem checkL_dots {l : List UInt8} (h : ¬ 12 < l.length) (k : l = [] ∨ l = [46] ∨ l = [46, 46]) : checkL l = 800 := by unfold checkL; rw [if_neg h, if_pos k]
theorem checkL_else {l : List UInt8} (h : ¬ 12 < l.length) (k : ¬ (l = [] ∨ l = [46] ∨ l = [46, 46])) : checkL l = if anyBad l then 800 else 0 := by unfold checkL; rw [if_neg h, if_neg k]
theorem runeBad_iff (p : Nat × Nat) : runeBad p = true ↔ (p.1 = 47 ∨ p.1 < 32 ∨ p.1 = 127 ∨ badRune p = true) := by
 unfold runeBad
 simp [or_assoc]
end Go.Proofs.YtilkhmhgjbhfnaaGreatDoor
