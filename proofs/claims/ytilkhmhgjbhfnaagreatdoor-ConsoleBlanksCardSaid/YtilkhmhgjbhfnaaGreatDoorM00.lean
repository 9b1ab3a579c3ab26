/- Parts of the proof, side by side: Conv, PlainName, FsPlain, St. -/
import Derived.Test.YtilkhmhgjbhfnaaGreatDoorRows
import Derived.WalkKit
import Derived.WalkSpells
import Derived.WalkLawsBesides
import Derived.Lib.Hide
import Derived.Laws.BitsAllLaws
import Derived.Laws.IdiomStrings
import Derived.Lib.DecodeN
import Derived.BigQuiet
import Derived.Deep.QuietTactic
set_option linter.unusedVariables false
set_option linter.unusedSimpArgs false
namespace Go.Proofs.YtilkhmhgjbhfnaaGreatDoor.Cv
open Go.RowKit
theorem wrap_u64_any (x : Int) : ∃ y : Nat, y < 18446744073709551616 ∧ IntKind.u64.wrap x = (y : Int) := by
 refine ⟨(x % 18446744073709551616).toNat, ?_, ?_⟩
 ·omega
 ·rw [IntKind.wrap_u64]; omega
theorem tmod_u64 (a : Int) (n : Nat) (hn : 0 < n) : ∃ k : Nat, k < n ∧ (IntKind.u64.wrap a).tmod (n : Int) = (k : Int) := by
 obtain ⟨A, _, hA⟩ := wrap_u64_any a
 exact ⟨A % n, Nat.mod_lt _ hn, by rw [hA]; rfl⟩
theorem ret_int {k : IntKind} {a b : Int} (h : a = b) : Ending.returned (.int k a) = .returned (.int k b) := by rw [h]
theorem val_int {k : IntKind} {a b : Int} (h : a = b) : Value.int k a = .int k b := by rw [h]
theorem ret_bool {a b : Bool} (h : a = b) : Ending.returned (.bool a) = .returned (.bool b) := by rw [h]
theorem next {a b c : World} (h : Below a.heap.size a b) (k : Below b.heap.size b c) : Below a.heap.size a c := h.trans (k.mono h.size)
theorem drewN_below {B : Nat} {a w : World} (h : Below B a w) (n : Nat) : Below B a (w.drewN n) := ⟨h.os, h.tape, h.output, h.size, h.block⟩
theorem addr_add (g j : Nat) : (⟨g, 0, none⟩ : Addr).add j = ⟨g, j, none⟩ := by unfold Addr.add; split <;> simp_all
def ByteRow (W : World) (g : Nat) (l : List UInt8) : Prop := g < W.heap.size ∧ ∀ j, j < l.length → W.cell? ⟨g, j, none⟩ = some (.int .u8 ((l.getD j 0).toNat : Int)) ∧ W.frozen? ⟨g, j, none⟩ = false
theorem ByteRow.drew {W : World} {g : Nat} {l : List UInt8} (h : ByteRow W g l) : ByteRow W.drew g l := h
theorem ByteRow.drewN {W : World} {g : Nat} {l : List UInt8} (h : ByteRow W g l) (n : Nat) : ByteRow (W.drewN n) g l := h
theorem ByteRow.below {W W' : World} {B g : Nat} {l : List UInt8} (h : ByteRow W g l) (hb : Below B W W') (hg : g < B) : ByteRow W' g l :=
 ⟨Nat.lt_of_lt_of_le h.1 hb.size, fun j hj => ⟨(hb.cell (p := ⟨g, j, none⟩) hg).trans (h.2 j hj).1, (hb.frozen (p := ⟨g, j, none⟩) hg).trans (h.2 j hj).2⟩⟩
theorem ByteRow.set {W : World} {g k : Nat} {l : List UInt8} (h : ByteRow W g l) (hk : k < l.length) (b : UInt8) : ByteRow (W.setCell ⟨g, k, none⟩ (.int .u8 (b.toNat : Int))) g (l.set k b) := by
 refine ⟨by simpa [World.setCell] using h.1, fun j hj => ?_⟩
 have hj' : j < l.length := by simpa using hj
 refine ⟨?_, by rw [World.frozen?_setCell]; exact (h.2 j hj').2⟩
 by_cases e : k = j
 ·subst e
  rw [World.cell?_setCell_same' _ _ _ (by rw [(h.2 k hk).1]; rfl)]
  simp [hj']
 ·rw [World.cell?_setCell_other _ _ _ _ (by simp [e]), (h.2 j hj').1]
  simp [List.getElem?_set, e]
theorem back_of {W : World} {g : Nat} {l : List UInt8} (h : ByteRow W g l) (n C : Nat) (hn : l.length = n) :
  (convert 37 9 (.slice (some ⟨g, 0, none⟩) n C)).run Tryz.prog W = .ok (.string ⟨l.toArray⟩) W := by
 subst hn
 exact run_convert_bytes_back (P := Tryz.prog) W 37 9 5 ⟨g, 0, none⟩ C l Tryz.underlying37 Tryz.underlying5 Tryz.underlying9 (fun j hj => by
  rw [addr_add, (h.2 j hj).1]
  simp [hj])
theorem and_i64 (x : Int) (m : Nat) (hm : m < 9223372036854775808) : ∃ k : Nat, k ≤ m ∧ bits .and .i64 x (m : Int) = (k : Int) := by
 have e : (BitVec.ofInt 64 (m : Int)).toNat = m := by rw [BitVec.ofInt_natCast, BitVec.toNat_ofNat]; exact Nat.mod_eq_of_lt (by omega)
 refine ⟨(BitVec.ofInt 64 x &&& BitVec.ofInt 64 (m : Int)).toNat, ?_, ?_⟩
 ·rw [BitVec.toNat_and, e]; exact Nat.and_le_right
 ·show IntKind.i64.wrap ((BitVec.ofInt 64 x &&& BitVec.ofInt 64 (m : Int)).toNat : Int) = _
  have h : (BitVec.ofInt 64 x &&& BitVec.ofInt 64 (m : Int)).toNat ≤ m := by rw [BitVec.toNat_and, e]; exact Nat.and_le_right
  rw [IntKind.wrap_i64]
  omega
end Go.Proofs.YtilkhmhgjbhfnaaGreatDoor.Cv
namespace Go.Proofs.YtilkhmhgjbhfnaaGreatDoor
open Go.Lib (decodeN decode_at)
def decodeL (l : List UInt8) : Nat × Nat := decodeN l.length (l.getD 0 0).toNat (l.getD 1 0).toNat (l.getD 2 0).toNat (l.getD 3 0).toNat
theorem get_list (s : ByteArray) (i : Nat) : s.get! i = s.data.toList.getD i 0 := by
 show s.data[i]! = _
 rw [List.getD_eq_getElem?_getD, Array.getElem?_toList]
 rcases Nat.lt_or_ge i s.data.size with h | h
 ·rw [getElem!_pos s.data i h, Array.getElem?_eq_getElem h]; rfl
 ·rw [getElem!_neg s.data i (by omega), Array.getElem?_eq_none h]; rfl
theorem decode_list (s : ByteArray) (i : Nat) : Utf8.decode s i = decodeL (s.data.toList.drop i) := by
 rw [decode_at]
 unfold decodeL
 simp only [get_list, List.length_drop, List.getD_eq_getElem?_getD, List.getElem?_drop, Array.length_toList, Nat.add_zero]
 rfl
def badRune (p : Nat × Nat) : Bool := p.1 == 65533 && p.2 == 1
theorem decodeN_width (n b0 b1 b2 b3 : Nat) : 1 ≤ (decodeN n b0 b1 b2 b3).2 ∧ (decodeN n b0 b1 b2 b3).2 ≤ 4 := by
 unfold decodeN
 repeat' split
 all_goals simp
theorem decodeL_width (l : List UInt8) : 1 ≤ (decodeL l).2 ∧ (decodeL l).2 ≤ 4 := decodeN_width _ _ _ _ _
theorem decodeN_fits (n b0 b1 b2 b3 : Nat) (h : 1 ≤ n) : (decodeN n b0 b1 b2 b3).2 ≤ n := by
 unfold decodeN
 repeat' split
 all_goals (simp only; omega)
theorem decodeN_le (n b0 b1 b2 b3 : Nat) : (decodeN n b0 b1 b2 b3).1 ≤ 1114111 := by
 unfold decodeN
 repeat' split
 all_goals (simp only; omega)
theorem decodeL_le (l : List UInt8) : (decodeL l).1 ≤ 1114111 := decodeN_le _ _ _ _ _
theorem decodeL_fits (l : List UInt8) (h : l ≠ []) : (decodeL l).2 ≤ l.length :=
 decodeN_fits _ _ _ _ _ (by cases l with | nil => exact absurd rfl h | cons a l => simp)
def runesF : Nat → List UInt8 → List (Nat × Nat)
 | 0, _ => []
 | n + 1, l => if l.isEmpty then [] else decodeL l :: runesF n (l.drop (decodeL l).2)
def runes (l : List UInt8) : List (Nat × Nat) := runesF l.length l
theorem runesF_fuel : ∀ (n m : Nat) (l : List UInt8), l.length ≤ n → l.length ≤ m → runesF n l = runesF m l
 | 0, 0, _, _, _ => rfl
 | 0, m + 1, l, h, _ => by
  have : l = [] := List.eq_nil_of_length_eq_zero (by omega)
  subst this
  simp [runesF]
 | n + 1, 0, l, _, h => by
  have : l = [] := List.eq_nil_of_length_eq_zero (by omega)
  subst this
  simp [runesF]
 | n + 1, m + 1, l, h1, h2 => by
  unfold runesF
  by_cases e : l.isEmpty
  ·simp [e]
  ·have hw := decodeL_width l
   have hd : (l.drop (decodeL l).2).length = l.length - (decodeL l).2 := List.length_drop
   rw [if_neg e, if_neg e, runesF_fuel n m _ (by omega) (by omega)]
theorem runes_cons (l : List UInt8) (h : l ≠ []) : runes l = decodeL l :: runes (l.drop (decodeL l).2) := by
 have hw := decodeL_width l
 have hd : (l.drop (decodeL l).2).length = l.length - (decodeL l).2 := List.length_drop
 obtain ⟨n, hn⟩ : ∃ n, l.length = n + 1 := by
  cases l with
  | nil => exact absurd rfl h
  | cons a l => exact ⟨l.length, rfl⟩
 have e : ¬ l.isEmpty = true := by simpa using h
 show runesF l.length l = _
 rw [hn]
 show (if l.isEmpty then [] else decodeL l :: runesF n (l.drop (decodeL l).2)) = _
 rw [if_neg e, runesF_fuel n (l.drop (decodeL l).2).length _ (by omega) (Nat.le_refl _)]
 rfl
def hashStep (h : Nat) (p : Nat × Nat) : Nat := (31 * h + p.1) % 4294967296
def hashFrom (l : List UInt8) (h : Nat) : Nat := (runes l).foldl hashStep h
def hashL (l : List UInt8) : Nat := hashFrom l 7
theorem hashFrom_nil (h : Nat) : hashFrom [] h = h := rfl
theorem hashFrom_cons (l : List UInt8) (h : Nat) (hl : l ≠ []) : hashFrom l h = hashFrom (l.drop (decodeL l).2) (hashStep h (decodeL l)) := by
 unfold hashFrom; rw [runes_cons l hl]; rfl
theorem hashStep_lt (h : Nat) (p : Nat × Nat) : hashStep h p < 4294967296 := Nat.mod_lt _ (by omega)
theorem foldl_hash_lt (l : List (Nat × Nat)) : ∀ h : Nat, h < 4294967296 → l.foldl hashStep h < 4294967296 := by
 induction l with
 | nil => intro h hh; exact hh
 | cons p l ih => intro h _; exact ih _ (hashStep_lt h p)
theorem hashL_lt (l : List UInt8) : hashL l < 4294967296 := foldl_hash_lt _ _ (by omega)
def runeBad (p : Nat × Nat) : Bool := p.1 == 47 || decide (p.1 < 32) || p.1 == 127 || badRune p
def anyBad (l : List UInt8) : Bool := (runes l).any runeBad
theorem anyBad_nil : anyBad [] = false := rfl
theorem anyBad_cons (l : List UInt8) (hl : l ≠ []) : anyBad l = (runeBad (decodeL l) || anyBad (l.drop (decodeL l).2)) := by
 unfold anyBad; rw [runes_cons l hl]; rfl
def checkL (l : List UInt8) : Nat := if 12 < l.length then 801 else if l = [] ∨ l = [46] ∨ l = [46, 46] then 800 else if anyBad l then 800 else 0
end Go.Proofs.YtilkhmhgjbhfnaaGreatDoor
namespace Go.Proofs.YtilkhmhgjbhfnaaGreatDoor
structure En where
 name : ByteArray
 num : Int
structure Ino where
 num : Int
 dir : Bool
 ents : List En
 data : ByteArray
structure Ds where
 core : Int
 fd : Int
 num : Int
structure St where
 inos : List Ino
 opn : List Ds
 made : List Int
def atG : List Ino → Int → Nat → Int
 | [], _, _ => -1
 | x :: xs, num, k => if x.num = num then (k : Int) else atG xs num (k + 1)
def atV (is : List Ino) (num : Int) : Int := atG is num 0
theorem atG_cases : ∀ (is : List Ino) (num : Int) (b : Nat), (atG is num b = -1 ∧ ∀ x ∈ is, x.num ≠ num) ∨ ∃ (k : Nat) (x : Ino), atG is num b = ((b + k : Nat) : Int) ∧ is[k]? = some x ∧ x.num = num ∧ ∀ (j : Nat) (y : Ino), j < k → is[j]? = some y → y.num ≠ num
 | [], num, b => Or.inl ⟨rfl, by simp⟩
 | x :: xs, num, b => by
  unfold atG
  by_cases h : x.num = num
  ·rw [if_pos h]
   exact Or.inr ⟨0, x, rfl, rfl, h, fun j y hj => absurd hj (by omega)⟩
  ·rw [if_neg h]
   rcases atG_cases xs num (b + 1) with ⟨h1, h2⟩ | ⟨k, y, h1, h2, h3, h4⟩
   ·exact Or.inl ⟨h1, by intro z hz; rcases List.mem_cons.1 hz with rfl | hz; exact h; exact h2 z hz⟩
   ·refine Or.inr ⟨k + 1, y, by rw [h1]; congr 1; omega, by simpa using h2, h3, fun j z hj hz => ?_⟩
    cases j with
    | zero =>
     have : x = z := by simpa using hz
     subst this
     exact h
    | succ j => exact h4 j z (by omega) (by simpa using hz)
theorem atV_cases (is : List Ino) (num : Int) : (atV is num = -1 ∧ ∀ x ∈ is, x.num ≠ num) ∨ ∃ (k : Nat) (x : Ino), atV is num = (k : Int) ∧ is[k]? = some x ∧ x.num = num ∧ ∀ (j : Nat) (y : Ino), j < k → is[j]? = some y → y.num ≠ num := by
 rcases atG_cases is num 0 with h | ⟨k, x, h1, h2⟩
 ·exact Or.inl h
 ·exact Or.inr ⟨k, x, by rw [atV, h1]; congr 1; omega, h2⟩
def entG : List En → ByteArray → Int
 | [], _ => 0
 | e :: es, n => if e.name = n then e.num else entG es n
def inoAt (is : List Ino) (k : Int) : Option Ino := if k < 0 then none else is[k.toNat]?
def entV (is : List Ino) (dir : Int) (name : ByteArray) : Int :=
 match inoAt is (atV is dir) with
 | none => 0
 | some x => entG x.ents name
theorem inoAt_nat (is : List Ino) (k : Nat) : inoAt is (k : Int) = is[k]? := by unfold inoAt; rw [if_neg (by omega)]; rfl
def linkE : List En → Int → Nat
 | [], _ => 0
 | e :: es, num => (if e.num = num then 1 else 0) + linkE es num
def linkI : List Ino → Int → Nat
 | [], _ => 0
 | x :: xs, num => (if x.dir then linkE x.ents num else 0) + linkI xs num
def ltB : List UInt8 → List UInt8 → Bool
 | [], [] => false
 | [], _ :: _ => true
 | _ :: _, [] => false
 | a :: xs, b :: ys => if a = b then ltB xs ys else decide (a < b)
def ltN (a b : ByteArray) : Bool := ltB a.data.toList b.data.toList
def givenV (made : List Int) (num : Int) : Bool :=
 if num < 2 then false else decide ((num - 2) % 8 < (made.length : Int)) && decide ((num - 2) / 8 < made.getD ((num - 2) % 8).toNat 0)
def bktB (s : ByteArray) : Nat := hashL s.data.toList % 8
def chkB (s : ByteArray) : Nat := checkL s.data.toList
def bktE : List En → Nat → Nat
 | [], _ => 0
 | e :: es, b => (if bktB e.name = b then 1 else 0) + bktE es b
def entBad (is : List Ino) (p : Option ByteArray) (e : En) : Bool :=
 decide (chkB e.name ≠ 0) || (match p with | none => false | some q => !ltN q e.name) || decide (e.num = 1) || decide (atV is e.num < 0)
def entsG (is : List Ino) : List En → Option ByteArray → (Nat → Nat) → Bool
 | [], _, _ => true
 | e :: es, p, many =>
  if entBad is p e = true then false
  else if 4 < many (bktB e.name) + 1 then false
  else entsG is es (some e.name) (fun b => if b = bktB e.name then many b + 1 else many b)
def entsV (is : List Ino) (es : List En) : Bool := entsG is es none (fun _ => 0)
def reachF (is : List Ino) : Nat → List Int → List Bool → List Bool
 | 0, _, f => f
 | n + 1, todo, f =>
  match todo.getLast? with
  | none => f
  | some t =>
   match inoAt is (atV is t) with
   | none => reachF is n todo.dropLast f
   | some x => if f.getD (atV is t).toNat false then reachF is n todo.dropLast f else reachF is n (todo.dropLast ++ (if x.dir then x.ents.map (·.num) else [])) (f.set (atV is t).toNat true)
def bulkE (is : List Ino) : Nat := is.foldr (fun x n => x.ents.length + n) 0
def reachV (is : List Ino) : List Bool := reachF is (2 + bulkE is) [1] (List.replicate is.length false)
def openB : List Ds → Int → Bool
 | [], _ => false
 | d :: ds, num => if d.num = num then true else openB ds num
def fdV : List Ds → Int → Int → Int
 | [], _, _ => 0
 | d :: ds, core, fd => if d.core = core ∧ d.fd = fd then d.num else fdV ds core fd
def dsBad (is : List Ino) (cores : Nat) (d : Ds) : Bool :=
 decide (d.core < 0) || decide ((cores : Int) ≤ d.core) || decide (d.fd < 0) || decide (4 ≤ d.fd) || (match inoAt is (atV is d.num) with | none => true | some x => x.dir)
def dsPrev (p : Option Ds) (d : Ds) : Bool := match p with | none => false | some o => decide (d.core < o.core) || (decide (o.core = d.core) && decide (d.fd ≤ o.fd))
def opensG (is : List Ino) (cores : Nat) : List Ds → Option Ds → Bool
 | [], _ => true
 | d :: ds, p => if dsBad is cores d = true then false else if dsPrev p d = true then false else opensG is cores ds (some d)
def opensV (s : St) : Bool := opensG s.inos s.made.length s.opn none
def madeG : List Int → Bool
 | [] => true
 | x :: xs => if x < 0 ∨ 32 < x then false else madeG xs
def badNum (made : List Int) (p : Option Int) (n : Int) : Bool :=
 match p with
 | none => false
 | some q => decide (n ≤ q) || !givenV made n
def inoBad (s : St) (p : Option Int) (x : Ino) : Bool :=
 badNum s.made p x.num || decide (256 < x.data.size) || (x.dir && decide (x.data.size ≠ 0)) || (!x.dir && !x.ents.isEmpty) || !entsV s.inos x.ents
def inoLost (s : St) (first : Bool) (x : Ino) (f : Bool) : Bool :=
 (!first && x.dir && (decide (linkI s.inos x.num ≠ 1) || !f)) || (!x.dir && !f && !openB s.opn x.num)
def inosG (s : St) : List Ino → Option Int → List Bool → Bool
 | [], _, _ => true
 | x :: xs, p, f => if inoBad s p x = true then false else if inoLost s p.isNone x (f.headD false) = true then false else inosG s xs (some x.num) f.tail
def rootB : List Ino → Bool
 | [] => false
 | x :: _ => decide (x.num = 1) && x.dir
def mayV (s : St) : Bool :=
 decide (1 ≤ s.made.length) && decide (s.made.length ≤ 8) && rootB s.inos && opensV s && madeG s.made && decide (s.inos.length ≤ 257) && inosG s s.inos none (reachV s.inos)
end Go.Proofs.YtilkhmhgjbhfnaaGreatDoor
namespace Go.Proofs.YtilkhmhgjbhfnaaGreatDoor
open Go.RowKit
def Mine (lo : Option Nat) (t : TypeId) (w : World) (g : Nat) : Prop := ∀ B, lo = some B → B ≤ g ∧ ∃ cur, w.heap[g]? = some (.cells cur t (0, 0))
theorem Mine.any (t : TypeId) (w : World) (g : Nat) : Mine none t w g := fun B h => by cases h
theorem Mine.below {lo : Option Nat} {t : TypeId} {w w' : World} {g : Nat} (h : Mine lo t w g) (hb : Below w.heap.size w w') : Mine lo t w' g := fun B hB => by
 obtain ⟨h1, cur, h2⟩ := h B hB
 exact ⟨h1, cur, (hb.block g (Array.getElem?_eq_some_iff.1 h2).1).trans h2⟩
theorem Mine.mono {B B' : Nat} {t : TypeId} {w : World} {g : Nat} (h : Mine (some B) t w g) (hb : B' ≤ B) : Mine (some B') t w g := fun C hC => by
 obtain ⟨h1, h2⟩ := h B rfl
 cases hC
 exact ⟨by omega, h2⟩
def SlOk (A : Option Addr) (n c : Nat) : Prop := n ≤ c ∧ (A = none → c = 0)
def EntsAt (lo : Option Nat) (w : World) (A : Option Addr) (n : Nat) (es : List En) : Prop :=
 es.length = n ∧ (0 < n → ∃ g off, A = some ⟨g, off, none⟩ ∧ g < w.heap.size ∧ Mine lo 131 w g ∧ ∀ j e, es[j]? = some e → w.cell? ⟨g, off + j * 2, none⟩ = some (.string e.name) ∧ w.cell? ⟨g, off + j * 2 + 1, none⟩ = some (.int .i64 e.num))
def InosAt (lo : Option Nat) (w : World) (A : Option Addr) (n : Nat) (is : List Ino) : Prop :=
 is.length = n ∧ (0 < n → ∃ g off, A = some ⟨g, off, none⟩ ∧ g < w.heap.size ∧ Mine lo 65 w g ∧ ∀ j x, is[j]? = some x → w.cell? ⟨g, off + j * 4, none⟩ = some (.int .i64 x.num) ∧ w.cell? ⟨g, off + j * 4 + 1, none⟩ = some (.bool x.dir) ∧
  (∃ B m c, w.cell? ⟨g, off + j * 4 + 2, none⟩ = some (.slice B m c) ∧ SlOk B m c ∧ EntsAt lo w B m x.ents) ∧ w.cell? ⟨g, off + j * 4 + 3, none⟩ = some (.string x.data))
def DescsAt (lo : Option Nat) (w : World) (A : Option Addr) (n : Nat) (ds : List Ds) : Prop :=
 ds.length = n ∧ (0 < n → ∃ g off, A = some ⟨g, off, none⟩ ∧ g < w.heap.size ∧ Mine lo 97 w g ∧ ∀ j d, ds[j]? = some d → w.cell? ⟨g, off + j * 3, none⟩ = some (.int .i64 d.core) ∧ w.cell? ⟨g, off + j * 3 + 1, none⟩ = some (.int .i64 d.fd) ∧ w.cell? ⟨g, off + j * 3 + 2, none⟩ = some (.int .i64 d.num))
def IntsAt (lo : Option Nat) (w : World) (A : Option Addr) (n : Nat) (xs : List Int) : Prop :=
 xs.length = n ∧ (0 < n → ∃ g off, A = some ⟨g, off, none⟩ ∧ g < w.heap.size ∧ Mine lo 3 w g ∧ ∀ j x, xs[j]? = some x → w.cell? ⟨g, off + j, none⟩ = some (.int .i64 x))
structure Sized (s : St) : Prop where
 big : s.inos.length + bulkE s.inos + s.opn.length + s.made.length ≤ 1099511627776
 text : ∀ x ∈ s.inos, x.data.size ≤ 140737488355328 ∧ ∀ e ∈ x.ents, e.name.size ≤ 140737488355328
 nums : (∀ x ∈ s.inos, -9223372036854775808 ≤ x.num ∧ x.num ≤ 9223372036854775807 ∧ ∀ e ∈ x.ents, -9223372036854775808 ≤ e.num ∧ e.num ≤ 9223372036854775807) ∧ (∀ x ∈ s.made, -9223372036854775808 ≤ x ∧ x ≤ 9223372036854775807)
structure StAt (lo : Option Nat) (w : World) (v : Value) (s : St) : Prop where
 at_ : ∃ A n c B m d D k e, v = .agg #[.slice A n c, .slice B m d, .slice D k e] ∧ InosAt lo w A n s.inos ∧ DescsAt lo w B m s.opn ∧ IntsAt lo w D k s.made ∧ SlOk A n c ∧ SlOk B m d ∧ SlOk D k e
 sized : Sized s
theorem EntsAt.below {lo : Option Nat} {w w' : World} {A : Option Addr} {n : Nat} {es : List En} (h : EntsAt lo w A n es) (hb : Below w.heap.size w w') : EntsAt lo w' A n es :=
 ⟨h.1, fun hn => by
  obtain ⟨g, off, hA, hg, hm, hc⟩ := h.2 hn
  exact ⟨g, off, hA, Nat.lt_of_lt_of_le hg hb.size, hm.below hb, fun j e he => ⟨(hb.cell (p := ⟨g, _, none⟩) hg).trans (hc j e he).1, (hb.cell (p := ⟨g, _, none⟩) hg).trans (hc j e he).2⟩⟩⟩
theorem InosAt.below {lo : Option Nat} {w w' : World} {A : Option Addr} {n : Nat} {is : List Ino} (h : InosAt lo w A n is) (hb : Below w.heap.size w w') : InosAt lo w' A n is :=
 ⟨h.1, fun hn => by
  obtain ⟨g, off, hA, hg, hm, hc⟩ := h.2 hn
  refine ⟨g, off, hA, Nat.lt_of_lt_of_le hg hb.size, hm.below hb, fun j x hx => ?_⟩
  obtain ⟨h1, h2, ⟨B, m, c, h3, h4, h5⟩, h6⟩ := hc j x hx
  exact ⟨(hb.cell (p := ⟨g, _, none⟩) hg).trans h1, (hb.cell (p := ⟨g, _, none⟩) hg).trans h2, ⟨B, m, c, (hb.cell (p := ⟨g, _, none⟩) hg).trans h3, h4, h5.below hb⟩, (hb.cell (p := ⟨g, _, none⟩) hg).trans h6⟩⟩
theorem DescsAt.below {lo : Option Nat} {w w' : World} {A : Option Addr} {n : Nat} {ds : List Ds} (h : DescsAt lo w A n ds) (hb : Below w.heap.size w w') : DescsAt lo w' A n ds :=
 ⟨h.1, fun hn => by
  obtain ⟨g, off, hA, hg, hm, hc⟩ := h.2 hn
  exact ⟨g, off, hA, Nat.lt_of_lt_of_le hg hb.size, hm.below hb, fun j e he => ⟨(hb.cell (p := ⟨g, _, none⟩) hg).trans (hc j e he).1, (hb.cell (p := ⟨g, _, none⟩) hg).trans (hc j e he).2.1, (hb.cell (p := ⟨g, _, none⟩) hg).trans (hc j e he).2.2⟩⟩⟩
theorem IntsAt.below {lo : Option Nat} {w w' : World} {A : Option Addr} {n : Nat} {xs : List Int} (h : IntsAt lo w A n xs) (hb : Below w.heap.size w w') : IntsAt lo w' A n xs :=
 ⟨h.1, fun hn => by
  obtain ⟨g, off, hA, hg, hm, hc⟩ := h.2 hn
  exact ⟨g, off, hA, Nat.lt_of_lt_of_le hg hb.size, hm.below hb, fun j x hx => (hb.cell (p := ⟨g, _, none⟩) hg).trans (hc j x hx)⟩⟩
theorem StAt.below {lo : Option Nat} {w w' : World} {v : Value} {s : St} (h : StAt lo w v s) (hb : Below w.heap.size w w') : StAt lo w' v s := by
 obtain ⟨⟨A, n, c, B, m, d, D, k, e, h1, h2, h3, h4, h5, h6, h7⟩, hbig⟩ := h
 exact ⟨⟨A, n, c, B, m, d, D, k, e, h1, h2.below hb, h3.below hb, h4.below hb, h5, h6, h7⟩, hbig⟩
theorem EntsAt.weak {lo : Option Nat} {w : World} {A : Option Addr} {n : Nat} {es : List En} (h : EntsAt lo w A n es) : EntsAt none w A n es :=
 ⟨h.1, fun hn => by
  obtain ⟨g, off, hA, hg, hm, hc⟩ := h.2 hn
  exact ⟨g, off, hA, hg, Mine.any _ _ _, hc⟩⟩
theorem InosAt.weak {lo : Option Nat} {w : World} {A : Option Addr} {n : Nat} {is : List Ino} (h : InosAt lo w A n is) : InosAt none w A n is :=
 ⟨h.1, fun hn => by
  obtain ⟨g, off, hA, hg, hm, hc⟩ := h.2 hn
  refine ⟨g, off, hA, hg, Mine.any _ _ _, fun j x hx => ?_⟩
  obtain ⟨h1, h2, ⟨B, m, c, h3, h4, h5⟩, h6⟩ := hc j x hx
  exact ⟨h1, h2, ⟨B, m, c, h3, h4, h5.weak⟩, h6⟩⟩
theorem DescsAt.weak {lo : Option Nat} {w : World} {A : Option Addr} {n : Nat} {ds : List Ds} (h : DescsAt lo w A n ds) : DescsAt none w A n ds :=
 ⟨h.1, fun hn => by
  obtain ⟨g, off, hA, hg, hm, hc⟩ := h.2 hn
  exact ⟨g, off, hA, hg, Mine.any _ _ _, hc⟩⟩
theorem IntsAt.weak {lo : Option Nat} {w : World} {A : Option Addr} {n : Nat} {xs : List Int} (h : IntsAt lo w A n xs) : IntsAt none w A n xs :=
 ⟨h.1, fun hn => by
  obtain ⟨g, off, hA, hg, hm, hc⟩ := h.2 hn
  exact ⟨g, off, hA, hg, Mine.any _ _ _, hc⟩⟩
theorem StAt.weak {lo : Option Nat} {w : World} {v : Value} {s : St} (h : StAt lo w v s) : StAt none w v s := by
 obtain ⟨⟨A, n, c, B, m, d, D, k, e, h1, h2, h3, h4, h5, h6, h7⟩, hbig⟩ := h
 exact ⟨⟨A, n, c, B, m, d, D, k, e, h1, h2.weak, h3.weak, h4.weak, h5, h6, h7⟩, hbig⟩
theorem EntsAt.drewN {lo : Option Nat} {w : World} {A : Option Addr} {n : Nat} {es : List En} (h : EntsAt lo w A n es) (q : Nat) : EntsAt lo (w.drewN q) A n es := h
theorem InosAt.drewN {lo : Option Nat} {w : World} {A : Option Addr} {n : Nat} {is : List Ino} (h : InosAt lo w A n is) (q : Nat) : InosAt lo (w.drewN q) A n is := h
theorem DescsAt.drewN {lo : Option Nat} {w : World} {A : Option Addr} {n : Nat} {ds : List Ds} (h : DescsAt lo w A n ds) (q : Nat) : DescsAt lo (w.drewN q) A n ds := h
theorem IntsAt.drewN {lo : Option Nat} {w : World} {A : Option Addr} {n : Nat} {xs : List Int} (h : IntsAt lo w A n xs) (q : Nat) : IntsAt lo (w.drewN q) A n xs := h
theorem StAt.drewN {lo : Option Nat} {w : World} {v : Value} {s : St} (h : StAt lo w v s) (q : Nat) : StAt lo (w.drewN q) v s := ⟨h.at_, h.sized⟩
theorem bulkE_le {is : List Ino} {j : Nat} {x : Ino} (h : is[j]? = some x) : x.ents.length ≤ bulkE is := by
 induction is generalizing j with
 | nil => simp at h
 | cons y ys ih =>
  cases j with
  | zero =>
   simp at h
   subst h
   show y.ents.length ≤ y.ents.length + bulkE ys
   omega
  | succ j =>
   simp at h
   have := ih h
   show x.ents.length ≤ y.ents.length + bulkE ys
   omega
theorem InosAt.get {lo : Option Nat} {w : World} {A : Option Addr} {n : Nat} {is : List Ino} (h : InosAt lo w A n is) (j : Nat) (hj : j < n) : ∃ g off x B m c, A = some ⟨g, off, none⟩ ∧ g < w.heap.size ∧ is[j]? = some x ∧ is.drop j = x :: is.drop (j + 1) ∧ x ∈ is ∧ w.cell? ⟨g, off + j * 4, none⟩ = some (.int .i64 x.num) ∧ w.cell? ⟨g, off + j * 4 + 1, none⟩ = some (.bool x.dir) ∧
  w.cell? ⟨g, off + j * 4 + 2, none⟩ = some (.slice B m c) ∧ SlOk B m c ∧ EntsAt lo w B m x.ents ∧ w.cell? ⟨g, off + j * 4 + 3, none⟩ = some (.string x.data) := by
 obtain ⟨g, off, hA, hg, hm, hc⟩ := h.2 (by omega)
 have hl : j < is.length := by rw [h.1]; exact hj
 obtain ⟨h1, h2, ⟨B, m, c, h3, h4, h5⟩, h6⟩ := hc j _ (List.getElem?_eq_getElem hl)
 exact ⟨g, off, is[j], B, m, c, hA, hg, List.getElem?_eq_getElem hl, List.drop_eq_getElem_cons hl, List.getElem_mem hl, h1, h2, h3, h4, h5, h6⟩
theorem EntsAt.get {lo : Option Nat} {w : World} {A : Option Addr} {n : Nat} {es : List En} (h : EntsAt lo w A n es) (j : Nat) (hj : j < n) : ∃ g off e, A = some ⟨g, off, none⟩ ∧ g < w.heap.size ∧ es[j]? = some e ∧ es.drop j = e :: es.drop (j + 1) ∧ e ∈ es ∧ w.cell? ⟨g, off + j * 2, none⟩ = some (.string e.name) ∧ w.cell? ⟨g, off + j * 2 + 1, none⟩ = some (.int .i64 e.num) := by
 obtain ⟨g, off, hA, hg, hm, hc⟩ := h.2 (by omega)
 have hl : j < es.length := by rw [h.1]; exact hj
 obtain ⟨h1, h2⟩ := hc j _ (List.getElem?_eq_getElem hl)
 exact ⟨g, off, es[j], hA, hg, List.getElem?_eq_getElem hl, List.drop_eq_getElem_cons hl, List.getElem_mem hl, h1, h2⟩
theorem DescsAt.get {lo : Option Nat} {w : World} {A : Option Addr} {n : Nat} {ds : List Ds} (h : DescsAt lo w A n ds) (j : Nat) (hj : j < n) : ∃ g off d, A = some ⟨g, off, none⟩ ∧ g < w.heap.size ∧ ds[j]? = some d ∧ ds.drop j = d :: ds.drop (j + 1) ∧ d ∈ ds ∧ w.cell? ⟨g, off + j * 3, none⟩ = some (.int .i64 d.core) ∧ w.cell? ⟨g, off + j * 3 + 1, none⟩ = some (.int .i64 d.fd) ∧ w.cell? ⟨g, off + j * 3 + 2, none⟩ = some (.int .i64 d.num) := by
 obtain ⟨g, off, hA, hg, hm, hc⟩ := h.2 (by omega)
 have hl : j < ds.length := by rw [h.1]; exact hj
 obtain ⟨h1, h2, h3⟩ := hc j _ (List.getElem?_eq_getElem hl)
 exact ⟨g, off, ds[j], hA, hg, List.getElem?_eq_getElem hl, List.drop_eq_getElem_cons hl, List.getElem_mem hl, h1, h2, h3⟩
theorem IntsAt.get {lo : Option Nat} {w : World} {A : Option Addr} {n : Nat} {xs : List Int} (h : IntsAt lo w A n xs) (j : Nat) (hj : j < n) : ∃ g off x, A = some ⟨g, off, none⟩ ∧ g < w.heap.size ∧ xs[j]? = some x ∧ xs.drop j = x :: xs.drop (j + 1) ∧ x ∈ xs ∧ w.cell? ⟨g, off + j, none⟩ = some (.int .i64 x) := by
 obtain ⟨g, off, hA, hg, hm, hc⟩ := h.2 (by omega)
 have hl : j < xs.length := by rw [h.1]; exact hj
 exact ⟨g, off, xs[j], hA, hg, List.getElem?_eq_getElem hl, List.drop_eq_getElem_cons hl, List.getElem_mem hl, hc j _ (List.getElem?_eq_getElem hl)⟩
end Go.Proofs.YtilkhmhgjbhfnaaGreatDoor
