/- Small laws on the conversions between texts, bytes and numbers, over this program; the walk's small change. -/
import Derived.Test.YtbflennacniacaaRows
import Derived.WalkKit
import Derived.WalkSpells
import Derived.WalkLawsBesides
import Derived.Lib.Hide
import Derived.Laws.BitsAllLaws
import Derived.Laws.IdiomStrings
namespace Go.Proofs.Ytbflennacniacaa.Cv
open Go.RowKit
set_option linter.unusedVariables false
theorem wrap_u64_any (x : Int) : ∃ y : Nat, y < 18446744073709551616 ∧ IntKind.u64.wrap x = (y : Int) := by
  refine ⟨(x % 18446744073709551616).toNat, ?_, ?_⟩
  · omega
  · rw [IntKind.wrap_u64]; omega
theorem tmod_u64 (a : Int) (n : Nat) (hn : 0 < n) : ∃ k : Nat, k < n ∧ (IntKind.u64.wrap a).tmod (n : Int) = (k : Int) := by
  obtain ⟨A, _, hA⟩ := wrap_u64_any a
  exact ⟨A % n, Nat.mod_lt _ hn, by rw [hA]; rfl⟩
theorem ret_int {k : IntKind} {a b : Int} (h : a = b) : Ending.returned (.int k a) = .returned (.int k b) := by rw [h]
theorem val_int {k : IntKind} {a b : Int} (h : a = b) : Value.int k a = .int k b := by rw [h]
theorem ret_bool {a b : Bool} (h : a = b) : Ending.returned (.bool a) = .returned (.bool b) := by rw [h]
theorem next {a b c : World} (h : Below a.heap.size a b) (k : Below b.heap.size b c) : Below a.heap.size a c := h.trans (k.mono h.size)
theorem drewN_below {B : Nat} {a w : World} (h : Below B a w) (n : Nat) : Below B a (w.drewN n) := ⟨h.os, h.tape, h.output, h.size, h.block⟩
theorem conv_one (W : World) (g c : Nat) (x : UInt8) (h : W.cell? ⟨g, 0, none⟩ = some (.int .u8 (x.toNat : Int))) :
    (convert 59 9 (.slice (some ⟨g, 0, none⟩) 1 c)).run Try.prog W = .ok (.string ⟨#[x]⟩) W :=
  run_convert_bytes_back (P := Try.prog) W 59 9 5 ⟨g, 0, none⟩ c [x] Try.underlying59 Try.underlying5 Try.underlying9 (by
    intro j hj
    have hj' : j = 0 := by simpa using hj
    subst hj'
    simpa [Addr.add] using h)
theorem byte_of (a : Int) : ∃ x : UInt8, a % 256 = (x.toNat : Int) :=
  ⟨UInt8.ofNat (a % 256).toNat, by rw [UInt8.toNat_ofNat']; omega⟩
theorem addr_add (g j : Nat) : (⟨g, 0, none⟩ : Addr).add j = ⟨g, j, none⟩ := by unfold Addr.add; split <;> simp_all
/-- Block g's first cells are the bytes l; none of them is frozen. -/
def ByteRow (W : World) (g : Nat) (l : List UInt8) : Prop := g < W.heap.size ∧ ∀ j, j < l.length → W.cell? ⟨g, j, none⟩ = some (.int .u8 ((l.getD j 0).toNat : Int)) ∧ W.frozen? ⟨g, j, none⟩ = false
theorem ByteRow.drew {W : World} {g : Nat} {l : List UInt8} (h : ByteRow W g l) : ByteRow W.drew g l := h
theorem ByteRow.drewN {W : World} {g : Nat} {l : List UInt8} (h : ByteRow W g l) (n : Nat) : ByteRow (W.drewN n) g l := h
theorem ByteRow.below {W W' : World} {B g : Nat} {l : List UInt8} (h : ByteRow W g l) (hb : Below B W W') (hg : g < B) : ByteRow W' g l :=
  ⟨Nat.lt_of_lt_of_le h.1 hb.size, fun j hj => ⟨(hb.cell (p := ⟨g, j, none⟩) hg).trans (h.2 j hj).1, (hb.frozen (p := ⟨g, j, none⟩) hg).trans (h.2 j hj).2⟩⟩
theorem ByteRow.set {W : World} {g k : Nat} {l : List UInt8} (h : ByteRow W g l) (hk : k < l.length) (b : UInt8) : ByteRow (W.setCell ⟨g, k, none⟩ (.int .u8 (b.toNat : Int))) g (l.set k b) := by
  refine ⟨by simpa [World.setCell] using h.1, fun j hj => ?_⟩
  have hj' : j < l.length := by simpa using hj
  refine ⟨?_, by rw [World.frozen?_setCell]; exact (h.2 j hj').2⟩
  by_cases e : k = j
  · subst e
    rw [World.cell?_setCell_same' _ _ _ (by rw [(h.2 k hk).1]; rfl)]
    simp [hj']
  · rw [World.cell?_setCell_other _ _ _ _ (by simp [e]), (h.2 j hj').1]
    simp [List.getElem?_set, e]
/-- '[]byte(t)': a new block whose first cells are the text's bytes; none of them is frozen. -/
theorem bytes_of (W : World) (t : ByteArray) : ∃ (C : Nat) (W2 : World),
    (convert 9 59 (.string t)).run Try.prog W = .ok (.slice (some ⟨W.heap.size, 0, none⟩) t.size C) W2.drew ∧ ByteRow W2 W.heap.size t.data.toList ∧ Below W.heap.size W W2 := by
  refine ⟨_, W.alloc (.cells (bytesRow t (grownCap W t.size 0 5)) 5 ((bytesRow t (grownCap W t.size 0 5)).size, (bytesRow t (grownCap W t.size 0 5)).size + 1)), run_bytes_of_string (P := Try.prog) W 9 59 5 t Try.underlying9 Try.underlying59 Try.underlying5, ⟨?_, ?_⟩, ?_⟩
  · simp
  · intro j h
    have hd : j < t.data.size := by simpa using h
    refine ⟨?_, ?_⟩
    · refine (World.cell?_alloc_mark W _ _ _ _).trans ?_
      rw [bytesRow_at t _ j hd]
      simp [Array.getElem?_eq_getElem hd]
    · refine (World.frozen?_alloc_mark W _ _ _ _ _).trans ?_
      have : t.size ≤ (bytesRow t (grownCap W t.size 0 5)).size := by simp [bytesRow]
      have : j < t.size := hd
      simp; omega
  · exact (Below.refl _ _).alloc (Nat.le_refl _) _
/-- 'string(b)' where the cells at the block's head are the bytes l. -/
theorem back_of {W : World} {g : Nat} {l : List UInt8} (h : ByteRow W g l) (n C : Nat) (hn : l.length = n) :
    (convert 59 9 (.slice (some ⟨g, 0, none⟩) n C)).run Try.prog W = .ok (.string ⟨l.toArray⟩) W := by
  subst hn
  exact run_convert_bytes_back (P := Try.prog) W 59 9 5 ⟨g, 0, none⟩ C l Try.underlying59 Try.underlying5 Try.underlying9 (fun j hj => by
    rw [addr_add, (h.2 j hj).1]
    simp [hj])
theorem and_i64 (x : Int) (m : Nat) (hm : m < 9223372036854775808) : ∃ k : Nat, k ≤ m ∧ bits .and .i64 x (m : Int) = (k : Int) := by
  have e : (BitVec.ofInt 64 (m : Int)).toNat = m := by rw [BitVec.ofInt_natCast, BitVec.toNat_ofNat]; exact Nat.mod_eq_of_lt (by omega)
  refine ⟨(BitVec.ofInt 64 x &&& BitVec.ofInt 64 (m : Int)).toNat, ?_, ?_⟩
  · rw [BitVec.toNat_and, e]; exact Nat.and_le_right
  · show IntKind.i64.wrap ((BitVec.ofInt 64 x &&& BitVec.ofInt 64 (m : Int)).toNat : Int) = _
    have h : (BitVec.ofInt 64 x &&& BitVec.ofInt 64 (m : Int)).toNat ≤ m := by rw [BitVec.toNat_and, e]; exact Nat.and_le_right
    rw [IntKind.wrap_i64]
    omega
end Go.Proofs.Ytbflennacniacaa.Cv
