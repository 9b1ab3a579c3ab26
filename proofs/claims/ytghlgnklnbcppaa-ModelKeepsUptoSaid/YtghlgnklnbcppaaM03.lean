/- Parts of the proof, side by side: FsWalk, FsParent, NameHash, FsEnts. -/
import Derived.Test.YtghlgnklnbcppaaM01
import Derived.Test.YtghlgnklnbcppaaM02
import Derived.OwnWalk
import Derived.Deep.RegionHeld3
import Derived.Deep.Cut
import Derived.Deep.DeepCutAuto
set_option linter.unusedVariables false
set_option linter.unusedSimpArgs false
set_option linter.unusedVariables false
set_option linter.unusedSimpArgs false
namespace Go.Proofs.Ytghlgnklnbcppaa
open Go.RowKit
def NmAt (w : World) (A : Option Addr) (n : Nat) (ts : List (List UInt8)) : Prop :=
  ts.length = n ∧ (0 < n → ∃ g off, A = some ⟨g, off, none⟩ ∧ g < w.heap.size ∧ ∀ j, j < n → w.cell? ⟨g, off + j, none⟩ = some (strV (ts.getD j [])))
theorem NmAt.below {w w' : World} {A : Option Addr} {n : Nat} {ts : List (List UInt8)} (h : NmAt w A n ts) (hb : Below w.heap.size w w') : NmAt w' A n ts :=
  ⟨h.1, fun hn => by
    obtain ⟨g, off, hA, hg, hc⟩ := h.2 hn
    exact ⟨g, off, hA, Nat.lt_of_lt_of_le hg hb.size, fun j hj => (hb.cell (p := ⟨g, off + j, none⟩) hg).trans (hc j hj)⟩⟩
theorem NmAt.init {w : World} {A : Option Addr} {n : Nat} {ts : List (List UInt8)} (h : NmAt w A (n + 1) ts) : NmAt w A n ts.dropLast :=
  ⟨by rw [List.length_dropLast, h.1]; omega, fun hn => by
    obtain ⟨g, off, hA, hg, hc⟩ := h.2 (by omega)
    refine ⟨g, off, hA, hg, fun j hj => ?_⟩
    rw [hc j (by omega)]
    congr 2
    have hl := h.1
    rw [List.getD_eq_getElem?_getD, List.getD_eq_getElem?_getD, List.getElem?_dropLast, if_pos (by omega)]⟩
theorem NmAt.of_names {B : Nat} {w : World} {v : Value} {out : List (List UInt8)} (h : Names B w v out) : ∃ A c, v = .slice A out.length c ∧ out.length ≤ c ∧ NmAt w A out.length out := by
  obtain ⟨A, c, hv, hc, hn, hg⟩ := row_any h (by decide)
  refine ⟨A, c, hv, hc, rfl, fun h0 => ?_⟩
  obtain ⟨g, hA, hlt, hm, hcell⟩ := hg h0
  refine ⟨g, 0, hA, hlt, fun j hj => ?_⟩
  rw [Nat.zero_add, hcell j (by omega)]
  simp [hj]
def Whole (is : List Ino) : Prop := 0 ≤ atV is 1 ∧ ∀ x ∈ is, ∀ e ∈ x.ents, 0 ≤ atV is e.num
theorem entG_mem : ∀ (es : List En) (n : ByteArray), entG es n = 0 ∨ ∃ e ∈ es, e.num = entG es n
  | [], _ => .inl rfl
  | e :: es, n => by
    unfold entG
    by_cases h : e.name = n
    · rw [if_pos h]; exact .inr ⟨e, by simp, rfl⟩
    · rw [if_neg h]
      rcases entG_mem es n with h1 | ⟨y, hy, h1⟩
      · exact .inl h1
      · exact .inr ⟨y, by simp [hy], h1⟩
theorem atV_some {is : List Ino} {t : Int} (h : 0 ≤ atV is t) : ∃ (k : Nat) (x : Ino), atV is t = (k : Int) ∧ is[k]? = some x ∧ x.num = t := by
  rcases atV_cases is t with ⟨h1, _⟩ | ⟨k, x, h1, h2, h3, _⟩
  · omega
  · exact ⟨k, x, h1, h2, h3⟩
theorem entV_whole {is : List Ino} (hw : Whole is) {dir : Int} {name : ByteArray} (h : entV is dir name ≠ 0) : 0 ≤ atV is (entV is dir name) := by
  unfold entV at h ⊢
  cases hx : inoAt is (atV is dir) with
  | none => rw [hx] at h; exact absurd rfl h
  | some x =>
    rw [hx] at h
    simp only at h ⊢
    obtain ⟨j, _, hj⟩ := inoAt_some hx
    rcases entG_mem x.ents name with h1 | ⟨e, he, h1⟩
    · exact absurd h1 h
    · rw [← h1]
      exact hw.2 x (List.mem_of_getElem? hj) e he
end Go.Proofs.Ytghlgnklnbcppaa

set_option linter.unusedVariables false
set_option linter.unusedSimpArgs false
namespace Go.Proofs.Ytghlgnklnbcppaa
open Go.RowKit
theorem walkG_some {is : List Ino} (hw : Whole is) : ∀ (ns : List (List UInt8)) (t : Int), 0 ≤ atV is t → (walkG is ns t).2 = 0 → 0 ≤ atV is (walkG is ns t).1
  | [], t, ht, _ => ht
  | n :: ns, t, ht, hc => by
    obtain ⟨k, x, hk, hx, _⟩ := atV_some ht
    unfold walkG at hc ⊢
    rw [hk, inoAt_nat, hx] at hc ⊢
    simp only at hc ⊢
    by_cases hd : x.dir = false
    · rw [if_pos hd] at hc; cases hc
    · rw [if_neg hd] at hc ⊢
      by_cases he : entV is t (txt n) = 0
      · rw [if_pos he] at hc; cases hc
      · rw [if_neg he] at hc ⊢
        exact walkG_some hw ns _ (entV_whole hw he) hc
end Go.Proofs.Ytghlgnklnbcppaa

set_option linter.unusedVariables false
set_option linter.unusedSimpArgs false
namespace Go.Proofs.Ytghlgnklnbcppaa
open Go.RowKit
set_option maxHeartbeats 400000 in
theorem hash_any (s : ByteArray) (w : World) (hs : s.size ≤ maxLen) :
    Calls Try.prog 160 #[.string s] w fun e w' => e = .returned (.int .i64 ((hashL s.data.toList : Nat) : Int)) ∧ Below w.heap.size w w' := by
  unfold maxLen at hs
  go_enter Try.func160, Try.ntmps160
  go_wp2
  go_loopw [3] (fun n w' => ∃ (pos acc : Nat), w' = w.iter s pos ∧ n = .int .u32 acc ∧ acc < 4294967296 ∧ hashFrom (s.data.toList.drop pos) acc = hashL s.data.toList) (fun _ w' => s.size - w'.iterPos w.heap.size)
  case atStart => exact ⟨0, 7, rfl, rfl, by omega, by simp [hashL]⟩
  case round =>
    obtain ⟨pos, acc, rfl, rfl, hacc, hc⟩ := hrel
    by_cases hp : pos < s.size
    · have hd := decode_list s pos
      have hw := decodeL_width (s.data.toList.drop pos)
      have hle := decodeL_le (s.data.toList.drop pos)
      have hcc := hashFrom_cons _ acc (drop_ne hp)
      rw [hcc, ← hd] at hc
      rw [← hd] at hw hle
      have hnx : ∀ ty, (Instr.next (.pointer (some ⟨w.heap.size, 0, none⟩)) true ty).run Try.prog (w.iter s pos) = _ := fun ty => run_next_any w s pos ty hp
      have Hc := Lib.hid hc
      clear hd hcc hc
      go_wp2
      go_roundw
      case rel => exact ⟨pos + (Utf8.decode s pos).2, hashStep acc (Utf8.decode s pos), rfl, valv_int (by unfold hashStep; omega), hashStep_lt _ _, by have := Hc.out; rw [List.drop_drop] at this; exact this⟩
      case measure => simp; omega
    · have hnx : ∀ ty, (Instr.next (.pointer (some ⟨w.heap.size, 0, none⟩)) true ty).run Try.prog (w.iter s pos) = _ := fun ty => run_next_end w s pos ty hp
      rw [drop_all hp] at hc
      have Hc := Lib.hid hc
      clear hc
      go_wp2
      go_ret
      exact ⟨retv_int (by have := Hc.out; rw [hashFrom_nil] at this; omega), below_iter _ _ _⟩
end Go.Proofs.Ytghlgnklnbcppaa

set_option linter.unusedVariables false
set_option linter.unusedSimpArgs false
namespace Go.Proofs.Ytghlgnklnbcppaa
open Go.RowKit
theorem box_ino (w : World) (num : Int) (dir : Bool) (E : Option Addr) (m d : Nat) (data : ByteArray) : ∃ W, w.alloc (.cells #[.int .i64 num, .bool dir, .slice E m d, .string data] 72) = W ∧ W.cell? ⟨w.heap.size, 0, .none⟩ = some (.int .i64 num) ∧ W.cell? ⟨w.heap.size, 1, .none⟩ = some (.bool dir) ∧ W.cell? ⟨w.heap.size, 2, .none⟩ = some (.slice E m d) ∧ W.cell? ⟨w.heap.size, 3, .none⟩ = some (.string data) ∧ Below w.heap.size w W ∧ w.heap.size < W.heap.size := by
  refine ⟨_, rfl, ?_, ?_, ?_, ?_, (Below.refl _ _).alloc (Nat.le_refl _) _, by simp⟩
  · exact (World.cell?_alloc_mark w _ _ (0, 0) _).trans rfl
  · exact (World.cell?_alloc_mark w _ _ (0, 0) _).trans rfl
  · exact (World.cell?_alloc_mark w _ _ (0, 0) _).trans rfl
  · exact (World.cell?_alloc_mark w _ _ (0, 0) _).trans rfl
theorem box_en (w : World) (name : ByteArray) (num : Int) : ∃ W, w.alloc (.cells #[.string name, .int .i64 num] 103) = W ∧ W.cell? ⟨w.heap.size, 0, .none⟩ = some (.string name) ∧ W.cell? ⟨w.heap.size, 1, .none⟩ = some (.int .i64 num) ∧ Below w.heap.size w W ∧ w.heap.size < W.heap.size := by
  refine ⟨_, rfl, ?_, ?_, (Below.refl _ _).alloc (Nat.le_refl _) _, by simp⟩
  · exact (World.cell?_alloc_mark w _ _ (0, 0) _).trans rfl
  · exact (World.cell?_alloc_mark w _ _ (0, 0) _).trans rfl
def ManyAt (w : World) (M : Nat) (f : Nat → Nat) : Prop := ∃ cur : Array Value, w.heap[M]? = some (.cells cur 3 (0, 0)) ∧ ∀ j, j < 8 → cur[j]? = some (.int .i64 (f j : Nat))
theorem ManyAt.lt {w : World} {M : Nat} {f : Nat → Nat} (h : ManyAt w M f) : M < w.heap.size := by
  obtain ⟨cur, hh, _⟩ := h
  exact (Array.getElem?_eq_some_iff.1 hh).1
theorem ManyAt.below {w w' : World} {M : Nat} {f : Nat → Nat} (h : ManyAt w M f) (hb : Below w.heap.size w w') : ManyAt w' M f := by
  have hl := h.lt
  obtain ⟨cur, hh, hc⟩ := h
  exact ⟨cur, (hb.block M hl).trans hh, hc⟩
theorem ManyAt.get {w : World} {M : Nat} {f : Nat → Nat} (h : ManyAt w M f) (j : Nat) (hj : j < 8) : w.cell? ⟨M, j, .none⟩ = some (.int .i64 (f j : Nat)) ∧ w.frozen? ⟨M, j, .none⟩ = false := by
  obtain ⟨cur, hh, hc⟩ := h
  exact ⟨by rw [cell_of_row w M j cur _ (0, 0) hh]; exact hc j hj, frozen_of_row w M j cur _ hh⟩
theorem ManyAt.set {w : World} {M : Nat} {f : Nat → Nat} (h : ManyAt w M f) (b : Nat) (hb : b < 8) : ManyAt (w.setCell ⟨M, b, .none⟩ (.int .i64 ((f b : Int) + 1))) M (fun j => if j = b then f j + 1 else f j) := by
  obtain ⟨cur, hh, hc⟩ := h
  refine ⟨_, heap_setCell_same w M b cur _ _ hh, fun j hj => ?_⟩
  rw [Array.getElem?_setIfInBounds]
  by_cases e : b = j
  · subst e
    have : b < cur.size := (Array.getElem?_eq_some_iff.1 (hc b hb)).1
    simp [this]
  · have e2 : ¬ j = b := fun h => e h.symm
    simp only [e, e2, if_false]
    exact hc j hj
def prevN (es : List En) (k : Nat) : Option ByteArray := if k = 0 then none else (es[k - 1]?).map (·.name)
theorem bktB_lt (s : ByteArray) : bktB s < 8 := Nat.mod_lt _ (by omega)
end Go.Proofs.Ytghlgnklnbcppaa
