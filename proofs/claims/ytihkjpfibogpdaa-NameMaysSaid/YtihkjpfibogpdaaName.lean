/- The functions of package name, and the reference's, each by one contract. -/
import Derived.Test.YtihkjpfibogpdaaRows
import Derived.Test.YtihkjpfibogpdaaPlainName
import Derived.WalkKit
import Derived.WalkSpells
import Derived.WalkLawsBesides
import Derived.Lib.Hide
import Derived.Laws.RangeAny
namespace Go.Proofs.Ytihkjpfibogpdaa
open Go.RowKit
set_option linter.unusedVariables false

theorem drop_ne {s : ByteArray} {p : Nat} (h : p < s.size) : s.data.toList.drop p ≠ [] := by
  intro e
  have e2 := congrArg List.length e
  have e3 : s.size = s.data.toList.length := rfl
  rw [List.length_drop] at e2
  simp only [List.length_nil] at e2
  omega
theorem drop_all {s : ByteArray} {p : Nat} (h : ¬ p < s.size) : s.data.toList.drop p = [] := by
  apply List.drop_eq_nil_of_le
  have e3 : s.size = s.data.toList.length := rfl
  omega
theorem retv_int {k : IntKind} {a b : Int} (h : a = b) : Ending.returned (.int k a) = .returned (.int k b) := by rw [h]
theorem valv_int {k : IntKind} {a b : Int} (h : a = b) : Value.int k a = .int k b := by rw [h]
theorem below_iter (w : World) (s : ByteArray) (p : Nat) : Below w.heap.size w (w.iter s p) := (Below.refl _ _).alloc (Nat.le_refl _) _

set_option maxHeartbeats 400000 in
/-- How many runes, by the program. -/
theorem runes_any (s : ByteArray) (w : World) (hs : s.size ≤ maxLen) :
    Calls Try.prog 37 #[.string s] w fun e w' => e = .returned (.int .i64 ((countL s.data.toList : Nat) : Int)) ∧ Below w.heap.size w w' := by
  unfold maxLen at hs
  have hcl := countL_le s.data.toList.length s.data.toList (Nat.le_refl _)
  have hsz : s.data.toList.length = s.size := rfl
  rw [hsz] at hcl
  clear hsz
  go_enter Try.func37, Try.ntmps37
  go_wp2
  go_loopw [3] (fun n w' => ∃ (pos acc : Nat), w' = w.iter s pos ∧ n = .int .i64 acc ∧ acc + countL (s.data.toList.drop pos) = countL s.data.toList) (fun _ w' => s.size - w'.iterPos w.heap.size)
  case atStart => exact ⟨0, 0, rfl, rfl, by simp⟩
  case round =>
    obtain ⟨pos, acc, rfl, rfl, hc⟩ := hrel
    by_cases hp : pos < s.size
    · have hd := decode_list s pos
      have hw := decodeL_width (s.data.toList.drop pos)
      have hcc := countL_cons _ (drop_ne hp)
      rw [hcc] at hc
      rw [← hd] at hw hc
      have hnx : ∀ ty, (Instr.next (.pointer (some ⟨w.heap.size, 0, none⟩)) true ty).run Try.prog (w.iter s pos) = _ := fun ty => run_next_any w s pos ty hp
      have Hc := Lib.hid hc
      have hacc : acc ≤ 9223372036854775806 := by omega
      clear hd hcc hc
      go_wp2
      go_roundw
      case rel => exact ⟨pos + (Utf8.decode s pos).2, acc + 1, rfl, by go_num, by have := Hc.out; rw [List.drop_drop] at this; omega⟩
      case measure => simp; omega
    · have hnx : ∀ ty, (Instr.next (.pointer (some ⟨w.heap.size, 0, none⟩)) true ty).run Try.prog (w.iter s pos) = _ := fun ty => run_next_end w s pos ty hp
      rw [drop_all hp] at hc
      have Hc := Lib.hid hc
      clear hc
      go_wp2
      go_ret
      exact ⟨retv_int (by have := Hc.out; rw [countL_nil] at this; omega), below_iter _ _ _⟩

set_option maxHeartbeats 400000 in
/-- The hash, by the program. -/
theorem hash_any (s : ByteArray) (w : World) (hs : s.size ≤ maxLen) :
    Calls Try.prog 33 #[.string s] w fun e w' => e = .returned (.int .i64 ((hashL s.data.toList : Nat) : Int)) ∧ Below w.heap.size w w' := by
  unfold maxLen at hs
  go_enter Try.func33, Try.ntmps33
  go_wp2
  go_loopw [3] (fun n w' => ∃ (pos acc : Nat), w' = w.iter s pos ∧ n = .int .u32 acc ∧ acc < 4294967296 ∧ hashFrom (s.data.toList.drop pos) acc = hashL s.data.toList) (fun _ w' => s.size - w'.iterPos w.heap.size)
  case atStart => exact ⟨0, 7, rfl, rfl, by omega, by simp [hashL]⟩
  case round =>
    obtain ⟨pos, acc, rfl, rfl, hacc, hc⟩ := hrel
    by_cases hp : pos < s.size
    · have hd := decode_list s pos
      have hw := decodeL_width (s.data.toList.drop pos)
      have hle := decodeL_le (s.data.toList.drop pos)
      have hcc := hashFrom_cons _ acc (drop_ne hp)
      rw [hcc, ← hd] at hc
      rw [← hd] at hw hle
      have hnx : ∀ ty, (Instr.next (.pointer (some ⟨w.heap.size, 0, none⟩)) true ty).run Try.prog (w.iter s pos) = _ := fun ty => run_next_any w s pos ty hp
      have Hc := Lib.hid hc
      clear hd hcc hc
      go_wp2
      go_roundw
      case rel => exact ⟨pos + (Utf8.decode s pos).2, hashStep acc (Utf8.decode s pos), rfl, valv_int (by unfold hashStep; omega), hashStep_lt _ _, by have := Hc.out; rw [List.drop_drop] at this; exact this⟩
      case measure => simp; omega
    · have hnx : ∀ ty, (Instr.next (.pointer (some ⟨w.heap.size, 0, none⟩)) true ty).run Try.prog (w.iter s pos) = _ := fun ty => run_next_end w s pos ty hp
      rw [drop_all hp] at hc
      have Hc := Lib.hid hc
      clear hc
      go_wp2
      go_ret
      exact ⟨retv_int (by have := Hc.out; rw [hashFrom_nil] at this; omega), below_iter _ _ _⟩
end Go.Proofs.Ytihkjpfibogpdaa
