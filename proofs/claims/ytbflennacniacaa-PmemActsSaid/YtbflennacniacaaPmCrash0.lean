/- pmem.Mem.Crash: lines compared, the map emptied, what a crash makes of lines, in plain words. -/
import Derived.Test.YtbflennacniacaaPmFuse
import Derived.Laws.StructEq
import Derived.ChangeKeysEq
namespace Go.Proofs.Ytbflennacniacaa
open Go.RowKit
set_option linter.unusedVariables false
def sameW (x y : Nat → Int) : Bool := x 0 == y 0 && (x 1 == y 1 && (x 2 == y 2 && (x 3 == y 3 && (x 4 == y 4 && (x 5 == y 5 && (x 6 == y 6 && (x 7 == y 7 && true)))))))
theorem sameW_iff (x y : Nat → Int) : sameW x y = true ↔ ∀ r, r < 8 → x r = y r := by
  unfold sameW
  simp only [Bool.and_eq_true, beq_iff_eq, Bool.and_true]
  constructor
  · rintro ⟨h0, h1, h2, h3, h4, h5, h6, h7⟩ r hr
    have : r = 0 ∨ r = 1 ∨ r = 2 ∨ r = 3 ∨ r = 4 ∨ r = 5 ∨ r = 6 ∨ r = 7 := by omega
    rcases this with h | h | h | h | h | h | h | h <;> (subst h; assumption)
  · intro h
    exact ⟨h 0 (by omega), h 1 (by omega), h 2 (by omega), h 3 (by omega), h 4 (by omega), h 5 (by omega), h 6 (by omega), h 7 (by omega)⟩
theorem part_line (x : Nat → Int) (w : World) (j : Nat) (hj : j < 8) :
    (part 29 #[.int .u64 (x 0), .int .u64 (x 1), .int .u64 (x 2), .int .u64 (x 3), .int .u64 (x 4), .int .u64 (x 5), .int .u64 (x 6), .int .u64 (x 7)] (j * Try.prog.cellsOf 29)).run Try.prog w = .ok (.int .u64 (x j)) w := by
  have : j = 0 ∨ j = 1 ∨ j = 2 ∨ j = 3 ∨ j = 4 ∨ j = 5 ∨ j = 6 ∨ j = 7 := by omega
  rcases this with h | h | h | h | h | h | h | h <;> (subst h; clear hj; show _ = _; kernel_rfl)
theorem eq_u64 (a b : Int) (w : World) : (Op.equalIn 9999 29 (.int .u64 a) (.int .u64 b)).run Try.prog w = .ok (a == b) w := by kernel_rfl
theorem eqItems_line (x y : Nat → Int) (w : World) : ∀ is : List Nat, (∀ j ∈ is, j < 8) →
    (Op.eqItems 9999 29 (Try.prog.cellsOf 29) #[.int .u64 (x 0), .int .u64 (x 1), .int .u64 (x 2), .int .u64 (x 3), .int .u64 (x 4), .int .u64 (x 5), .int .u64 (x 6), .int .u64 (x 7)]
      #[.int .u64 (y 0), .int .u64 (y 1), .int .u64 (y 2), .int .u64 (y 3), .int .u64 (y 4), .int .u64 (y 5), .int .u64 (y 6), .int .u64 (y 7)] is).run Try.prog w = .ok (is.all fun j => x j == y j) w
  | [], _ => by simp [Op.eqItems]
  | j :: is, h => by
    have hj := h j (List.mem_cons_self ..)
    have ih := eqItems_line x y w is fun i hi => h i (List.mem_cons_of_mem _ hi)
    simp only [Op.eqItems, Sem.run_bind, part_line x w j hj, part_line y w j hj, eq_u64, Result.andThen_ok]
    cases hb : (x j == y j)
    · simp [hb]
    · simpa [hb] using ih
theorem infoU64 : (Try.prog.info? 29).map (fun i => (i.zero, i.size, i.bytes)) = some (some (.int .u64 0), 1, 8) := by kernel_rfl
theorem eql_line (x y : Nat → Int) (w : World) : (binOp .eql 78 (lineV x) (lineV y)).run Try.prog w = .ok (.bool (sameW x y)) w := by
  obtain ⟨i, hi, _⟩ := info_parts infoU64
  unfold lineV
  rw [run_eql_struct, show (10000 : Nat) = 9999 + 1 from rfl]
  simp only [run_equalIn_array w 9999 _ _ Try.underlying78 hi, eqItems_line x y w (List.range 8) (fun j hj => List.mem_range.1 hj), Result.andThen_ok]
  rfl
theorem run_clear_way {w : World} {b n : Nat} {D : DataW Value} (ty : TypeId) (h : w.ownsMap Try.prog 3 heldR b n D) :
    ∃ w', (Builtin.clear_ #[73] ty #[.map (some b)]).run Try.prog w = .ok (.tuple #[]) w' ∧ w'.ownsMap Try.prog 3 heldR b n (.map []) ∧ w.grownBy w' (some b) := by
  obtain ⟨es, clock, hb, F, hs, hD⟩ := h
  refine ⟨Go.ChangeMaps.setBlock w b (.map #[] clock), ?_, ⟨#[], clock, Go.ChangeMaps.heap_setBlock_same hb _, ⟨by simp, Go.MapKept.stamped_empty _, by simp⟩, Nat.zero_le _, rfl⟩, ⟨rfl, rfl, rfl, by simp [Go.ChangeMaps.setBlock], fun i _ hi => Go.ChangeMaps.heap_setBlock_other hb _ (fun e => hi (by rw [e]))⟩⟩
  simp [Builtin.clear_, run_underlying Try.underlying73, Go.MapKept.run_getObj_map hb, Go.MapKept.run_setObj_map _ hb, Result.andThen, Go.ChangeMaps.setBlock]
theorem WayRel.empty (n : Nat) : WayRel (.map [] : DataW Value) n fun _ => none :=
  ⟨Go.Maps.isMap_empty, fun kl h => absurd h (by simp [Go.Maps.has]), fun i h => absurd h (by simp [Go.Maps.has])⟩
/-- What a crash makes of the lines ahead of a. -/
def crashI (was : Nat → Int) (keep : Int) (lasts : Nat → Int) : Nat → Nat × (Nat → Int)
  | 0 => (0, lasts)
  | a + 1 =>
    let p := crashI was keep lasts a
    if sameW (lineOf was a) (lineOf p.2 a) then p else (p.1 + 1, if keptB keep p.1 then putLine p.2 a (lineOf was a) else p.2)
def PM.was (M : PM) : Nat → Int := match M.fin with | some g => g | none => M.seen
def PM.crash (M : PM) (keep : Int) : PM :=
  { M with seen := (crashI M.was keep M.lasts M.n).2, lasts := (crashI M.was keep M.lasts M.n).2, way := fun _ => none, fuse := -1, fin := none }
theorem crashI_le (was : Nat → Int) (keep : Int) (lasts : Nat → Int) (a : Nat) : (crashI was keep lasts a).1 ≤ a := by
  induction a with
  | zero => exact Nat.le_refl _
  | succ a ih =>
    unfold crashI
    simp only
    split
    · omega
    · simp; omega
end Go.Proofs.Ytbflennacniacaa
