/- sched.Turns, by its contract. -/
import Derived.Test.YtihkjpfibogpdaaPick
import Derived.OwnWalk
import Derived.Laws.OwnMore
namespace Go.Proofs.Ytihkjpfibogpdaa
open Go.RowKit
set_option linter.unusedVariables false
theorem infoInt : (Try.prog.info? 3).map (fun i => (i.zero, i.size, i.bytes)) = some (some (.int .i64 0), 1, 8) := by kernel_rfl
/-- A row of numbers that this call owns. -/
def OwnInts (base : Nat) (w : World) (v : Value) (xs : List Int) : Prop := w.ownsRow base 3 1 v xs.length (xs.map (Value.int .i64))
theorem OwnInts.form {base : Nat} {w : World} {v : Value} {xs : List Int} (h : OwnInts base w v xs) : ∃ A cap, v = .slice A xs.length cap ∧ xs.length ≤ cap ∧ cap ≤ maxLen ∧ Reads w A xs.length (xs.map (Value.int .i64)) := by
  rcases h.2 with ⟨hv, h0⟩ | ⟨g, cap, cur, hv, hb, hg, hnc, hcm, hcs, htk⟩
  · refine ⟨.none, 0, by rw [hv, h0], by omega, by omega, by simp, fun h1 => absurd h1 (by omega)⟩
  · refine ⟨_, cap, hv, hnc, hcm, by simp, fun hn => ⟨g, 0, rfl, (Array.getElem?_eq_some_iff.1 hg).1, fun j hj => ?_⟩⟩
    have h2 := h
    unfold OwnInts at h2
    rw [hv] at h2
    rw [Nat.zero_add]
    exact h2.cellAt j (by omega)
theorem OwnInts.ge {base : Nat} {w : World} {v : Value} {xs : List Int} (h : OwnInts base w v xs) : ∀ k, v.ownBlock = some k → base ≤ k := fun k hk => (World.ownsRow.lt h k hk).1
theorem OwnInts.nil (base : Nat) (w : World) : OwnInts base w (.slice .none 0 0) [] := World.ownsRow_nil _ _ _ _
/-- Which core a pick chooses. -/
def turnV (C : Nat) (p : Int) : Nat := (IntKind.u64.wrap p).toNat % C
def turnsL (cores : Int) (ps : List Int) : List Int := if cores < 1 then [] else ps.map fun p => (turnV cores.toNat p : Int)
theorem turn_rem (C : Nat) (p : Int) : (IntKind.u64.wrap p).tmod (C : Int) = (turnV C p : Int) := by
  unfold turnV
  obtain ⟨y, _, hy⟩ := Cv.wrap_u64_any p
  rw [hy]
  simp only [Int.toNat_natCast]
  rfl
set_option maxHeartbeats 1000000 in
theorem turns_any (A : Option Addr) (n c : Nat) (ps : List Int) (cores : Int) (w : World) (h : Reads w A n (ps.map (Value.int .i64))) (hn : n ≤ 17592186043904) (hc : cores ≤ 9223372036854775807) :
    Calls Try.prog 45 #[.int .i64 cores, .slice A n c] w fun e w' => ∃ v, e = .returned v ∧ OwnInts w.heap.size w' v (turnsL cores ps) ∧ Below w.heap.size w w' := by
  have hlen : ps.length = n := by simpa using h.1
  have HH := Lib.hid h
  have HL := Lib.hid hlen
  clear h hlen
  obtain ⟨i0, hi, hz0, hz1, hz2⟩ := info_parts infoInt
  by_cases hc1 : cores < 1
  · obtain ⟨xs, hxs⟩ : ∃ xs, turnsL cores ps = xs := ⟨_, rfl⟩
    have hnil : xs = [] := by rw [← hxs]; unfold turnsL; rw [if_pos hc1]
    rw [hxs, hnil]
    go_enter Try.func45, Try.ntmps45
    go_wp2_with fail
    go_ret
    exact ⟨_, rfl, OwnInts.nil _ _, Below.refl _ _⟩
  · obtain ⟨C, rfl⟩ : ∃ C : Nat, cores = (C : Int) := ⟨cores.toNat, by omega⟩
    obtain ⟨xs, hxs⟩ : ∃ xs, turnsL C ps = xs := ⟨_, rfl⟩
    have hxs2 : ps.map (fun p => (turnV C p : Int)) = xs := by rw [← hxs]; unfold turnsL; rw [if_neg hc1]; rfl
    have hxl : xs.length = n := by rw [← hxs2, List.length_map]; exact HL.out
    rw [hxs]
    have q0 : ((C : Int) == 0) = false := by rw [beq_eq_false_iff_ne]; omega
    have hC0 : 0 < C := by omega
    have HX := Lib.hid hxs2
    have HXL := Lib.hid hxl
    clear hxs hxs2 hxl hc1
    go_enter Try.func45, Try.ntmps45
    go_wp2_with fail
    go_loopw [5, 7, 12] (fun v _ i wr => ∃ k : Nat, k ≤ n ∧ i = .int .i64 k ∧ wr.ownsRow w.heap.size 3 1 v k ((xs.take k).map (Value.int .i64)) ∧ Below w.heap.size w wr) (fun _ _ i _ => n - (intOf i).toNat)
    case atStart => exact ⟨0, by omega, rfl, World.ownsRow_nil _ _ _ _, Below.refl _ _⟩
    case round =>
      obtain ⟨k, hk, rfl, hown, hbel⟩ := hrel
      have HO := Lib.hid hown
      have HB := Lib.hid hbel
      by_cases hlt : k < n
      · obtain ⟨g, off, rfl, hg, hcc⟩ := HH.out.2 (by omega)
        have hkp : k < ps.length := by rw [HL.out]; exact hlt
        obtain ⟨p, hp⟩ : ∃ p, ps[k] = p := ⟨_, rfl⟩
        have ck0 := hcc k hlt
        rw [List.getElem?_map, List.getElem?_eq_getElem hkp, hp] at ck0
        simp only [Option.map_some] at ck0
        have ck := (hbel.cell (p := ⟨g, off + k, .none⟩) hg).trans ck0
        have hrem := turn_rem C p
        obtain ⟨t, ht⟩ : ∃ t, turnV C p = t := ⟨_, rfl⟩
        have htC : t < C := by rw [← ht]; exact Nat.mod_lt _ hC0
        rw [ht] at hrem
        have hxk : xs.take (k + 1) = xs.take k ++ [(t : Int)] := by
          have hkx : k < xs.length := by rw [HXL.out]; exact hlt
          rw [List.take_succ_eq_append_getElem hkx]
          congr 1
          have : xs[k] = (turnV C ps[k] : Int) := by simp only [← HX.out, List.getElem_map]
          rw [this, hp, ht]
        have HK := Lib.hid hxk
        clear hown hbel hcc ck0 hp ht hxk
        go_wp2_with (at_builtin; refine wpList_append_own _ rfl _ _ 39 rfl w.heap.size 3 i0 (.int .i64 0) 1 8 Try.underlying39 hi hz0 hz1 hz2 rfl (by decide) _ k _ rfl (HO.out.alloc _) ⟨wr.heap.size, 0, .none⟩ 1 1 [.int .i64 t] rfl rfl ?ca1 ?ca2 ?ca3 ?ca4 ?ca5 ?_)
        case ca1 => exact cell_one_new _ _ _
        case ca2 => intro u hu; simp at hu; subst hu; rfl
        case ca3 => unfold maxLen; omega
        case ca4 => omega
        case ca5 => have := HB.out.size; simp; omega
        intro v' w2 hown' hgrow _
        have hb2 : Below w.heap.size w w2 := (HB.out.alloc HB.out.size _).grown hgrow (by have := HB.out.size; simp; omega) (fun x hx => (HO.out.lt x hx).1)
        have hown2 : w2.ownsRow w.heap.size 3 1 v' (k + 1) ((xs.take (k + 1)).map (Value.int .i64)) := by
          rw [HK.out, List.map_append, List.map_take]
          exact hown'
        have HO2 := Lib.hid hown2
        have HB2 := Lib.hid hb2
        clear hown' hgrow hb2 hown2
        go_wp2_with fail
        go_roundw
        case rel => exact ⟨k + 1, by omega, by go_num, HO2.out, HB2.out⟩
        case measure => simp [intOf]; omega
      · obtain rfl : k = n := by omega
        clear hown hbel
        go_wp2_with fail
        go_ret
        refine ⟨_, rfl, ?_, HB.out⟩
        unfold OwnInts
        rw [HXL.out]
        have h := HO.out
        rw [List.take_of_length_le (by rw [HXL.out]; omega)] at h
        exact h
end Go.Proofs.Ytihkjpfibogpdaa
