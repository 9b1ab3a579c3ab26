/- What the laws of chapter 3 ask of every program: awake. -/
import Derived.Test.YtihkjpfibogpdaaFair
import Derived.Test.YtihkjpfibogpdaaTurns
import Derived.Test.YtihkjpfibogpdaaSameInts
namespace Go.Proofs.Ytihkjpfibogpdaa
open Go.RowKit
set_option linter.unusedVariables false
theorem pick_lit (A : Option Addr) (n c : Nat) (bs : List Bool) (p x : Int) (y : Bool) (w : World) (h : Reads w A n (bs.map Value.bool)) (hn : n ≤ 9223372036854775806) (hx : pickV bs p = x) (hy : picks bs = y) :
    Calls Try.prog 41 #[.slice A n c, .int .i64 p] w fun e w' => e = .returned (.tuple #[.int .i64 x, .bool y]) ∧ Below w.heap.size w w' :=
  (pick_any A n c bs p w h hn).mono fun e w' ⟨he, hw⟩ => ⟨by rw [he, hx, hy], by rw [← hw]; exact Below.refl _ _⟩
theorem turns_lit (A : Option Addr) (n c : Nat) (ps xs : List Int) (cores : Int) (w : World) (h : Reads w A n (ps.map (Value.int .i64))) (hn : n ≤ 17592186043904) (hc : cores ≤ 9223372036854775807) (hx : turnsL cores ps = xs) :
    Calls Try.prog 45 #[.int .i64 cores, .slice A n c] w fun e w' => ∃ B cap, e = .returned (.slice B xs.length cap) ∧ Reads w' B xs.length (xs.map (Value.int .i64)) ∧ Below w.heap.size w w' :=
  (turns_any A n c ps cores w h hn hc).mono fun e w' ⟨v, he, ho, hb⟩ => by
    rw [hx] at ho
    obtain ⟨B, cap, hv, _, _, hr⟩ := ho.form
    exact ⟨B, cap, by rw [he, hv], hr, hb⟩
theorem ints_lit (A B : Option Addr) (n m c d : Nat) (ts us : List Int) (r : Bool) (w : World) (hr : decide (ts = us) = r) (ha : Reads w A n (ts.map (Value.int .i64))) (hb : Reads w B m (us.map (Value.int .i64))) (hn : n ≤ 9223372036854775806) (hm : m ≤ 9223372036854775806) :
    Calls Try.prog 44 #[.slice A n c, .slice B m d] w fun e w' => e = .returned (.bool r) ∧ Below w.heap.size w w' :=
  (sameints_any A B n m c d ts us w ha hb hn hm).mono fun e w' ⟨he, hb⟩ => ⟨by rw [he, hr], hb⟩
theorem fair_lit (A B : Option Addr) (n m c d : Nat) (rows : List (List Bool)) (ps : List Int) (win : Int) (r : Bool) (w : World) (hf : fairV rows ps win = r) (hr : Rows w A n rows) (hp : Reads w B m (ps.map (Value.int .i64)))
    (hn : n ≤ 9223372036854775806) (hm : m ≤ 140737488355328) (hps : ∀ p ∈ ps, wfI p) (hwin : wfI win) :
    Calls Try.prog 52 #[.slice A n c, .slice B m d, .int .i64 win] w fun e w' => e = .returned (.bool r) ∧ Below w.heap.size w w' :=
  (fair_any A B n m c d rows ps win w hr hp hn hm hps hwin).mono fun e w' ⟨he, hb⟩ => ⟨by rw [he, hf], hb⟩
/-- Values in a new block. -/
theorem reads_new (w : World) (b : Nat) (vs : List Value) (t : TypeId) (hb : b = w.heap.size) : Reads (w.alloc (.cells vs.toArray t)) (some ⟨b, 0, .none⟩) vs.length vs := by
  subst hb
  refine ⟨rfl, fun _ => ⟨w.heap.size, 0, rfl, by simp, fun j hj => ?_⟩⟩
  refine (World.cell?_alloc_mark w _ _ (0, 0) _).trans ?_
  simp
theorem pick_3 : pickV [false, true, true] 3 = 2 := by
  have h : IntKind.u64.wrap 3 = 3 := by decide
  unfold pickV pickAt
  rw [h]
  decide +kernel
theorem pick_1 : pickV [false] 3 = 0 := by decide +kernel
theorem turns_3 : turnsL 3 [4, 5] = [1, 2] := by
  have h : IntKind.u64.wrap 4 = 4 := by decide
  have h2 : IntKind.u64.wrap 5 = 5 := by decide
  simp only [turnsL, List.map, turnV, h, h2]
  decide +kernel
theorem bools3 (w : World) (k : Nat) (a b c : Bool) (t : TypeId) (hk : k = w.heap.size) : Reads (w.alloc (.cells #[.bool a, .bool b, .bool c] t)) (some ⟨k, 0, .none⟩) 3 ([a, b, c].map Value.bool) := reads_new w k [.bool a, .bool b, .bool c] t hk
theorem bools1 (w : World) (k : Nat) (a : Bool) (t : TypeId) (hk : k = w.heap.size) : Reads (w.alloc (.cells #[.bool a] t)) (some ⟨k, 0, .none⟩) 1 ([a].map Value.bool) := reads_new w k [.bool a] t hk
theorem bools2 (w : World) (k : Nat) (a b : Bool) (t : TypeId) (hk : k = w.heap.size) : Reads (w.alloc (.cells #[.bool a, .bool b] t)) (some ⟨k, 0, .none⟩) 2 ([a, b].map Value.bool) := reads_new w k [.bool a, .bool b] t hk
theorem ints2 (w : World) (k : Nat) (a b : Int) (t : TypeId) (hk : k = w.heap.size) : Reads (w.alloc (.cells #[.int .i64 a, .int .i64 b] t)) (some ⟨k, 0, .none⟩) 2 ([a, b].map (Value.int .i64)) := reads_new w k [.int .i64 a, .int .i64 b] t hk
theorem ints1 (w : World) (k : Nat) (a : Int) (t : TypeId) (hk : k = w.heap.size) : Reads (w.alloc (.cells #[.int .i64 a] t)) (some ⟨k, 0, .none⟩) 1 ([a].map (Value.int .i64)) := reads_new w k [.int .i64 a] t hk
theorem rows_new (w : World) (b : Nat) (vs : List Value) (rows : List (List Bool)) (t : TypeId) (hb : b = w.heap.size) (hl : vs.length = rows.length) (hbd : ∀ r ∈ rows, r.length ≤ 17592186043904)
    (h : ∀ j, j < rows.length → ∃ B m c, vs[j]? = some (.slice B m c) ∧ Reads w B m ((rows.getD j []).map Value.bool)) : Rows (w.alloc (.cells vs.toArray t)) (some ⟨b, 0, .none⟩) rows.length rows := by
  subst hb
  refine ⟨rfl, hbd, fun _ => ⟨w.heap.size, 0, rfl, by simp, fun j hj => ?_⟩⟩
  obtain ⟨B, m, c, h1, h2⟩ := h j hj
  refine ⟨B, m, c, ?_, h2.below ((Below.refl _ _).alloc (Nat.le_refl _) _)⟩
  refine (World.cell?_alloc_mark w _ _ (0, 0) _).trans ?_
  simpa using h1
theorem rows2 (w : World) (a b : Bool) (t t2 : TypeId) (b0 b1 b2 : Nat) (h0 : b0 = w.heap.size) (h1 : b1 = w.heap.size + 1) (h2 : b2 = w.heap.size + 1 + 1) :
    Rows (((w.alloc (.cells #[.bool a] t)).alloc (.cells #[.bool b] t)).alloc (.cells #[.slice (some ⟨b0, 0, .none⟩) 1 1, .slice (some ⟨b1, 0, .none⟩) 1 1] t2)) (some ⟨b2, 0, .none⟩) 2 [[a], [b]] := by
  refine rows_new _ b2 [.slice (some ⟨b0, 0, .none⟩) 1 1, .slice (some ⟨b1, 0, .none⟩) 1 1] [[a], [b]] t2 (by rw [h2]; simp) rfl (by intro r hr; simp at hr; rcases hr with rfl | rfl <;> simp) ?_
  intro j hj
  match j, hj with
  | 0, _ => exact ⟨_, _, _, rfl, (bools1 w b0 a t h0).below ((Below.refl _ _).alloc (Nat.le_refl _) _)⟩
  | 1, _ => exact ⟨_, _, _, rfl, bools1 _ b1 b t (by rw [h1]; simp)⟩
theorem rows1 (w : World) (a b : Bool) (t t2 : TypeId) (b0 b2 : Nat) (h0 : b0 = w.heap.size) (h2 : b2 = w.heap.size + 1) :
    Rows ((w.alloc (.cells #[.bool a, .bool b] t)).alloc (.cells #[.slice (some ⟨b0, 0, .none⟩) 2 2] t2)) (some ⟨b2, 0, .none⟩) 1 [[a, b]] := by
  refine rows_new _ b2 [.slice (some ⟨b0, 0, .none⟩) 2 2] [[a, b]] t2 (by rw [h2]; simp) rfl (by intro r hr; simp at hr; subst hr; simp) ?_
  intro j hj
  match j, hj with
  | 0, _ => exact ⟨_, _, _, rfl, bools2 w b0 a b t h0⟩
theorem fair_one : fairV [[true], [true]] [0, 0] 1 = true := by
  rw [fairV_iff, fairly_iff _ _ _ (by decide) (by decide)]
  intro i hi c hc hw
  have h1 := hw i (Nat.le_refl _) (by show i < i + 1; omega)
  have hi2 : i + 1 ≤ 2 := hi
  match i, hi2 with
  | 0, _ =>
    have hc0 : c < 1 := hc
    obtain rfl : c = 0 := by omega
    exact h1.2 rfl
  | 1, _ =>
    have hc0 : c < 1 := hc
    obtain rfl : c = 0 := by omega
    exact h1.2 rfl
theorem fair_two : fairV [[true, true]] [0] 1 = false := by
  rw [← Bool.not_eq_true, fairV_iff, fairly_iff _ _ _ (by decide) (by decide)]
  intro h
  refine h 0 (by decide) 1 (by decide) fun j h1 h2 => ?_
  have h3 : j < 0 + 1 := h2
  obtain rfl : j = 0 := by omega
  exact ⟨rfl, by decide⟩
theorem num3_any (n : Int) (w : World) : Calls Try.prog 29 #[.int .i64 n] w fun e w' => e = .returned (.int .i64 n) ∧ w = w' := by
  go_enter Try.func29, Try.ntmps29
  go_wp2
  go_ret
  exact ⟨rfl, rfl⟩
set_option maxRecDepth 100000 in
set_option maxHeartbeats 2000000 in
theorem awake3 (w : World) : Calls Try.prog 48 #[] w fun e w' => e = .returned (.bool true) ∧ Below w.heap.size w w' := by
  go_enter Try.func48, Try.ntmps48
  go_wp2_with fail
  refine (pick_lit _ 3 3 [false, true, true] 3 2 true _ (bools3 _ _ _ _ _ _ (by simp)) (by omega) pick_3 (by decide +kernel)).mono ?_
  rintro e wa ⟨rfl, hba⟩
  go_wp2_with fail
  refine (pick_lit _ 1 1 [false] 3 0 false _ (bools1 _ _ _ _ (by simp)) (by omega) pick_1 (by decide +kernel)).mono ?_
  rintro e wb ⟨rfl, hbb⟩
  go_wp2_with fail
  refine (turns_lit _ 2 2 [4, 5] [1, 2] 3 _ (ints2 _ _ _ _ _ (by simp)) (by omega) (by omega) turns_3).mono ?_
  rintro e w1 ⟨B1, c1, rfl, hr1, hb1⟩
  have R1 := Lib.hid hr1
  clear hr1
  go_wp2_with fail
  refine (ints_lit B1 _ 2 2 _ _ [1, 2] [1, 2] true _ (by decide +kernel) (R1.out.below ((Below.refl _ _).alloc (Nat.le_refl _) _)) (ints2 _ _ _ _ _ (by simp)) (by omega) (by omega)).mono ?_
  rintro e w2 ⟨rfl, hb2⟩
  go_wp2_with fail
  refine (fair_lit _ _ 2 2 2 2 [[true], [true]] [0, 0] 1 true _ fair_one ((rows2 _ _ _ _ _ _ _ _ rfl rfl rfl).below ((Below.refl _ _).alloc (Nat.le_refl _) _)) (ints2 _ _ _ _ _ (by simp)) (by omega) (by omega) (by intro p hp; simp at hp; subst hp; decide) (by decide)).mono ?_
  rintro e w3 ⟨rfl, hb3⟩
  go_wp2_with fail
  refine (fair_lit _ _ 1 1 1 1 [[true, true]] [0] 1 false _ fair_two ((rows1 _ _ _ _ _ _ _ rfl rfl).below ((Below.refl _ _).alloc (Nat.le_refl _) _)) (ints1 _ _ _ _ (by simp)) (by omega) (by omega) (by intro p hp; simp at hp; subst hp; decide) (by decide)).mono ?_
  rintro e w4 ⟨rfl, hb4⟩
  go_wp2_with (go_at_call 29; refine (num3_any _ _).mono ?_; rintro e w' ⟨rfl, rfl⟩)
  go_ret
  have al : ∀ (x : World) (o : Obj), Below x.heap.size x (x.alloc o) := fun x o => (Below.refl _ _).alloc (Nat.le_refl _) _
  have k1 := Cv.next (al w _) hba
  have k2 := Cv.next (Cv.next k1 (al _ _)) hbb
  have k3 := Cv.next (Cv.next k2 (al _ _)) hb1
  have k4 := Cv.next (Cv.next k3 (al _ _)) hb2
  have k5 := Cv.next (Cv.next (Cv.next (Cv.next (Cv.next k4 (al _ _)) (al _ _)) (al _ _)) (al _ _)) hb3
  exact ⟨rfl, Cv.next (Cv.next (Cv.next (Cv.next k5 (al _ _)) (al _ _)) (al _ _)) hb4⟩
end Go.Proofs.Ytihkjpfibogpdaa
