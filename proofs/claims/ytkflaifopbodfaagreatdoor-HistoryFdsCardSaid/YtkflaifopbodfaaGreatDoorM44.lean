/- Parts of the proof, side by side: HistLegal, FsNew, HistVal, HistSet, Awake25. -/
import Derived.Test.YtkflaifopbodfaaGreatDoorM43
import Derived.Carry
import Derived.Test.YtkflaifopbodfaaGreatDoorM03
import Derived.Test.YtkflaifopbodfaaGreatDoorM01
import Derived.Laws.ResultCell
import Derived.Deep.WholeRow
set_option linter.unusedVariables false
set_option linter.unusedSimpArgs false
namespace Go.Proofs.YtkflaifopbodfaaGreatDoor
open Go.RowKit Go.Maps
def legV (s : St) (ops : List Op) : Bool × Int := if askV s ops = 0 then (rowD ops [] s 0, 0) else (false, askV s ops)
theorem askV_zero {s : St} {ops : List Op} (h : askV s ops = 0) : mayV s = true ∧ ops.length ≤ 10 := by
 unfold askV at h
 split at h
 ·omega
 ·rename_i h1
  split at h
  ·omega
  ·split at h
   ·omega
   ·exact ⟨by simpa using h1, by omega⟩
theorem box_se (w1 : World) (B : Option Addr) (n cap : Nat) (lb : ByteArray) (ops : List Op) : ∃ W, (w1.alloc (.map #[] 0)).alloc (.cells #[.slice B n cap, .map (some w1.heap.size), .string lb] 59) = W ∧
  SeAt W (w1.heap.size + 1) B n cap w1.heap.size lb ∧ VainAt W w1.heap.size 0 ops lb.data.toList ∧ Below w1.heap.size w1 W ∧ W.heap.size = w1.heap.size + 2 := by
 have hz : (w1.alloc (.map #[] 0)).heap.size = w1.heap.size + 1 := by simp
 refine ⟨_, rfl, ?_, (VainAt.made w1 ops _).below ((Below.refl _ _).alloc (Nat.le_refl _) _), ((Below.refl _ _).alloc (Nat.le_refl _) _).alloc (by omega) _, by simp⟩
 have := heap_alloc_new (w1.alloc (.map #[] 0)) (.cells #[.slice B n cap, .map (some w1.heap.size), .string lb] 59)
 rw [hz] at this
 exact this
theorem row_run (W : World) (B : Option Addr) (n cap p fm : Nat) (lb : ByteArray) (v : Value) (s : St) (ops : List Op) (hse : SeAt W p B n cap fm lb) (ho : OpsAt W B n ops) (hs : StAt none W v s) (hm : mayV s = true) (hT : Tab W) (hn : n ≤ 10) (hv : VainAt W fm 0 ops lb.data.toList) :
  Calls Tryz.prog 16 #[.pointer (some ⟨p, 0, none⟩), v, .int .i64 0] W fun e w' => e = .returned (.bool (rowD ops lb.data.toList s 0)) ∧ Below fm W w' := by
 have h := run_any (leftN n 0) p fm B n cap lb 0 0 v s ops W rfl hse ho hs hm hT hn (Nat.two_pow_pos n) hv (by have := capN_le (Nat.le_trans (leftN_le n 0) hn); omega)
 refine h.mono ?_
 rintro e w' ⟨h1, _, _, h4⟩
 exact ⟨h1, h4⟩
set_option maxRecDepth 100000 in
set_option maxHeartbeats 4000000 in
theorem legal_any (v : Value) (s : St) (B : Option Addr) (n cap : Nat) (ops : List Op) (w : World) (hs : StAt none w v s) (ho : OpsAt w B n ops) (hT : Tab w) (hn : n ≤ 1099511627776) :
  Calls Tryz.prog 10 #[v, .slice B n cap] w fun e w' => e = .returned (.tuple #[.bool (legV s ops).1, .int .i64 (legV s ops).2]) ∧ Below w.heap.size w w' := by
 obtain ⟨A, n', c', E, l, d', D, k, e, rfl, i1, i2, i3, i4, i5, i6⟩ := hs.at_
 obtain ⟨W, hW, a0, a1, a2, hal, hlt0⟩ := box_st w A n' c' E l d' D k e
 have hpt : PtrAt W w.heap.size s := ⟨⟨A, n', c', E, l, d', D, k, e, by rw [← hW]; exact heap_alloc_new w _, i1.below hal, i2.below hal, i3.below hal, i4, i5, i6⟩, hs.sized⟩
 have HS := Lib.hid (hs.below hal)
 have HO := Lib.hid (ho.below hal)
 have HT := Lib.hid (hT.below hal)
 have HB0 := Lib.hid hal
 have HL := Lib.hid ho.1
 clear hs ho hT hal i1 i2 i3 i4 i5 i6
 obtain ⟨R, hR⟩ : ∃ R, askV s ops = R := ⟨_, rfl⟩
 have HR := Lib.hid hR
 go_enter Tryz.func10, Tryz.ntmps10
 go_wp2_with fail
 have h1 := asked_any w.heap.size s B n cap ops W hpt HO.out hn
 rw [hR] at h1
 clear hR
 refine h1.mono ?_
 clear h1
 rintro e1 w1 ⟨rfl, hb1⟩
 have HB1 := Lib.hid hb1
 have x0 := (hb1.cell (p := ⟨w.heap.size, 0, none⟩) hlt0).trans a0
 have x1 := (hb1.cell (p := ⟨w.heap.size, 1, none⟩) hlt0).trans a1
 have x2 := (hb1.cell (p := ⟨w.heap.size, 2, none⟩) hlt0).trans a2
 clear hb1
 by_cases h0 : R = 0
 ·subst h0
  obtain ⟨hmay, hlen⟩ := askV_zero HR.out
  have HLV := Lib.hid (show legV s ops = (rowD ops [] s 0, 0) by unfold legV; rw [if_pos HR.out])
  obtain ⟨W2, hW2, hse, hva, hb2, hz2⟩ := box_se w1 B n cap ⟨#[]⟩ ops
  have HSE := Lib.hid hse
  have HVA := Lib.hid hva
  have HB2 := Lib.hid hb2
  have hlt1 := Nat.lt_of_lt_of_le hlt0 HB1.out.size
  have y0 := (hb2.cell (p := ⟨w.heap.size, 0, none⟩) hlt1).trans x0
  have y1 := (hb2.cell (p := ⟨w.heap.size, 1, none⟩) hlt1).trans x1
  have y2 := (hb2.cell (p := ⟨w.heap.size, 2, none⟩) hlt1).trans x2
  have HM := Lib.hid hmay
  have HLEN := Lib.hid hlen
  clear hse hva hb2 hmay hlen hz2
  have hmm := @run_makeMap Tryz.prog
  go_wp2_with fail
  try rw [hW2]
  refine (row_run W2 B n cap (w1.heap.size + 1) w1.heap.size ⟨#[]⟩ _ s ops HSE.out ((HO.out.below HB1.out).below HB2.out) ((HS.out.below HB1.out).below HB2.out) HM.out ((HT.out.below HB1.out).below HB2.out) (by rw [← HL.out]; exact HLEN.out) HVA.out).mono ?_
  rintro e2 w3 ⟨rfl, hb3⟩
  have HB3 := Lib.hid (Cv.next (Cv.next HB0.out HB1.out) (HB2.out.trans hb3))
  clear hb3
  go_wp2_with fail
  refine bodyPost_ret (results_tmp2 rfl _ _ _) rfl ?_
  exact ⟨by rw [HLV.out]; rfl, HB3.out⟩
 ·have HLV := Lib.hid (show legV s ops = (false, R) by unfold legV; rw [HR.out, if_neg h0])
  have hR0 : (R != 0) = true := by rw [bne_iff_ne]; exact h0
  clear h0
  go_wp2_with fail
  refine bodyPost_ret (results_tmp2 rfl _ _ _) rfl ?_
  exact ⟨by rw [HLV.out]; rfl, Cv.next HB0.out HB1.out⟩
end Go.Proofs.YtkflaifopbodfaaGreatDoor
namespace Go.Proofs.YtkflaifopbodfaaGreatDoor
open Go.RowKit
theorem make_ints (N : Nat) (h : N ≤ 65536) (w : World) : ∃ W, (Instr.makeSlice 25 (.int .i64 (N : Int)) (.int .i64 (N : Int))).run Tryz.prog w = .ok (.slice (some ⟨w.heap.size, 0, .none⟩) N N) W ∧ IntsAt (some w.heap.size) W (some ⟨w.heap.size, 0, .none⟩) N (List.replicate N 0) ∧ Below w.heap.size w W := by
 refine ⟨_, run_make_row' (P := Tryz.prog) 25 3 (.int .i64 0) 8 Tryz.underlying25 infoNum rfl .i64 .i64 N (by omega) (by omega) w, ⟨by simp, fun hn => ⟨w.heap.size, 0, rfl, by simp, fun B hB => ?_, fun j x hx => ?_⟩⟩, (Below.refl _ _).alloc (Nat.le_refl _) _⟩
 ·cases hB
  exact ⟨Nat.le_refl _, _, heap_alloc_new w _⟩
 ·have hj : j < N := by have := (List.getElem?_eq_some_iff.1 hx).1; simpa using this
  have h0 : x = 0 := by rw [List.getElem?_replicate, if_pos hj] at hx; exact (Option.some.inj hx).symm
  subst h0
  rw [Nat.zero_add]
  refine (cell_of_row _ w.heap.size _ _ _ (0, 0) (heap_alloc_new w _)).trans ?_
  simp [madeCells, hj, Nat.mod_one]
set_option maxRecDepth 100000 in
set_option maxHeartbeats 4000000 in
theorem new_any (n : Nat) (h1 : 1 ≤ n) (h8 : n ≤ 8) (w : World) :
  Calls Tryz.prog 8 #[.int .i64 (n : Int)] w fun e w' => ∃ v, e = .returned (.tuple #[v, .int .i64 0]) ∧ StAt (some w.heap.size) w' v (newV n) ∧ Below w.heap.size w w' := by
 have q1 : decide ((n : Int) < 1) = false := by rw [decide_eq_false_iff_not]; omega
 have q2 : decide ((8 : Int) < (n : Int)) = false := by rw [decide_eq_false_iff_not]; omega
 obtain ⟨W1, hW1⟩ : ∃ W1, w.alloc (.cells #[.slice none 0 0, .slice none 0 0, .slice none 0 0] 27) = W1 := ⟨_, rfl⟩
 have o1 : OutAt W1 w.heap.size (.slice none 0 0) (.slice none 0 0) (.slice none 0 0) := by rw [← hW1]; exact heap_alloc_new w _
 have l1 : Below w.heap.size w W1 := by rw [← hW1]; exact (Below.refl _ _).alloc (Nat.le_refl _) _
 have z1 : W1.heap.size = w.heap.size + 1 := by rw [← hW1]; simp
 obtain ⟨W2, hW2⟩ : ∃ W2, W1.alloc (.cells #[.int .i64 1, .bool true, .slice none 0 0, .string ⟨#[]⟩] 53) = W2 := ⟨_, rfl⟩
 have i2 : W2.heap[W1.heap.size]? = some (.cells #[.int .i64 1, .bool true, .slice none 0 0, .string ⟨#[]⟩] 53 (0, 0)) := by rw [← hW2]; exact heap_alloc_new W1 _
 have l2 : Below W1.heap.size W1 W2 := by rw [← hW2]; exact (Below.refl _ _).alloc (Nat.le_refl _) _
 have z2 : W2.heap.size = W1.heap.size + 1 := by rw [← hW2]; simp
 obtain ⟨W3, hmk, hints, l3⟩ := make_ints n (by omega) W2
 have i3 := (l3.block W1.heap.size (by omega)).trans i2
 have o3 : OutAt W3 w.heap.size (.slice none 0 0) (.slice none 0 0) (.slice none 0 0) := ((l2.trans (l3.mono (by omega))).block w.heap.size (by omega)).trans o1
 have hb3 : Below w.heap.size w W3 := Cv.next l1 (Cv.next l2 l3)
 obtain ⟨g0, g1, g2, gf⟩ := o3.get
 have gf0 := gf 0
 have gf1 := gf 1
 have gf2 := gf 2
 obtain ⟨W4, hW4, o4, k4, b4⟩ := o3.three (.slice (some ⟨W1.heap.size, 0, none⟩) 1 1) (.slice none 0 0) (.slice (some ⟨W2.heap.size, 0, none⟩) n n)
 have i4 := ((k4 53 (by decide)).same _ _ i3).trans i3
 have hi : InosAt (some w.heap.size) W4 (some ⟨W1.heap.size, 0, none⟩) 1 [⟨1, true, [], txt []⟩] := by
  refine ⟨rfl, fun _ => ⟨W1.heap.size, 0, rfl, (Array.getElem?_eq_some_iff.1 i4).1, fun B hB => ?_, fun j x hx => ?_⟩⟩
  ·cases hB
   exact ⟨by omega, _, i4⟩
  ·have hj : j = 0 := by have := (List.getElem?_eq_some_iff.1 hx).1; simpa using this
   subst hj
   have ex : (⟨1, true, [], txt []⟩ : Ino) = x := by simpa using hx
   subst ex
   refine ⟨?_, ?_, ⟨none, 0, 0, ?_, ⟨Nat.le_refl _, fun _ => rfl⟩, rfl, fun h => absurd h (by omega)⟩, ?_⟩ <;> (rw [cell_of_row W4 W1.heap.size _ _ _ (0, 0) i4]; rfl)
 have hd : DescsAt (some w.heap.size) W4 none 0 [] := ⟨rfl, fun h => absurd h (by omega)⟩
 have hm : IntsAt (some w.heap.size) W4 (some ⟨W2.heap.size, 0, none⟩) n (List.replicate n 0) := (hints.keep (k4 _ (by decide))).mono (by omega)
 have hst : StAt (some w.heap.size) W4 (.agg #[.slice (some ⟨W1.heap.size, 0, none⟩) 1 1, .slice none 0 0, .slice (some ⟨W2.heap.size, 0, none⟩) n n]) (newV n) := by
  refine ⟨⟨_, 1, 1, _, 0, 0, _, n, n, rfl, hi, hd, hm, ⟨Nat.le_refl _, fun h => by cases h⟩, ⟨Nat.le_refl _, fun _ => rfl⟩, ⟨Nat.le_refl _, fun h => by cases h⟩⟩, ⟨?_, ?_, ?_, ?_⟩⟩
  ·show 1 + bulkE [⟨1, true, [], txt []⟩] + 0 + (List.replicate n (0 : Int)).length ≤ _
   rw [List.length_replicate]
   show 1 + 0 + 0 + n ≤ _
   omega
  ·intro x hx
   have ex : x = ⟨1, true, [], txt []⟩ := by simpa [newV] using hx
   subst ex
   exact ⟨Nat.zero_le _, fun e he => by cases he⟩
  ·intro x hx
   have ex : x = ⟨1, true, [], txt []⟩ := by simpa [newV] using hx
   subst ex
   exact ⟨by show (-9223372036854775808 : Int) ≤ 1; omega, by show (1 : Int) ≤ 9223372036854775807; omega, fun e he => by cases he⟩
  ·intro x hx
   have ex : x = 0 := by
    have := List.mem_replicate.1 (show x ∈ List.replicate n (0 : Int) from hx)
    exact this.2
   subst ex
   omega
 have HST := Lib.hid hst
 have HB4 := Lib.hid (b4 _ _ (Nat.le_refl _) hb3)
 have HO4 := Lib.hid o4
 obtain ⟨t0, t1, t2, _⟩ := o4.get
 clear hst hi hd hm i4 i3 i2 o1 o3 o4 k4 b4 l1 l2 l3 hb3 hints z1 z2 gf
 go_enter Tryz.func8, Tryz.ntmps8
 go_wp2_with fail
 (try simp only [Exit.inBlock, Exit.then])
 refine bodyPost_ret (v := .tuple #[.agg #[.slice (some ⟨W1.heap.size, 0, none⟩) 1 1, .slice none 0 0, .slice (some ⟨W2.heap.size, 0, none⟩) n n], .int .i64 0]) ?_ rfl ⟨_, rfl, HST.out, HB4.out⟩
 rw [results_cell_tmp rfl]
 have hload := run_loadVar_row (P := Tryz.prog) W4 w.heap.size _ 27 _ (0, 0) _ HO4.out Tryz.underlying27 rfl (by kernel_rfl)
 simp [asAddr, hload, Result.andThen]
def oneOp (c : Ca) (code fd : Int) (b e : Int) : Op := ⟨c, ⟨code, fd, 0, false, ⟨#[]⟩, []⟩, b, e⟩
def callC : Ca := ⟨0, 0, 0, 0, 0, ⟨#[47, 97]⟩, ⟨#[]⟩, ⟨#[]⟩⟩
def callD : Ca := ⟨0, 1, 0, 0, 0, ⟨#[47, 97]⟩, ⟨#[]⟩, ⟨#[]⟩⟩
def callS : Ca := ⟨13, 1, 0, 0, 0, ⟨#[47, 97]⟩, ⟨#[]⟩, ⟨#[]⟩⟩
theorem op_flat {α : Type} (f : α → List Value) (k : Nat) (hk : ∀ x, (f x).length = k) : ∀ (l : List α) (q j : Nat) (o : α), l[q]? = some o → j < k → (l.flatMap f)[q * k + j]? = (f o)[j]?
 | [], q, j, o, h, _ => by simp at h
 | x :: l, 0, j, o, h, hj => by
  simp only [List.getElem?_cons_zero, Option.some.injEq] at h
  subst h
  rw [List.flatMap_cons, Nat.zero_mul, Nat.zero_add, List.getElem?_append_left (by rw [hk]; exact hj)]
 | x :: l, q + 1, j, o, h, hj => by
  rw [List.flatMap_cons, List.getElem?_append_right (by rw [hk, Nat.succ_mul]; omega), hk, show (q + 1) * k + j - k = q * k + j by rw [Nat.succ_mul]; omega]
  exact op_flat f k hk l q j o (by simpa using h) hj
theorem OpsAt.of_row {w : World} {g : Nat} {cs : Array Value} {t : TypeId} {ops : List Op} (h : w.heap[g]? = some (.cells cs t (0, 0))) (hc : cs.toList = ops.flatMap (fun o => opC o none 0 0)) (hok : ∀ o ∈ ops, OpOk o ∧ o.res.names = []) : OpsAt w (some ⟨g, 0, none⟩) ops.length ops := by
 refine ⟨rfl, fun hn => ⟨g, 0, rfl, (Array.getElem?_eq_some_iff.1 h).1, fun q o hq => ?_⟩⟩
 obtain ⟨h1, h2⟩ := hok o (List.mem_of_getElem? hq)
 refine ⟨none, 0, 0, ⟨by omega, fun _ => rfl⟩, ?_, h1, (Array.getElem?_eq_some_iff.1 h).1, fun j x hx => ?_⟩
 ·rw [h2]
  exact ⟨rfl, fun h => absurd h (by omega)⟩
 ·rw [cell_of_row w g _ _ _ (0, 0) h, ← Array.getElem?_toList, hc]
  have hj : j < 16 := (List.getElem?_eq_some_iff.1 hx).1
  rw [Nat.zero_add, op_flat (fun o => opC o none 0 0) 16 (fun _ => rfl) ops q j o hq hj]
  exact hx
theorem box_ops (w : World) (cs : Array Value) (t : TypeId) (ops : List Op) (hc : cs.toList = ops.flatMap (fun o => opC o none 0 0)) (hok : ∀ o ∈ ops, OpOk o ∧ o.res.names = []) :
  ∃ W, w.alloc (.cells cs t) = W ∧ OpsAt W (some ⟨w.heap.size, 0, none⟩) ops.length ops ∧ Below w.heap.size w W :=
 ⟨_, rfl, OpsAt.of_row (heap_alloc_new w _) hc hok, (Below.refl _ _).alloc (Nat.le_refl _) _⟩
theorem ok_one25 (c : Ca) (code fd b e : Int) (h1 : c.path.size ≤ 140737488355328) (h2 : c.path2.size ≤ 140737488355328) (h3 : c.data.size ≤ 140737488355328) : OpOk (oneOp c code fd b e) ∧ (oneOp c code fd b e).res.names = [] := ⟨⟨h1, h2, h3, by show 0 ≤ _; omega⟩, rfl⟩
set_option maxRecDepth 100000 in
set_option maxHeartbeats 4000000 in
theorem after_any (c0 c1 c2 c3 c4 : Int) (s1 s2 s3 : ByteArray) (r0 r1 r2 : Int) (r3 : Bool) (r4 : ByteArray) (b e : Int) (w : World) :
  Calls Tryz.prog 9 #[.agg #[.int .i64 c0, .int .i64 c1, .int .i64 c2, .int .i64 c3, .int .i64 c4, .string s1, .string s2, .string s3], .agg #[.int .i64 r0, .int .i64 r1, .int .i64 r2, .bool r3, .string r4, .slice none 0 0], .int .i64 b, .int .i64 e] w fun ee w' => ee = .returned (.agg #[.int .i64 c0, .int .i64 c1, .int .i64 c2, .int .i64 c3, .int .i64 c4, .string s1, .string s2, .string s3, .int .i64 r0, .int .i64 r1, .int .i64 r2, .bool r3, .string r4, .slice none 0 0, .int .i64 b, .int .i64 e]) ∧ Below w.heap.size w w' := by
 obtain ⟨W1, hW1⟩ : ∃ W, w.alloc (.cells #[.int .i64 c0, .int .i64 c1, .int .i64 c2, .int .i64 c3, .int .i64 c4, .string s1, .string s2, .string s3] 32) = W := ⟨_, rfl⟩
 obtain ⟨W2, hW2⟩ : ∃ W, W1.alloc (.cells #[.int .i64 r0, .int .i64 r1, .int .i64 r2, .bool r3, .string r4, .slice none 0 0] 35) = W := ⟨_, rfl⟩
 obtain ⟨W3, hW3⟩ : ∃ W, W2.alloc (.cells #[.int .i64 c0, .int .i64 c1, .int .i64 c2, .int .i64 c3, .int .i64 c4, .string s1, .string s2, .string s3, .int .i64 r0, .int .i64 r1, .int .i64 r2, .bool r3, .string r4, .slice none 0 0, .int .i64 b, .int .i64 e] 37) = W := ⟨_, rfl⟩
 have z1 : W1.heap.size = w.heap.size + 1 := by rw [← hW1]; simp
 have z2 : W2.heap.size = w.heap.size + 1 + 1 := by rw [← hW2, ← z1]; simp
 have hr : W3.heap[w.heap.size + 1 + 1]? = some (.cells #[.int .i64 c0, .int .i64 c1, .int .i64 c2, .int .i64 c3, .int .i64 c4, .string s1, .string s2, .string s3, .int .i64 r0, .int .i64 r1, .int .i64 r2, .bool r3, .string r4, .slice none 0 0, .int .i64 b, .int .i64 e] 37 (0, 0)) := by rw [← hW3, ← z2]; exact heap_alloc_new W2 _
 have hb : Below w.heap.size w W3 := by
  rw [← hW3, ← hW2, ← hW1]
  exact (((Below.refl _ _).alloc (Nat.le_refl _) _).alloc (by simp) _).alloc (by simp; omega) _
 have HR := Lib.hid hr
 have HB := Lib.hid hb
 have HW1 := Lib.hid hW1
 have HW2 := Lib.hid hW2
 have HW3 := Lib.hid hW3
 clear z1 z2 hr hb hW1 hW2 hW3
 go_enter Tryz.func9, Tryz.ntmps9
 go_wp2_with fail
 rw [HW1.out, HW2.out, HW3.out]
 refine bodyPost_ret (results_cell_row rfl _ _ _ 37 _ (0, 0) _ rfl HR.out Tryz.underlying37 rfl (by kernel_rfl)) rfl ?_
 exact ⟨rfl, HB.out⟩
theorem num25 (n : Int) (w : World) : Calls Tryz.prog 11 #[.int .i64 n] w fun e w' => e = .returned (.int .i64 n) ∧ w = w' := by
 go_enter Tryz.func11, Tryz.ntmps11
 go_wp2_with fail
 go_ret
 exact ⟨rfl, rfl⟩
theorem cells16 {w : World} {g : Nat} {t : TypeId} {x0 x1 x2 x3 x4 x5 x6 x7 x8 x9 x10 x11 x12 x13 x14 x15 : Value} (h : w.heap[g]? = some (.cells #[x0, x1, x2, x3, x4, x5, x6, x7, x8, x9, x10, x11, x12, x13, x14, x15] t (0, 0))) : w.cell? ⟨g, 0, none⟩ = some x0 ∧ w.cell? ⟨g, 1, none⟩ = some x1 ∧ w.cell? ⟨g, 2, none⟩ = some x2 ∧ w.cell? ⟨g, 3, none⟩ = some x3 ∧ w.cell? ⟨g, 4, none⟩ = some x4 ∧ w.cell? ⟨g, 5, none⟩ = some x5 ∧ w.cell? ⟨g, 6, none⟩ = some x6 ∧ w.cell? ⟨g, 7, none⟩ = some x7 ∧ w.cell? ⟨g, 8, none⟩ = some x8 ∧ w.cell? ⟨g, 9, none⟩ = some x9 ∧ w.cell? ⟨g, 10, none⟩ = some x10 ∧ w.cell? ⟨g, 11, none⟩ = some x11 ∧ w.cell? ⟨g, 12, none⟩ = some x12 ∧ w.cell? ⟨g, 13, none⟩ = some x13 ∧ w.cell? ⟨g, 14, none⟩ = some x14 ∧ w.cell? ⟨g, 15, none⟩ = some x15 := by
 refine ⟨?_, ?_, ?_, ?_, ?_, ?_, ?_, ?_, ?_, ?_, ?_, ?_, ?_, ?_, ?_, ?_⟩ <;> (rw [cell_of_row w g _ _ _ (0, 0) h]; rfl)
theorem box16 (w : World) (x0 x1 x2 x3 x4 x5 x6 x7 x8 x9 x10 x11 x12 x13 x14 x15 : Value) : ∃ W, w.alloc (.cells #[x0, x1, x2, x3, x4, x5, x6, x7, x8, x9, x10, x11, x12, x13, x14, x15] 37) = W ∧ W.heap[w.heap.size]? = some (.cells #[x0, x1, x2, x3, x4, x5, x6, x7, x8, x9, x10, x11, x12, x13, x14, x15] 37 (0, 0)) ∧ Below w.heap.size w W ∧ w.heap.size < W.heap.size :=
 ⟨_, rfl, heap_alloc_new w _, (Below.refl _ _).alloc (Nat.le_refl _) _, by simp⟩
theorem set_times {w : World} {g : Nat} {x0 x1 x2 x3 x4 x5 x6 x7 x8 x9 x10 x11 x12 x13 x14 x15 : Value} (h : w.heap[g]? = some (.cells #[x0, x1, x2, x3, x4, x5, x6, x7, x8, x9, x10, x11, x12, x13, x14, x15] 37 (0, 0))) (y z : Value) : ∃ W, (w.setCell ⟨g, 14, none⟩ y).setCell ⟨g, 15, none⟩ z = W ∧ W.heap[g]? = some (.cells #[x0, x1, x2, x3, x4, x5, x6, x7, x8, x9, x10, x11, x12, x13, y, z] 37 (0, 0)) ∧
  (∀ k, k ≠ g → W.heap[k]? = w.heap[k]?) ∧ W.heap.size = w.heap.size ∧ (∀ B u, B ≤ g → Below B u w → Below B u W) ∧ (∀ B v s, StAt (some B) w v s → StAt (some B) W v s) := by
 have h1 := heap_setCell_same w g 14 _ _ y h
 have h2 := heap_setCell_same _ g 15 _ _ z h1
 refine ⟨_, rfl, h2, fun k hk => (Below.heap_setCell _ ⟨g, 15, none⟩ z k hk).trans (Below.heap_setCell w ⟨g, 14, none⟩ y k hk), by simp [World.setCell], fun B u hB hb => (hb.setCell (p := ⟨g, 14, none⟩) hB y).setCell (p := ⟨g, 15, none⟩) hB z, fun B v s hs => ?_⟩
 exact (hs.set ⟨_, h⟩ (by decide) (by decide) (by decide) (by decide) 14 y).set ⟨_, h1⟩ (by decide) (by decide) (by decide) (by decide) 15 z
theorem load_op {ops : Array Oper} {rest : List Oper} {o : Oper} {a : Act} {w : World} {Q : Exit → Act → World → Prop} (g : Nat) {cs : Array Value} (hg : w.heap[g]? = some (.cells cs 37 (0, 0))) (x : Operand) (hgd : o.guard = none) (ho : o.op = .load 37 x)
  (hx : a.eval x = .pointer (some ⟨g, 0, none⟩)) (hi : (Tryz.prog.info? 37).map (·.size) = some cs.size) (h : wpList Tryz.prog ops Q rest (a.put o.dst (.agg cs)) w) : wpList Tryz.prog ops Q (o :: rest) a w :=
 wpList_load_row hgd 37 x ho g hx 37 cs (0, 0) _ hg Tryz.underlying37 rfl hi h
theorem load_opW {ops : Array Oper} {rest : List Oper} {o : Oper} {a : Act} {w : World} {Q : Exit → Act → World → Prop} (g : Nat) {cs : Array Value} (hg : w.heap[g]? = some (.cells cs 37 (0, 0))) (x : Operand) (hgd : Region.wanted o (yielded ops a.tmps) = true) (ho : o.op = .load 37 x)
  (hx : a.eval x = .pointer (some ⟨g, 0, none⟩)) (hi : (Tryz.prog.info? 37).map (·.size) = some cs.size) (h : wpList Tryz.prog ops Q rest (a.put o.dst (.agg cs)) w) : wpList Tryz.prog ops Q (o :: rest) a w := by
 refine wpList_step fun K' hK' => ?_
 rw [if_pos hgd]
 exact wp_load_row 37 x ho g hx 37 cs (0, 0) _ hg Tryz.underlying37 rfl hi (hK' _ _ h)
def opA : Op := oneOp callC 0 0 0 3
def opB : Op := oneOp callS 1 0 1 2
def opB2 : Op := oneOp callS 1 0 4 5
def zeroOp : Op := oneOp ⟨0, 0, 0, 0, 0, ⟨#[]⟩, ⟨#[]⟩, ⟨#[]⟩⟩ 0 0 0 0
def z176 : Array Value := ((List.replicate 11 zeroOp).flatMap (fun o => opC o none 0 0)).toArray
theorem zero_ok : ∀ o ∈ List.replicate 11 zeroOp, OpOk o ∧ o.res.names = [] := fun o h => by
 rw [(List.mem_replicate.1 h).2]
 exact ok_one25 _ _ _ _ _ (by decide) (by decide) (by decide)
theorem info_op : (Tryz.prog.info? 37).map (fun i => (i.zero, i.size, i.bytes)) = some (some (.agg (opC zeroOp none 0 0).toArray), 16, 176) := by kernel_rfl
theorem make11 (w : World) : (Instr.makeSlice 42 (.int .i64 11) (.int .i64 11)).run Tryz.prog w = .ok (.slice (some ⟨w.heap.size, 0, none⟩) 11 11) (w.alloc (.cells z176 37)) := by
 obtain ⟨i, hi, hzz⟩ := Option.map_eq_some_iff.1 info_op
 simp only [Prod.mk.injEq] at hzz
 obtain ⟨hz, hs, hb⟩ := hzz
 have hr := run_make (P := Tryz.prog) w 42 37 i _ Tryz.underlying42 hi hz .i64 .i64 11 11 (by omega) (Int.le_refl _) (by rw [hb]; decide) (by omega)
 have e : madeCells (Value.agg (opC zeroOp none 0 0).toArray).cells (11 * 16) = z176 := by kernel_rfl
 simp only [hs] at hr
 rw [show (Int.toNat 11) = 11 from rfl, e] at hr
 exact hr
theorem leg1 : legV (newV 2) [opA, opB] = (true, 0) := by decide +kernel
theorem leg2 : legV (newV 2) [opA, opB2] = (false, 0) := by decide +kernel
theorem leg3 : legV ⟨[], [], []⟩ [] = (false, 2500) := by decide +kernel
theorem leg4 : legV (newV 2) (List.replicate 11 zeroOp) = (false, 2500) := by decide +kernel
theorem mayA : opMay opA = true := by decide +kernel
theorem stNil (w : World) : StAt none w (.agg #[.slice none 0 0, .slice none 0 0, .slice none 0 0]) ⟨[], [], []⟩ :=
 ⟨⟨none, 0, 0, none, 0, 0, none, 0, 0, rfl, ⟨rfl, fun h => absurd h (by omega)⟩, ⟨rfl, fun h => absurd h (by omega)⟩, ⟨rfl, fun h => absurd h (by omega)⟩, ⟨by omega, fun _ => rfl⟩, ⟨by omega, fun _ => rfl⟩, ⟨by omega, fun _ => rfl⟩⟩, ⟨by decide +kernel, by decide +kernel, by decide +kernel⟩⟩
set_option maxRecDepth 100000 in
set_option maxHeartbeats 8000000 in
theorem awake25 (w : World) (hT : Tab w) : Calls Tryz.prog 7 #[] w fun e w' => e = .returned (.bool true) ∧ Below w.heap.size w w' := by
 have HT := Lib.hid hT
 clear hT
 go_enter Tryz.func7, Tryz.ntmps7
 go_wp2_with fail
 refine (new_any 2 (by omega) (by omega) w).mono ?_
 rintro e w1 ⟨v1, rfl, hst1, hb1⟩
 obtain ⟨A1, n1, c1, E1, m1, d1, D1, k1, e1, rfl, _⟩ := hst1.at_
 obtain ⟨W1, hW1, p0, p1, p2, hal1, hl1⟩ := box_st w1 A1 n1 c1 E1 m1 d1 D1 k1 e1
 obtain ⟨Wa, hWa, ra, hala, hla⟩ := box16 W1 (.int .i64 0) (.int .i64 0) (.int .i64 0) (.int .i64 0) (.int .i64 0) (.string ⟨#[47, 97]⟩) (.string ⟨#[]⟩) (.string ⟨#[]⟩) (.int .i64 0) (.int .i64 0) (.int .i64 0) (.bool false) (.string ⟨#[]⟩) (.slice none 0 0) (.int .i64 0) (.int .i64 3)
 obtain ⟨Wb, hWb, rb, halb, hlb⟩ := box16 Wa (.int .i64 13) (.int .i64 1) (.int .i64 0) (.int .i64 0) (.int .i64 0) (.string ⟨#[47, 97]⟩) (.string ⟨#[]⟩) (.string ⟨#[]⟩) (.int .i64 1) (.int .i64 0) (.int .i64 0) (.bool false) (.string ⟨#[]⟩) (.slice none 0 0) (.int .i64 1) (.int .i64 2)
 obtain ⟨W4, hW4, hops, hal4⟩ := box_ops Wb #[.int .i64 0, .int .i64 0, .int .i64 0, .int .i64 0, .int .i64 0, .string ⟨#[47, 97]⟩, .string ⟨#[]⟩, .string ⟨#[]⟩, .int .i64 0, .int .i64 0, .int .i64 0, .bool false, .string ⟨#[]⟩, .slice none 0 0, .int .i64 0, .int .i64 3, .int .i64 13, .int .i64 1, .int .i64 0, .int .i64 0, .int .i64 0, .string ⟨#[47, 97]⟩, .string ⟨#[]⟩, .string ⟨#[]⟩, .int .i64 1, .int .i64 0, .int .i64 0, .bool false, .string ⟨#[]⟩, .slice none 0 0, .int .i64 1, .int .i64 2] 37 [opA, opB] rfl (by intro o h; rcases List.mem_cons.1 h with rfl | h; exact ok_one25 _ _ _ _ _ (by decide) (by decide) (by decide); rcases List.mem_cons.1 h with rfl | h; exact ok_one25 _ _ _ _ _ (by decide) (by decide) (by decide); cases h)
 have hlab := Nat.lt_of_lt_of_le hla halb.size
 have hl1a := Nat.lt_of_lt_of_le hl1 hala.size
 have hl1b := Nat.lt_of_lt_of_le hl1a halb.size
 have ra2 := (halb.block W1.heap.size hla).trans ra
 have pa0 := (hala.cell (p := ⟨w1.heap.size, 0, none⟩) hl1).trans p0
 have pa1 := (hala.cell (p := ⟨w1.heap.size, 1, none⟩) hl1).trans p1
 have pa2 := (hala.cell (p := ⟨w1.heap.size, 2, none⟩) hl1).trans p2
 have pb0 := (halb.cell (p := ⟨w1.heap.size, 0, none⟩) hl1a).trans pa0
 have pb1 := (halb.cell (p := ⟨w1.heap.size, 1, none⟩) hl1a).trans pa1
 have pb2 := (halb.cell (p := ⟨w1.heap.size, 2, none⟩) hl1a).trans pa2
 have HOPS := Lib.hid hops
 have HAL4 := Lib.hid (Cv.next hal1 (Cv.next hala (Cv.next halb hal4)))
 have HB1 := Lib.hid hb1
 have HST1 := Lib.hid hst1
 have HRA := Lib.hid ((hal4.block W1.heap.size hlab).trans ra2)
 have HRB := Lib.hid ((hal4.block Wa.heap.size hlb).trans rb)
 have HLA := Lib.hid hlab
 have HLB := Lib.hid hlb
 have HL1 := Lib.hid hl1b
 have HZ := Lib.hid (And.intro (Nat.lt_of_lt_of_le hlab hal4.size) (And.intro (Nat.lt_of_lt_of_le hlb hal4.size) (Nat.lt_of_lt_of_le hl1b hal4.size)))
 have HN1 := Lib.hid (show w1.heap.size < W1.heap.size ∧ W1.heap.size < Wa.heap.size ∧ Wa.heap.size < Wb.heap.size ∧ w.heap.size ≤ w1.heap.size from ⟨hl1, hla, hlb, hb1.size⟩)
 have HRW := Lib.hid ((hal4.block w1.heap.size hl1b).trans ((halb.block w1.heap.size hl1a).trans ((hala.block w1.heap.size hl1).trans (show W1.heap[w1.heap.size]? = some (.cells #[.slice A1 n1 c1, .slice E1 m1 d1, .slice D1 k1 e1] 27 (0, 0)) by rw [← hW1]; exact heap_alloc_new w1 _))))
 have HP4 := Lib.hid (show W4.cell? ⟨w1.heap.size, 0, none⟩ = some (.slice A1 n1 c1) ∧ W4.cell? ⟨w1.heap.size, 1, none⟩ = some (.slice E1 m1 d1) ∧ W4.cell? ⟨w1.heap.size, 2, none⟩ = some (.slice D1 k1 e1) from ⟨(hal4.cell (p := ⟨w1.heap.size, 0, none⟩) hl1b).trans pb0, (hal4.cell (p := ⟨w1.heap.size, 1, none⟩) hl1b).trans pb1, (hal4.cell (p := ⟨w1.heap.size, 2, none⟩) hl1b).trans pb2⟩)
 have HA2 := Lib.hid ra2
 have HB2 := Lib.hid rb
 clear hst1 hb1 hal1 hala halb hal4 ra ra2 rb hops hlab hl1 hla hlb hl1a hl1b p0 p1 p2 pa0 pa1 pa2
 go_wp2_with (first | (refine load_op W1.heap.size HA2.out _ rfl rfl rfl (by kernel_rfl) ?_) | (refine load_op Wa.heap.size HB2.out _ rfl rfl rfl (by kernel_rfl) ?_) | fail)
 refine (legal_any _ (newV 2) (some ⟨Wb.heap.size, 0, none⟩) 2 2 [opA, opB] W4 (HST1.out.weak.below HAL4.out) HOPS.out (HT.out.mono (HB1.out.trans (HAL4.out.mono HB1.out.size)) (Nat.le_refl _)) (by decide)).mono ?_
 rw [leg1]
 rintro e w5 ⟨rfl, hb5⟩
 obtain ⟨hza, hzb, hz1⟩ := HZ.out
 obtain ⟨W5, hW5, rb5, hoth, hsz5, hbs5, hst5⟩ := set_times ((hb5.block Wa.heap.size hzb).trans HRB.out) (.int .i64 4) (.int .i64 5)
 obtain ⟨hn1, hn2, hn3, hn4⟩ := HN1.out
 have hne1 : W1.heap.size ≠ Wa.heap.size := Nat.ne_of_lt hn2
 have hne2 : w1.heap.size ≠ Wa.heap.size := Nat.ne_of_lt (Nat.lt_trans hn1 hn2)
 have ra5 := (hoth _ hne1).trans ((hb5.block W1.heap.size hza).trans HRA.out)
 have rb50 := (hb5.block Wa.heap.size hzb).trans HRB.out
 have hrw : W5.heap[w1.heap.size]? = some (.cells #[.slice A1 n1 c1, .slice E1 m1 d1, .slice D1 k1 e1] 27 (0, 0)) := (hoth _ hne2).trans ((hb5.block w1.heap.size hz1).trans HRW.out)
 obtain ⟨u0, u1, u2, _⟩ := OutAt.get hrw
 have HA5 := Lib.hid ra5
 have HB50 := Lib.hid rb5
 obtain ⟨_, _, _, _, _, _, _, _, _, _, _, _, _, _, qc14, qc15⟩ := cells16 rb50
 have qf : ∀ j, (w5.frozen? ⟨Wa.heap.size, j, none⟩ = false) := fun j => frozen_of_row w5 Wa.heap.size j _ _ rb50
 have HST5 := Lib.hid (hst5 _ _ _ ((HST1.out.below HAL4.out).below hb5))
 have HB5 := Lib.hid (hbs5 w.heap.size w (Nat.le_of_lt (Nat.lt_of_le_of_lt hn4 (Nat.lt_trans hn1 hn2))) ((HB1.out.trans (HAL4.out.mono HB1.out.size)).trans (hb5.mono (Nat.le_trans HB1.out.size HAL4.out.size))))
 have hsz := hb5.size
 obtain ⟨W6, hW6, hops6, hal6⟩ := box_ops W5 #[.int .i64 0, .int .i64 0, .int .i64 0, .int .i64 0, .int .i64 0, .string ⟨#[47, 97]⟩, .string ⟨#[]⟩, .string ⟨#[]⟩, .int .i64 0, .int .i64 0, .int .i64 0, .bool false, .string ⟨#[]⟩, .slice none 0 0, .int .i64 0, .int .i64 3, .int .i64 13, .int .i64 1, .int .i64 0, .int .i64 0, .int .i64 0, .string ⟨#[47, 97]⟩, .string ⟨#[]⟩, .string ⟨#[]⟩, .int .i64 1, .int .i64 0, .int .i64 0, .bool false, .string ⟨#[]⟩, .slice none 0 0, .int .i64 4, .int .i64 5] 37 [opA, opB2] rfl (by intro o h; rcases List.mem_cons.1 h with rfl | h; exact ok_one25 _ _ _ _ _ (by decide) (by decide) (by decide); rcases List.mem_cons.1 h with rfl | h; exact ok_one25 _ _ _ _ _ (by decide) (by decide) (by decide); cases h)
 have HOPS6 := Lib.hid hops6
 have HAL6 := Lib.hid hal6
 have HRA6 := Lib.hid ((hal6.block W1.heap.size (by omega)).trans ra5)
 have HRW6 := Lib.hid ((hal6.block w1.heap.size (by omega)).trans hrw)
 have HZ6 := Lib.hid (show W1.heap.size < W6.heap.size ∧ w1.heap.size < W6.heap.size from ⟨Nat.lt_of_lt_of_le (by omega) hal6.size, Nat.lt_of_lt_of_le (by omega) hal6.size⟩)
 have HNE := Lib.hid hne1
 clear hb5 hoth hsz5 hbs5 hst5 ra5 rb5 rb50 hrw hsz hops6 hal6 hza hzb hz1 hn1 hn2 hn3 hn4 hne2 hne1
 go_wp2_with (first | (refine load_op W1.heap.size HA5.out _ rfl rfl rfl (by kernel_rfl) ?_) | (refine load_op Wa.heap.size HB50.out _ rfl rfl rfl (by kernel_rfl) ?_) | fail)
 refine (legal_any _ (newV 2) (some ⟨W5.heap.size, 0, none⟩) 2 2 [opA, opB2] W6 (HST5.out.weak.below HAL6.out) HOPS6.out (HT.out.mono (HB5.out.trans (HAL6.out.mono HB5.out.size)) (Nat.le_refl _)) (by decide)).mono ?_
 rw [leg2]
 rintro e w7 ⟨rfl, hb7⟩
 have HB6 := Lib.hid (HB5.out.trans (HAL6.out.mono HB5.out.size))
 have HB7 := Lib.hid (HB6.out.trans (hb7.mono HB6.out.size))
 have HRA7 := Lib.hid ((hb7.block W1.heap.size HZ6.out.1).trans HRA6.out)
 have HRW7 := Lib.hid ((hb7.block w1.heap.size HZ6.out.2).trans HRW6.out)
 have HST7 := Lib.hid ((HST5.out.weak.below HAL6.out).below hb7)
 clear hb7 u0 u1 u2 qc14 qc15 qf hW1 hWa hWb hW4 hW5 hW6
 go_wp2_with fail
 refine (legal_any _ ⟨[], [], []⟩ none 0 0 [] w7 (stNil _) ⟨rfl, fun h => absurd h (by omega)⟩ (HT.out.mono HB7.out (Nat.le_refl _)) (by decide)).mono ?_
 rw [leg3]
 rintro e w8 ⟨rfl, hb8⟩
 have HB8 := Lib.hid (HB7.out.trans (hb8.mono HB7.out.size))
 have hra8 := (hb8.block W1.heap.size (Array.getElem?_eq_some_iff.1 HRA7.out).1).trans HRA7.out
 have hrw8 := (hb8.block w1.heap.size (Array.getElem?_eq_some_iff.1 HRW7.out).1).trans HRW7.out
 have hl8 := (Array.getElem?_eq_some_iff.1 hrw8).1
 have hn8 : w8.heap.size ≠ w1.heap.size := Nat.ne_of_gt hl8
 have hn8' := Ne.symm hn8
 obtain ⟨s0, s1, s2, _⟩ := OutAt.get hrw8
 have HRA8 := Lib.hid hra8
 have HST8 := Lib.hid (HST7.out.below hb8)
 have hc : ∀ u : World, Below w8.heap.size w8 u → u.heap[w8.heap.size]? = some (.cells z176 37 (0, 0)) → Calls Tryz.prog 10 #[.agg #[.slice A1 n1 c1, .slice E1 m1 d1, .slice D1 k1 e1], .slice (some ⟨w8.heap.size, 0, none⟩) 11 11] u fun e w' => e = .returned (.tuple #[.bool false, .int .i64 2500]) ∧ Below w8.heap.size w8 w' := fun u hu hr => by
  have h1 := legal_any _ (newV 2) (some ⟨w8.heap.size, 0, none⟩) 11 11 (List.replicate 11 zeroOp) u (HST8.out.below hu) (OpsAt.of_row hr rfl zero_ok) ((HT.out.mono HB8.out (Nat.le_refl _)).below hu) (by decide)
  rw [leg4] at h1
  refine h1.mono ?_
  rintro e w' ⟨rfl, hb⟩
  exact ⟨rfl, hu.trans (hb.mono hu.size)⟩
 have HC := Lib.hid hc
 clear hb8 hra8 hrw8 hc
 go_wp2_with fail
 have hmk := make11
 go_region_held3 (fun w' => w'.cell? ⟨w1.heap.size, 0, none⟩ = some (.slice A1 n1 c1) ∧ w'.cell? ⟨w1.heap.size, 1, none⟩ = some (.slice E1 m1 d1) ∧ w'.cell? ⟨w1.heap.size, 2, none⟩ = some (.slice D1 k1 e1))
  (first | go_keep | (trace_state; fail))
  ((go_at_call 10; refine (HC.out _ (by first | exact (Cv.drewN_below (Below.refl _ _) 1).alloc (by simp) _) (by exact heap_alloc_new _ _)).mono ?_; rintro e9 w9 ⟨rfl, hb9⟩; have e0 := (hb9.cell (p := ⟨w1.heap.size, 0, none⟩) hl8).trans s0; have e1 := (hb9.cell (p := ⟨w1.heap.size, 1, none⟩) hl8).trans s1; have e2 := (hb9.cell (p := ⟨w1.heap.size, 2, none⟩) hl8).trans s2))
 have HRA9 := Lib.hid ((hb9.block W1.heap.size (Array.getElem?_eq_some_iff.1 HRA8.out).1).trans HRA8.out)
 have HB9 := Lib.hid (HB8.out.trans (hb9.mono HB8.out.size))
 clear hb9 s0 s1 s2 e0 e1 e2 hmk
 go_wp2_with fail
 refine (num25 _ _).mono ?_
 rintro _ _ ⟨rfl, rfl⟩
 go_wp2_with fail
 refine (num25 _ _).mono ?_
 rintro _ _ ⟨rfl, rfl⟩
 go_wp2_with fail
 refine (num25 _ _).mono ?_
 rintro _ _ ⟨rfl, rfl⟩
 go_wp2_with fail
 refine (num25 _ _).mono ?_
 rintro _ _ ⟨rfl, rfl⟩
 go_wp2_with (first | (refine load_opW W1.heap.size HRA9.out _ (by kernel_rfl) rfl rfl (by kernel_rfl) ?_) | fail)
 have h1 := hmay_any opA none 0 0 w9 ⟨by omega, fun _ => rfl⟩ ⟨rfl, fun h => absurd h (by omega)⟩ (by decide)
 rw [mayA] at h1
 refine h1.mono ?_
 rintro _ w10 ⟨rfl, hb10⟩
 have HB10 := Lib.hid (HB9.out.trans (hb10.mono HB9.out.size))
 clear h1 hb10
 go_wp2_with fail
 go_ret
 exact ⟨rfl, HB10.out⟩
end Go.Proofs.YtkflaifopbodfaaGreatDoor
