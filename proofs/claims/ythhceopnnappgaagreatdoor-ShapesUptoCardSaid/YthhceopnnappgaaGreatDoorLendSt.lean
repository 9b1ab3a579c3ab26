/- LendState: a state lent: another one, all of it new, with marked room. -/
import Derived.Test.YthhceopnnappgaaGreatDoorM42
import Derived.Deep.RegionHeld3
set_option linter.unusedVariables false
set_option linter.unusedSimpArgs false
namespace Go.Proofs.YthhceopnnappgaaGreatDoor
open Go.RowKit
def mkE : List Value := [.string ⟨#[126]⟩, .int .i64 0, .string ⟨#[126]⟩, .int .i64 0]
def mkD : List Value := [.int .i64 77777, .int .i64 0, .int .i64 0, .int .i64 77777, .int .i64 0, .int .i64 0]
def mkI : List Value := [.int .i64 (-7777), .int .i64 (-8888)]
structure LentRow (lo : Nat) (w : World) (V : Value) (n : Nat) (zs : List (Ino × Value)) : Prop where
 row : w.ownsRow lo 52 4 V n (zs.flatMap inoV)
 ents : ∀ z ∈ zs, ∃ E m c, z.2 = .slice E m c ∧ z.1.ents.length = m ∧ Lent lo w 84 2 E m c (z.1.ents.flatMap enV) mkE
def LentAt (lo : Nat) (w : World) (v : Value) (s : St) : Prop :=
 ∃ A n c B m d D k e zs, v = .agg #[.slice A n c, .slice B m d, .slice D k e] ∧ LentRow lo w (.slice A n c) n zs ∧ zs.map Prod.fst = s.inos ∧
  Lent lo w 67 3 B m d (s.opn.flatMap dsV) mkD ∧ s.opn.length = m ∧ Lent lo w 3 1 D k e (s.made.map (Value.int .i64)) mkI ∧ s.made.length = k ∧ Sized s
theorem boxZ (w : World) (a b c : Value) : ∃ V, w.alloc (.cells #[a, b, c] 26) = V ∧ V.heap.size = w.heap.size + 1 ∧ OutAt V w.heap.size a b c ∧ Below w.heap.size w V :=
 ⟨_, rfl, by simp, heap_alloc_new w _, (Below.refl _ _).alloc (Nat.le_refl _) _⟩
theorem Out.go {w w' : World} {p : Nat} {a b c : Value} (h : OutAt w p a b c) (hb : Below w.heap.size w w') : OutAt w' p a b c := (hb.block p (Array.getElem?_eq_some_iff.1 h).1).trans h
theorem row_le {B B' : Nat} {w : World} {e : TypeId} {k : Nat} {v : Value} {n : Nat} {xs : List Value} (h : w.ownsRow B e k v n xs) (hb : B' ≤ B) : w.ownsRow B' e k v n xs :=
 ⟨h.1, h.2.elim Or.inl (fun ⟨g, cap, cur, hv, hg, r⟩ => Or.inr ⟨g, cap, cur, hv, Nat.le_trans hb hg, r⟩)⟩
theorem row_keep {B : Nat} {w w' : World} {e : TypeId} {k : Nat} {v : Value} {n : Nat} {xs : List Value} (h : w.ownsRow B e k v n xs) (hk : KeepT e w w') : w'.ownsRow B e k v n xs :=
 ⟨h.1, h.2.elim Or.inl (fun ⟨g, cap, cur, hv, hg, hh, r⟩ => Or.inr ⟨g, cap, cur, hv, hg, (hk.same g cur hh).trans hh, r⟩)⟩
set_option maxRecDepth 100000 in
set_option maxHeartbeats 8000000 in
theorem lendstate_any (v : Value) (s : St) (w : World) (h : StAt none w v s) :
  Calls Tryz.prog 6 #[v] w fun e w' => ∃ v', e = .returned v' ∧ LentAt w.heap.size w' v' s ∧ Below w.heap.size w w' := by
 obtain ⟨⟨A, n, c, B, m, d, D, k, e, rfl, hI, hD, hM, h5, h6, h7⟩, hz⟩ := h
 have hbig := hz.big
 have hn2 : n ≤ 1099511627776 := by have := hI.1; omega
 have hm2 : m ≤ 1099511627776 := by have := hD.1; omega
 have hk2 : k ≤ 1099511627776 := by have := hM.1; omega
 obtain ⟨W, hW, hzW, hoW, hbW⟩ := boxZ w (.slice A n c) (.slice B m d) (.slice D k e)
 obtain ⟨W1, hW1, hzW1, hoW1, hbW1⟩ := boxZ W (.slice none 0 0) (.slice none 0 0) (.slice none 0 0)
 have HO := Lib.hid (Out.go hoW hbW1)
 have HO1 := Lib.hid hoW1
 have hb01 := Cv.next hbW hbW1
 have HB := Lib.hid hb01
 have HI := Lib.hid (hI.below hb01)
 have HLD := Lib.hid (show ∀ u, Below W1.heap.size W1 u → _ from fun u hu => lenddescs_any B m d s.opn u (((hD.below hb01)).below hu) h6 hm2)
 have HLI := Lib.hid (show ∀ u, Below W1.heap.size W1 u → _ from fun u hu => lendints_any D k e s.made u (((hM.below hb01)).below hu) h7 hk2)
 have HZ := Lib.hid hz
 have HDL := Lib.hid hD.1
 have HML := Lib.hid hM.1
 have HIL := Lib.hid hI.1
 have hlt0 : w.heap.size < W1.heap.size := by omega
 have hltR : W.heap.size < W1.heap.size := by omega
 have hwW : w.heap.size < W.heap.size := by omega
 obtain ⟨b0, b1, b2, _⟩ := HO.out.get
 clear hI hD hM hz h5 h6 h7 hoW hoW1 hbW hbW1 hb01 hbig hzW hzW1
 go_enter Tryz.func6, Tryz.ntmps6
 go_upto_region 1 with fail
 go_cut [3] (fun p wx => ∃ b B' d' D' e', p = .pointer (some ⟨b, 0, .none⟩) ∧ OutAt wx b (.slice none 0 0) (.slice B' m d') (.slice D' k e') ∧ Lent W1.heap.size wx 67 3 B' m d' (s.opn.flatMap dsV) mkD ∧ Lent W1.heap.size wx 3 1 D' k e' (s.made.map (Value.int .i64)) mkI ∧ Below W1.heap.size W1 wx ∧ W1.heap.size ≤ b)
 case first =>
  have z1 : w.heap.size ≠ W1.heap.size := by omega
  have z1' := Ne.symm z1
  go_region_held3 (fun w' => w'.cell? ⟨w.heap.size, 1, none⟩ = some (.slice B m d) ∧ w'.cell? ⟨w.heap.size, 2, none⟩ = some (.slice D k e))
   (first | go_keep | (trace_state; fail))
   (first
    | (go_at_call 20; refine (HLD.out _ (by first | exact Cv.drewN_below (Below.refl _ _) 1 | exact (Cv.drewN_below (Below.refl _ _) 1).alloc (by simp) _)).mono ?_; rintro e5 w5 ⟨g5, c5, rfl, hl5, hb5⟩; have hx5 : Below W1.heap.size W1 w5 := (by first | exact Cv.next (Cv.drewN_below (Below.refl _ _) 1) hb5 | exact Cv.next ((Cv.drewN_below (Below.refl _ _) 1).alloc (by simp) _) hb5); have z5 : w.heap.size ≠ w5.heap.size := (by have := hx5.size; omega); have z5' := Ne.symm z5; have j1 := (hx5.cell (p := ⟨w.heap.size, 1, none⟩) hlt0).trans b1; have j2 := (hx5.cell (p := ⟨w.heap.size, 2, none⟩) hlt0).trans b2; (first | (have am := Out.go (show OutAt (W1.drew.alloc (.cells #[.slice none 0 0, .slice none 0 0, .slice none 0 0] 26)) W1.heap.size _ _ _ from heap_alloc_new W1.drew _) hb5; obtain ⟨m0, m1, m2, mf⟩ := am.get; have mf0 := mf 0; have mf1 := mf 1; have mf2 := mf 2; clear mf) | skip))
    | (go_at_call 21; refine (HLI.out _ (by first | exact hx5 | exact hx5.alloc hx5.size _)).mono ?_; rintro e6 w6 ⟨g6, c6, rfl, hl6, hb6⟩; have hx6 : Below W1.heap.size W1 w6 := (by first | exact Cv.next hx5 hb6 | exact Cv.next (hx5.alloc hx5.size _) hb6); have z6 : w.heap.size ≠ w6.heap.size := (by have := hx6.size; omega); have z6' := Ne.symm z6; have i1 := (hx6.cell (p := ⟨w.heap.size, 1, none⟩) hlt0).trans b1; have i2 := (hx6.cell (p := ⟨w.heap.size, 2, none⟩) hlt0).trans b2; (first | (have bm := Out.go am hb6; obtain ⟨n0, n1, n2, nf⟩ := bm.get; have nf0 := nf 0; have nf1 := nf 1; have nf2 := nf 2; clear nf) | (have bm := Out.go (show OutAt (w5.alloc (.cells #[.slice none 0 0, .slice none 0 0, .slice none 0 0] 26)) w5.heap.size _ _ _ from heap_alloc_new w5 _) hb6; obtain ⟨n0, n1, n2, nf⟩ := bm.get; have nf0 := nf 0; have nf1 := nf 1; have nf2 := nf 2; clear nf) | skip); have cm := (show OutAt (w6.alloc (.cells #[.slice none 0 0, .slice none 0 0, .slice none 0 0] 26)) w6.heap.size _ _ _ from heap_alloc_new w6 _); obtain ⟨o0, o1, o2, of⟩ := cm.get; have of0 := of 0; have of1 := of 1; have of2 := of 2; clear of))
  all_goals (
   go_wp2_with fail
   go_meet
   have q5 : Lent W1.heap.size w5 67 3 (some ⟨g5, 0, none⟩) m c5 (s.opn.flatMap dsV) mkD := hl5.lower (by first | exact Nat.le_refl _ | simp)
   have hb56 : Below w5.heap.size w5 w6 := by first | exact hb6 | exact Cv.next ((Below.refl _ _).alloc (Nat.le_refl _) _) hb6
   have q6 : Lent W1.heap.size w6 3 1 (some ⟨g6, 0, none⟩) k c6 (s.made.map (Value.int .i64)) mkI := hl6.lower (by have := hx5.size; simp; omega)
   have q7 := q5.below hb56
   first
    | (obtain ⟨wx, hwx, ho, kC, hbC⟩ := bm.three (.slice none 0 0) (.slice (some ⟨g5, 0, none⟩) m c5) (.slice (some ⟨g6, 0, none⟩) k c6); rw [hwx]; exact ⟨_, _, _, _, _, rfl, ho, q7.keep (kC _ (by decide)), q6.keep (kC _ (by decide)), hbC _ _ (by first | exact Nat.le_refl _ | exact hx5.size) hx6, by first | exact Nat.le_refl _ | exact hx5.size⟩)
    | exact ⟨_, _, _, _, _, rfl, heap_alloc_new w6 _, q7.below ((Below.refl _ _).alloc (Nat.le_refl _) _), q6.below ((Below.refl _ _).alloc (Nat.le_refl _) _), hx6.alloc hx6.size _, hx6.size⟩)
 case rest =>
  obtain ⟨b, B', d', D', e', rfl, ho, hld, hli, hbel, hle⟩ := hcut
  obtain ⟨ii, hi, hz0, hz1, hz2⟩ := info_parts infoIno
  have hbl : b < wc.heap.size := (Array.getElem?_eq_some_iff.1 ho).1
  have hw1 : IntKind.i64.wrap ((n : Int) + 1) = ((n + 1 : Nat) : Int) := by rw [IntWalk.i64_in _ (by omega)]; omega
  obtain ⟨w7, hmk, hrow7, hgr7⟩ := run_make_own (P := Tryz.prog) wc wc.heap.size 22 52 ii _ 4 Tryz.underlying22 hi hz0 hz1 .i64 .i64 (n + 1) (by rw [hz2]; omega) (by unfold maxLen; omega) (Nat.le_refl _)
  replace hmk : (Instr.makeSlice 22 (.int .i64 0) (.int .i64 ((n : Int) + 1))).run Tryz.prog wc = .ok (.slice (some ⟨wc.heap.size, 0, none⟩) 0 (n + 1)) w7 := hmk
  have hb7 := grown_below hgr7
  have ho7 := Out.go ho hb7
  obtain ⟨y0, y1, y2, yf⟩ := ho7.get
  have yf0 := yf 0
  have x0 := (hbel.cell (p := ⟨w.heap.size, 0, none⟩) hlt0).trans b0
  obtain ⟨W8, hW8⟩ : ∃ W8, w7.setCell ⟨b, 0, none⟩ (.slice (some ⟨wc.heap.size, 0, none⟩) 0 (n + 1)) = W8 := ⟨_, rfl⟩
  have ho8 : OutAt W8 b (.slice (some ⟨wc.heap.size, 0, none⟩) 0 (n + 1)) (.slice B' m d') (.slice D' k e') := by rw [← hW8]; exact heap_setCell_same w7 b 0 _ _ _ ho7
  have hk8 : ∀ t, 26 ≠ t → KeepT t w7 W8 := fun t ht => by rw [← hW8]; exact KeepT.set ho7 ht
  have hb8 : Below W1.heap.size W1 W8 := by rw [← hW8]; exact (hbel.trans (hb7.mono hbel.size)).setCell hle _
  have hr8 : LentRow wc.heap.size W8 (.slice (some ⟨wc.heap.size, 0, none⟩) 0 (n + 1)) 0 [] := ⟨by rw [← hW8]; exact row_set hrow7 hbl, by simp⟩
  have hs8 : wc.heap.size ≤ W8.heap.size := by rw [← hW8]; have := hb7.size; simpa [World.setCell] using this
  have HO8 := Lib.hid ho8
  have HB8 := Lib.hid hb8
  have HR8 := Lib.hid hr8
  have HD8 := Lib.hid ((hld.below hb7).keep (hk8 _ (by decide)))
  have HI8 := Lib.hid ((hli.below hb7).keep (hk8 _ (by decide)))
  clear ho hld hli hbel hrow7 hgr7 hb7 ho7 yf ho8 hk8 hb8 hr8 b1 b2
  go_wp2_with fail
  clear hW8 hmk y0 y1 y2 yf0 x0
  go_loopw [4] (fun i wr => ∃ (q : Nat) (V : Value) (zs : List (Ino × Value)), i = .int .i64 q ∧ q ≤ n ∧ Below W1.heap.size W1 wr ∧ wc.heap.size ≤ wr.heap.size ∧ OutAt wr b V (.slice B' m d') (.slice D' k e') ∧ LentRow wc.heap.size wr V q zs ∧ zs.map Prod.fst = s.inos.take q ∧ Lent W1.heap.size wr 67 3 B' m d' (s.opn.flatMap dsV) mkD ∧ Lent W1.heap.size wr 3 1 D' k e' (s.made.map (Value.int .i64)) mkI) (fun i _ => n - (intOf i).toNat)
  case atStart => exact ⟨0, _, [], rfl, by omega, HB8.out, hs8, HO8.out, HR8.out, rfl, HD8.out, HI8.out⟩
  case round =>
   obtain ⟨q, V, zs, rfl, hq, hbel, hsz, hout, hrow, htk, hld, hli⟩ := hrel
   have HBE := Lib.hid hbel
   have HOUT := Lib.hid hout
   have HROW := Lib.hid hrow
   have HTK := Lib.hid htk
   have HLDr := Lib.hid hld
   have HLIr := Lib.hid hli
   have x0 := (hbel.cell (p := ⟨w.heap.size, 0, none⟩) hlt0).trans b0
   have hbW : Below w.heap.size w wr := Cv.next HB.out hbel
   clear hbel hout hrow htk hld hli
   by_cases hlt : q < n
   ·obtain ⟨g, off, x, E, m3, d3, rfl, hg, hx, hd, hmem, c0, c1, c2, hmd, hE, c3⟩ := (HI.out.below HBE.out).get q hlt
    have k0 : (0 : Int) ≤ (q : Int) := by omega
    have k1 : (q : Int) < (n : Int) := by omega
    have hle3 := bulkE_le hx
    have hm3 : m3 ≤ 1099511627776 := by have := hE.1; have := HZ.out.big; omega
    obtain ⟨V2, hV2, v0, v1, v2, v3, hal4, hlt4⟩ := box_ino wr x.num x.dir E m3 d3 x.data
    have hNb : V2.heap[wr.heap.size]? = some (.cells #[.int .i64 x.num, .bool x.dir, .slice E m3 d3, .string x.data] 52 (0, 0)) := by rw [← hV2]; exact heap_alloc_new wr _
    have HX := Lib.hid hx
    have HNB := Lib.hid hNb
    have HA4 := Lib.hid hal4
    have HLE := Lib.hid (lendents_any E m3 d3 x.ents V2 (hE.below hal4) hmd hm3)
    have HEL := Lib.hid hE.1
    clear hx hd hmem hmd hE hle3 hNb hal4
    go_wp2_with fail
    refine HLE.out.mono ?_
    rintro e9 w3 ⟨g9, c9, rfl, hl9, hb9⟩
    have hb3 : Below wr.heap.size wr w3 := Cv.next HA4.out hb9
    have hN3 : w3.heap[wr.heap.size]? = some (.cells #[.int .i64 x.num, .bool x.dir, .slice E m3 d3, .string x.data] 52 (0, 0)) := (hb9.block _ hlt4).trans HNB.out
    have n0 : w3.cell? ⟨wr.heap.size, 0, .none⟩ = some (.int .i64 x.num) := by rw [cell_of_row w3 wr.heap.size _ _ _ (0, 0) hN3]; rfl
    have n1 : w3.cell? ⟨wr.heap.size, 1, .none⟩ = some (.bool x.dir) := by rw [cell_of_row w3 wr.heap.size _ _ _ (0, 0) hN3]; rfl
    have n2 : w3.cell? ⟨wr.heap.size, 2, .none⟩ = some (.slice E m3 d3) := by rw [cell_of_row w3 wr.heap.size _ _ _ (0, 0) hN3]; rfl
    have n3 : w3.cell? ⟨wr.heap.size, 3, .none⟩ = some (.string x.data) := by rw [cell_of_row w3 wr.heap.size _ _ _ (0, 0) hN3]; rfl
    have nf := frozen_of_row w3 wr.heap.size 2 _ _ hN3
    obtain ⟨W4, hW4⟩ : ∃ W4, w3.setCell ⟨wr.heap.size, 2, .none⟩ (.slice (some ⟨g9, 0, none⟩) m3 c9) = W4 := ⟨_, rfl⟩
    have hb4 : Below wr.heap.size wr W4 := by rw [← hW4]; exact hb3.setCell (Nat.le_refl _) _
    have hN4 : W4.heap[wr.heap.size]? = some (.cells #[.int .i64 x.num, .bool x.dir, .slice (some ⟨g9, 0, none⟩) m3 c9, .string x.data] 52 (0, 0)) := by rw [← hW4]; exact heap_setCell_same w3 _ 2 _ _ _ hN3
    have hE4 : Lent wc.heap.size W4 84 2 (some ⟨g9, 0, none⟩) m3 c9 (x.ents.flatMap enV) mkE := by rw [← hW4]; exact (hl9.lower (by omega)).keep (KeepT.set hN3 (by decide))
    have hP4 : OutAt W4 b V (.slice B' m d') (.slice D' k e') := Out.go HOUT.out hb4
    obtain ⟨q0, q1, q2, qf⟩ := hP4.get
    have m0 : W4.cell? ⟨wr.heap.size, 0, .none⟩ = some (.int .i64 x.num) := by rw [cell_of_row W4 wr.heap.size _ _ _ (0, 0) hN4]; rfl
    have m1 : W4.cell? ⟨wr.heap.size, 1, .none⟩ = some (.bool x.dir) := by rw [cell_of_row W4 wr.heap.size _ _ _ (0, 0) hN4]; rfl
    have m2' : W4.cell? ⟨wr.heap.size, 2, .none⟩ = some (.slice (some ⟨g9, 0, none⟩) m3 c9) := by rw [cell_of_row W4 wr.heap.size _ _ _ (0, 0) hN4]; rfl
    have m3' : W4.cell? ⟨wr.heap.size, 3, .none⟩ = some (.string x.data) := by rw [cell_of_row W4 wr.heap.size _ _ _ (0, 0) hN4]; rfl
    have hs4 : wr.heap.size ≤ W4.heap.size := hb4.size
    have HB4 := Lib.hid hb4
    have HE5 := Lib.hid hE4
    have HP4 := Lib.hid hP4
    have HR4 := Lib.hid (row_below HROW.out.row hb4)
    clear hb3 hN3 hl9 hb9 hb4 hN4 hE4 hP4 v0 v1 v2 v3
    go_wp2_with (at_builtin; refine wpList_append_own _ rfl _ _ 22 rfl wc.heap.size 52 ii (.agg #[.int .i64 0, .bool false, .slice none 0 0, .string ⟨#[]⟩]) 4 56 Tryz.underlying22 hi hz0 hz1 hz2 rfl (by decide) _ q _ rfl (HR4.out.alloc _) ⟨W4.heap.size, 0, .none⟩ 1 1 [.int .i64 x.num, .bool x.dir, .slice (some ⟨g9, 0, none⟩) m3 c9, .string x.data] rfl rfl (new_four W4 [.int .i64 x.num, .bool x.dir, .slice (some ⟨g9, 0, none⟩) m3 c9, .string x.data] _) ?ca2 ?ca3 ?ca4 ?ca5 ?_)
    case ca2 => intro u hu; simp at hu; rcases hu with rfl | rfl | rfl | rfl <;> rfl
    case ca3 => unfold maxLen; omega
    case ca4 => omega
    case ca5 => first | omega | (simp; omega)
    intro v5 w5 hown5 hgrow5 _
    obtain ⟨A5, c5, hv5, _, _, _⟩ := row_any hown5 (by decide)
    subst hv5
    have al4 : Below W4.heap.size W4 (W4.alloc (.cells #[.int .i64 x.num, .bool x.dir, .slice (some ⟨g9, 0, none⟩) m3 c9, .string x.data] 52)) := (Below.refl _ _).alloc (Nat.le_refl _) _
    have hb5 : Below W1.heap.size W1 w5 := ((HBE.out.trans (HB4.out.mono HBE.out.size)).alloc (Nat.le_trans HBE.out.size hs4) _).grown hgrow5 (by have := HBE.out.size; simp; omega) (fun k hk => by have := (HR4.out.lt k hk).1; omega)
    have hsz5 : wc.heap.size ≤ w5.heap.size := Nat.le_trans (Nat.le_trans hsz (Nat.le_trans hs4 (by simp))) hgrow5.size
    have hP5 : OutAt w5 b V (.slice B' m d') (.slice D' k e') := by
     unfold OutAt
     rw [hgrow5.block b (by simp; omega) (fun e => by have := (HR4.out.lt _ e.symm).1; omega), Below.heap_alloc _ _ _ (by omega)]
     exact HP4.out
    obtain ⟨r0, r1, r2, rf⟩ := hP5.get
    have kAll : ∀ t, 26 ≠ t → 52 ≠ t → KeepT t W4 (w5.setCell ⟨b, 0, .none⟩ (.slice A5 (q + 1) c5)) := fun t h1 h2 => ((KeepT.below al4).trans (KeepT.grown (HR4.out.alloc _) hgrow5 h2)).trans (KeepT.set hP5 h1)
    have hrowN : LentRow wc.heap.size (w5.setCell ⟨b, 0, .none⟩ (.slice A5 (q + 1) c5)) (.slice A5 (q + 1) c5) (q + 1) (zs ++ [(x, .slice (some ⟨g9, 0, none⟩) m3 c9)]) := by
     refine ⟨row_set (by rw [List.flatMap_append]; exact hown5) hbl, fun z hz => ?_⟩
     rcases List.mem_append.1 hz with hz | hz
     ·obtain ⟨A7, m7, c7, h71, h72, h73⟩ := HROW.out.ents z hz
      exact ⟨A7, m7, c7, h71, h72, (h73.below HB4.out).keep (kAll _ (by decide) (by decide))⟩
     ·have : z = (x, .slice (some ⟨g9, 0, none⟩) m3 c9) := by simpa using hz
      subst this
      exact ⟨_, m3, c9, rfl, HEL.out, HE5.out.keep (kAll _ (by decide) (by decide))⟩
    have HRN := Lib.hid hrowN
    have HDN := Lib.hid ((HLDr.out.below HB4.out).keep (kAll _ (by decide) (by decide)))
    have HIN := Lib.hid ((HLIr.out.below HB4.out).keep (kAll _ (by decide) (by decide)))
    have HON : Hid (OutAt (w5.setCell ⟨b, 0, .none⟩ (.slice A5 (q + 1) c5)) b (.slice A5 (q + 1) c5) (.slice B' m d') (.slice D' k e')) := Lib.hid (heap_setCell_same w5 b 0 _ _ _ hP5)
    have HBN := Lib.hid (hb5.setCell (p := ⟨b, 0, .none⟩) hle (.slice A5 (q + 1) c5))
    have hszN : wc.heap.size ≤ (w5.setCell ⟨b, 0, .none⟩ (.slice A5 (q + 1) c5)).heap.size := by simpa [World.setCell] using hsz5
    have HTN : Hid ((zs ++ [(x, Value.slice (some ⟨g9, 0, none⟩) m3 c9)]).map Prod.fst = s.inos.take (q + 1)) := Lib.hid (by rw [List.map_append, HTK.out, List.take_add_one, HX.out]; rfl)
    obtain ⟨W6, hW6⟩ : ∃ W6, w5.setCell ⟨b, 0, .none⟩ (.slice A5 (q + 1) c5) = W6 := ⟨_, rfl⟩
    rw [hW6] at HRN HON HBN hszN HDN HIN
    clear hown5 hgrow5 hb5 hP5 kAll al4 hrowN
    have rf0 := rf 0
    clear rf
    go_wp2_with fail
    go_roundw
    case rel => exact ⟨q + 1, _, _, by go_num, by omega, HBN.out, hszN, HON.out, HRN.out, HTN.out, HDN.out, HIN.out⟩
    case measure => simp [intOf]; omega
   ·obtain rfl : q = n := by omega
    have hall : zs.map Prod.fst = s.inos := by rw [HTK.out]; exact List.take_of_length_le (by have := HIL.out; omega)
    obtain ⟨A9, c9, rfl, _, _, _⟩ := row_any HROW.out.row (by decide)
    have hR := Out.go HO1.out HBE.out
    obtain ⟨z0, z1', z2', zf⟩ := hR.get
    have zf0 := zf 0
    have zf1 := zf 1
    have zf2 := zf 2
    obtain ⟨p0, p1, p2, _⟩ := HOUT.out.get
    have HR := Lib.hid hR
    have HALL := Lib.hid hall
    have HBW := Lib.hid hbW
    clear hR zf hall hbW
    go_wp2_with fail
    obtain ⟨W12, hW12, hR12, kC, hbC⟩ := HR.out.three (.slice A9 q c9) (.slice B' m d') (.slice D' k e')
    rw [hW12]
    have hw12 : Below w.heap.size w W12 := hbC _ _ (by omega) HBW.out
    have hfin : LentAt w.heap.size W12 (.agg #[.slice A9 q c9, .slice B' m d', .slice D' k e']) s := ⟨A9, q, c9, B', m, d', D', k, e', zs, rfl, ⟨row_le (row_keep HROW.out.row (kC _ (by decide))) (by omega), fun z hz => by
     obtain ⟨E7, m7, c7, h71, h72, h73⟩ := HROW.out.ents z hz
     exact ⟨E7, m7, c7, h71, h72, (h73.keep (kC _ (by decide))).lower (by omega)⟩⟩, HALL.out, (HLDr.out.keep (kC _ (by decide))).lower (by omega), HDL.out, (HLIr.out.keep (kC _ (by decide))).lower (by omega), HML.out, HZ.out⟩
    have HW12 := Lib.hid hw12
    have HR12 := Lib.hid hR12
    have HFIN := Lib.hid hfin
    clear hW12 hR12 kC hbC hw12 hfin
    (try simp only [Exit.inBlock, Exit.then])
    refine bodyPost_ret (results_cell_row rfl _ _ W.heap.size 26 _ (0, 0) _ rfl HR12.out Tryz.underlying26 rfl (by kernel_rfl)) rfl ?_
    exact ⟨_, rfl, HFIN.out, HW12.out⟩
end Go.Proofs.YthhceopnnappgaaGreatDoor
