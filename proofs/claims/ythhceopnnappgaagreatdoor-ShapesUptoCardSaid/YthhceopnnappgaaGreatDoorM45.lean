/- Parts of the proof, side by side: KeptSt, DoRound, ShapesC. -/
import Derived.Test.YthhceopnnappgaaGreatDoorLendSt
import Derived.Test.YthhceopnnappgaaGreatDoorKept
import Derived.Test.YthhceopnnappgaaGreatDoorM37
import Derived.Test.YthhceopnnappgaaGreatDoorM20
set_option linter.unusedVariables false
set_option linter.unusedSimpArgs false
namespace Go.Proofs.YthhceopnnappgaaGreatDoor
open Go.RowKit
theorem Lent.entsAt {lo : Nat} {w : World} {A : Option Addr} {n c : Nat} {es : List En} {ms : List Value} (h : Lent lo w 84 2 A n c (es.flatMap enV) ms) : SlOk A n c ∧ EntsAt (some lo) w A n es := by
 obtain ⟨A', c', hv, hc, hn, hE⟩ := EntsAt.of_row h.row
 injection hv with e1 e2 e3
 subst e1 e3
 exact ⟨⟨hc, fun e => (hn e).2⟩, hE⟩
theorem Lent.descsAt {lo : Nat} {w : World} {A : Option Addr} {n c : Nat} {es : List Ds} {ms : List Value} (h : Lent lo w 67 3 A n c (es.flatMap dsV) ms) : SlOk A n c ∧ DescsAt (some lo) w A n es := by
 obtain ⟨A', c', hv, hc, hn, hE⟩ := DescsAt.of_row h.row
 injection hv with e1 e2 e3
 subst e1 e3
 exact ⟨⟨hc, fun e => (hn e).2⟩, hE⟩
theorem Lent.intsAt {lo : Nat} {w : World} {A : Option Addr} {n c : Nat} {es : List Int} {ms : List Value} (h : Lent lo w 3 1 A n c (es.map (Value.int .i64)) ms) : SlOk A n c ∧ IntsAt (some lo) w A n es := by
 obtain ⟨A', c', hv, hc, hn, hE⟩ := IntsAt.of_row h.row
 injection hv with e1 e2 e3
 subst e1 e3
 exact ⟨⟨hc, fun e => (hn e).2⟩, hE⟩
theorem EntsAt.anyLo {lo : Nat} {w : World} {A : Option Addr} {n : Nat} {es : List En} (h : EntsAt (some lo) w A n es) : EntsAt none w A n es :=
 ⟨h.1, fun hn => by
  obtain ⟨g, off, hA, hg, hm, hc⟩ := h.2 hn
  exact ⟨g, off, hA, hg, Mine.any _ _ _, hc⟩⟩
theorem DescsAt.anyLo {lo : Nat} {w : World} {A : Option Addr} {n : Nat} {es : List Ds} (h : DescsAt (some lo) w A n es) : DescsAt none w A n es :=
 ⟨h.1, fun hn => by
  obtain ⟨g, off, hA, hg, hm, hc⟩ := h.2 hn
  exact ⟨g, off, hA, hg, Mine.any _ _ _, hc⟩⟩
theorem IntsAt.anyLo {lo : Nat} {w : World} {A : Option Addr} {n : Nat} {es : List Int} (h : IntsAt (some lo) w A n es) : IntsAt none w A n es :=
 ⟨h.1, fun hn => by
  obtain ⟨g, off, hA, hg, hm, hc⟩ := h.2 hn
  exact ⟨g, off, hA, hg, Mine.any _ _ _, hc⟩⟩
theorem LentAt.st {lo : Nat} {w : World} {v : Value} {s : St} (h : LentAt lo w v s) : StAt (some lo) w v s := by
 obtain ⟨A, n, c, B, m, d, D, k, e, zs, rfl, hr, hz, hd, hdl, hm, hml, hsz⟩ := h
 have hi : InoRow lo w (.slice A n c) n zs := ⟨hr.row, fun z hz => by
  obtain ⟨E, m, c, h1, h2, h3⟩ := hr.ents z hz
  exact ⟨E, m, c, h1, h3.entsAt.1, h3.entsAt.2⟩⟩
 obtain ⟨A', c', hv, hc, hn, hI⟩ := InosAt.of_row hi
 injection hv with e1 e2 e3
 subst e1 e3
 rw [hz] at hI
 exact ⟨⟨A, n, c, B, m, d, D, k, e, rfl, hI, hd.descsAt.2, hm.intsAt.2, ⟨hc, fun e => (hn e).2⟩, hd.descsAt.1, hm.intsAt.1⟩, hsz⟩
theorem LentAt.below {lo : Nat} {w w' : World} {v : Value} {s : St} (h : LentAt lo w v s) (hb : Below w.heap.size w w') : LentAt lo w' v s := by
 obtain ⟨A, n, c, B, m, d, D, k, e, zs, rfl, hr, hz, hd, hdl, hm, hml, hsz⟩ := h
 exact ⟨A, n, c, B, m, d, D, k, e, zs, rfl, ⟨row_below hr.row hb, fun z hz => by
  obtain ⟨E, m, c, h1, h2, h3⟩ := hr.ents z hz
  exact ⟨E, m, c, h1, h2, h3.below hb⟩⟩, hz, hd.below hb, hdl, hm.below hb, hml, hsz⟩
theorem LentRow.get {lo : Nat} {w : World} {A : Option Addr} {n c : Nat} {zs : List (Ino × Value)} (h : LentRow lo w (.slice A n c) n zs) (q : Nat) (hq : q < n) : ∃ g x E m d, A = some ⟨g, 0, none⟩ ∧ g < w.heap.size ∧ (zs.map Prod.fst)[q]? = some x ∧
  w.cell? ⟨g, q * 4, none⟩ = some (.int .i64 x.num) ∧ w.cell? ⟨g, q * 4 + 1, none⟩ = some (.bool x.dir) ∧ w.cell? ⟨g, q * 4 + 2, none⟩ = some (.slice E m d) ∧ w.cell? ⟨g, q * 4 + 3, none⟩ = some (.string x.data) ∧ x.ents.length = m ∧ Lent lo w 84 2 E m d (x.ents.flatMap enV) mkE := by
 obtain ⟨A', c', hv, _, _, hg⟩ := row_any h.row (by decide)
 injection hv with e1 e2 e3
 subst e1 e3
 obtain ⟨g, hA, hgl, hm, hc⟩ := hg (by omega)
 have hl : zs.length = n := by
  have h1 := h.row.1
  rw [flat_len inoV 4 (fun _ => rfl)] at h1
  omega
 have hz := List.getElem?_eq_getElem (show q < zs.length by omega)
 obtain ⟨E, m, d, h1, h2, h3⟩ := h.ents _ (List.getElem_mem (show q < zs.length by omega))
 have hf := fun i (hi : i < 4) => flat_get inoV 4 (fun _ => rfl) zs q _ hz i hi
 have c0 := (hc (q * 4) (by omega)).trans (hf 0 (by decide))
 have c1 := (hc (q * 4 + 1) (by omega)).trans (hf 1 (by decide))
 have c2 := (hc (q * 4 + 2) (by omega)).trans (hf 2 (by decide))
 have c3 := (hc (q * 4 + 3) (by omega)).trans (hf 3 (by decide))
 refine ⟨g, _, E, m, d, hA, hgl, by rw [List.getElem?_map, hz]; rfl, c0, c1, ?_, c3, h2, h3⟩
 rw [c2]
 show some zs[q].2 = _
 rw [h1]
set_option maxRecDepth 100000 in
set_option maxHeartbeats 8000000 in
theorem keptstate_any (lo : Nat) (v u : Value) (s : St) (w : World) (h : LentAt lo w v s) (h' : StAt none w u s) :
  Calls Tryz.prog 15 #[v, u] w fun e w' => e = .returned (.bool true) ∧ Below w.heap.size w w' := by
 obtain ⟨A, n, c, B, m, d, D, k, e, zs, rfl, hr, hz, hd, hdl, hm, hml, hsz⟩ := h
 obtain ⟨⟨A', n', c', B', m', d', D', k', e', rfl, hI', hD', hM', h5', h6', h7'⟩, _⟩ := h'
 have hzl : zs.length = n := by
  have h1 := hr.row.1
  rw [flat_len inoV 4 (fun _ => rfl)] at h1
  omega
 obtain rfl : n' = n := by rw [← hI'.1, ← hz, List.length_map]; exact hzl
 obtain rfl : m' = m := by rw [← hD'.1]; exact hdl
 obtain rfl : k' = k := by rw [← hM'.1]; exact hml
 have hbig := hsz.big
 have l1 := hI'.1
 have hn2 : n' ≤ 1099511627776 := by omega
 have hm2 : m' ≤ 1099511627776 := by omega
 have hk2 : k' ≤ 1099511627776 := by omega
 obtain ⟨W, hW, a0, a1, a2, b0, b1, b2, hal, hsW⟩ := box_two w A n' c B m' d D k' e A' n' c' B' m' d' D' k' e'
 have HR := Lib.hid (show ∀ w', Below W.heap.size W w' → LentRow lo w' (.slice A n' c) n' zs from fun w' hb => ⟨row_below (row_below hr.row hal) hb, fun z hz => by
  obtain ⟨E, m, c, h1, h2, h3⟩ := hr.ents z hz
  exact ⟨E, m, c, h1, h2, (h3.below hal).below hb⟩⟩)
 have HI := Lib.hid (hI'.below hal)
 have HKD := Lib.hid (keptdescs_any lo B B' m' d d' s.opn W (hd.below hal) (hd.below hal).descsAt.2.anyLo (hD'.below hal) hm2)
 have HKI := Lib.hid (show ∀ w', Below W.heap.size W w' → _ from fun w' hb => keptints_any lo D D' k' e e' s.made w' ((hm.below hal).below hb) ((hm.below hal).below hb).intsAt.2.anyLo ((hM'.below hal).below hb) hk2)
 have HAL := Lib.hid hal
 have HZ := Lib.hid hsz
 have HZS := Lib.hid hz
 have hnn : ((n' : Int) != (n' : Int)) = false := by simp
 clear hr hz hd hdl hm hml hsz hI' hD' hM' h5' h6' h7' hal hbig l1
 go_enter Tryz.func15, Tryz.ntmps15
 go_wp2_with fail
 refine HKD.out.mono ?_
 rintro e1 w1 ⟨rfl, hb1⟩
 have s2 := (hb1.cell (p := ⟨w.heap.size, 2, none⟩) (by show w.heap.size < W.heap.size; omega)).trans a2
 have t2 := (hb1.cell (p := ⟨w.heap.size + 1, 2, none⟩) (by show w.heap.size + 1 < W.heap.size; omega)).trans b2
 have HB1 := Lib.hid hb1
 clear hb1
 go_wp2_with fail
 refine (HKI.out w1 HB1.out).mono ?_
 rintro e2 w2 ⟨rfl, hb2⟩
 have hbx := HB1.out.trans (hb2.mono HB1.out.size)
 have s0 := (hbx.cell (p := ⟨w.heap.size, 0, none⟩) (by show w.heap.size < W.heap.size; omega)).trans a0
 have t0 := (hbx.cell (p := ⟨w.heap.size + 1, 0, none⟩) (by show w.heap.size + 1 < W.heap.size; omega)).trans b0
 have HB2 := Lib.hid hbx
 clear hb2 hbx s2 t2 a1 a2 b1 b2 HB1 HKD HKI
 go_wp2_with fail
 go_loopw [5] (fun i wr => ∃ q : Nat, i = .int .i64 q ∧ q ≤ n' ∧ Below W.heap.size W wr) (fun i _ => n' - (intOf i).toNat)
 case atStart => exact ⟨0, rfl, by omega, HB2.out⟩
 case round =>
  clear s0 t0 HB2
  obtain ⟨q, rfl, hq, hbW⟩ := hrel
  have HBW := Lib.hid hbW
  have a0' := (hbW.cell (p := ⟨w.heap.size, 0, none⟩) (by show w.heap.size < W.heap.size; omega)).trans a0
  have b0' := (hbW.cell (p := ⟨w.heap.size + 1, 0, none⟩) (by show w.heap.size + 1 < W.heap.size; omega)).trans b0
  have HFIN := Lib.hid (show Below w.heap.size w wr from HAL.out.trans (hbW.mono HAL.out.size))
  clear hbW
  by_cases hlt : q < n'
  ·obtain ⟨g, x, E, m2, d2, rfl, hg, hx, c0, c1, c2, c3, hel, hE⟩ := (HR.out wr HBW.out).get q hlt
   obtain ⟨g', off', x', E', m2', d2', rfl, hg', hx', hd', hmem', c0', c1', c2', hok', hE', c3'⟩ := (HI.out.below HBW.out).get q hlt
   rw [HZS.out] at hx
   obtain rfl : x = x' := by rw [hx] at hx'; exact Option.some.inj hx'
   obtain rfl : m2' = m2 := by rw [← hE'.1]; exact hel
   have q1 : decide ((q : Int) < (n' : Int)) = true := by rw [decide_eq_true_eq]; omega
   have q2 : (0 : Int) ≤ (q : Int) := by omega
   have q3 : (q : Int) < (n' : Int) := by omega
   have hle := bulkE_le hx
   have hm22 : m2' ≤ 1099511627776 := by have := HZ.out.big; omega
   have HE := Lib.hid hE
   have HE' := Lib.hid hE'
   have hoff : (0 : Nat) + q * 4 = q * 4 := Nat.zero_add _
   clear hx hx' hd' hmem' hE hE' hle hel hok'
   go_upto_region 6 with fail
   have hwr : W.heap.size ≤ wr.heap.size := HBW.out.size
   go_cut [6, 7] (fun p1 p2 wx => ∃ b1 b2, p1 = .pointer (some ⟨b1, 0, .none⟩) ∧ p2 = .pointer (some ⟨b2, 0, .none⟩) ∧ Below wr.heap.size wr wx ∧
    wx.cell? ⟨b1, 0, none⟩ = some (.int .i64 x.num) ∧ wx.cell? ⟨b1, 1, none⟩ = some (.bool x.dir) ∧ wx.cell? ⟨b1, 2, none⟩ = some (.slice E m2' d2) ∧ wx.cell? ⟨b1, 3, none⟩ = some (.string x.data) ∧
    wx.cell? ⟨b2, 0, none⟩ = some (.int .i64 x.num) ∧ wx.cell? ⟨b2, 1, none⟩ = some (.bool x.dir) ∧ wx.cell? ⟨b2, 2, none⟩ = some (.slice E' m2' d2') ∧ wx.cell? ⟨b2, 3, none⟩ = some (.string x.data) ∧ b1 < wx.heap.size ∧ b2 < wx.heap.size)
   case first =>
    have nA : wr.heap.size ≠ w.heap.size := by omega
    have nB : wr.heap.size ≠ w.heap.size + 1 := by omega
    have nC : wr.heap.size ≠ g := by omega
    have nD : wr.heap.size ≠ g' := by omega
    have mA : wr.heap.size + 1 ≠ w.heap.size := by omega
    have mB : wr.heap.size + 1 ≠ w.heap.size + 1 := by omega
    have mC : wr.heap.size + 1 ≠ g := by omega
    have mD : wr.heap.size + 1 ≠ g' := by omega
    go_region_held3 (fun w' => w'.cell? ⟨w.heap.size, 0, none⟩ = some (.slice (some ⟨g, 0, none⟩) n' c) ∧ w'.cell? ⟨w.heap.size + 1, 0, none⟩ = some (.slice (some ⟨g', off', none⟩) n' c') ∧
     w'.cell? ⟨g, q * 4, none⟩ = some (.int .i64 x.num) ∧ w'.cell? ⟨g, q * 4 + 1, none⟩ = some (.bool x.dir) ∧ w'.cell? ⟨g, q * 4 + 2, none⟩ = some (.slice E m2' d2) ∧ w'.cell? ⟨g, q * 4 + 3, none⟩ = some (.string x.data) ∧
     w'.cell? ⟨g', off' + q * 4, none⟩ = some (.int .i64 x.num) ∧ w'.cell? ⟨g', off' + q * 4 + 1, none⟩ = some (.bool x.dir) ∧ w'.cell? ⟨g', off' + q * 4 + 2, none⟩ = some (.slice E' m2' d2') ∧ w'.cell? ⟨g', off' + q * 4 + 3, none⟩ = some (.string x.data))
     (first | go_keep | trace_state)
     (fail)
    all_goals (
     go_wp2_with fail
     go_meet)
    ·obtain ⟨U, hU, hbU, hbD, f1, f2, hsU⟩ := two_ino wr (.int .i64 x.num) (.bool x.dir) (.slice E m2' d2) (.string x.data) (.int .i64 x.num) (.bool x.dir) (.slice E' m2' d2') (.string x.data)
     rw [hU]
     exact ⟨_, _, rfl, rfl, hbD, f1 0, f1 1, f1 2, f1 3, f2 0, f2 1, f2 2, f2 3, by simp [hsU], by simp [hsU]⟩
    ·obtain ⟨U, hU, hbU, hbD, f1, f2, hsU⟩ := two_ino wr (.int .i64 x.num) (.bool x.dir) (.slice E' m2' d2') (.string x.data) (.int .i64 x.num) (.bool x.dir) (.slice E m2' d2) (.string x.data)
     rw [hU]
     exact ⟨_, _, rfl, rfl, hbD, f2 0, f2 1, f2 2, f2 3, f1 0, f1 1, f1 2, f1 3, by simp [hsU], by simp [hsU]⟩
   case rest =>
    obtain ⟨b1, b2, rfl, rfl, hbx, z0, z1, z2, z3, y0, y1, y2, y3, hl1, hl2⟩ := hcut
    have HKE := Lib.hid (keptents_any lo E E' m2' d2 d2' x.ents wc (HE.out.below hbx) (HE.out.below hbx).entsAt.2.anyLo (HE'.out.below hbx) hm22)
    have HBX := Lib.hid (HBW.out.trans (hbx.mono HBW.out.size))
    have u1 : (x.num != x.num) = false := by simp
    have u2 : (x.dir != x.dir) = false := by cases x.dir <;> rfl
    have u3 : (x.data.toList == x.data.toList) = true := ba_list_eq rfl
    clear hbx c0 c1 c2 c3 c0' c1' c2' c3' a0' b0'
    go_wp2_with fail
    refine HKE.out.mono ?_
    rintro e5 w5 ⟨rfl, hb5⟩
    have HB5 := Lib.hid (HBX.out.trans (hb5.mono HBX.out.size))
    clear hb5
    go_wp2_with fail
    go_roundw
    case rel => exact ⟨q + 1, by go_num, by omega, HB5.out⟩
    case measure => simp [intOf]; omega
  ·obtain rfl : q = n' := by omega
   have q1 : decide ((q : Int) < (q : Int)) = false := by rw [decide_eq_false_iff_not]; omega
   go_wp2_with fail
   go_ret
   exact ⟨rfl, HFIN.out⟩
theorem StAt.set {B : Nat} {w : World} {v : Value} {s : St} (h : StAt (some B) w v s) {g : Nat} {t : TypeId} (hg : ∃ cur, w.heap[g]? = some (.cells cur t (0, 0))) (h1 : t ≠ 52) (h2 : t ≠ 84) (h3 : t ≠ 67) (h4 : t ≠ 3) (k : Nat) (u : Value) :
  StAt (some B) (w.setCell ⟨g, k, none⟩ u) v s := by
 obtain ⟨cur, hc⟩ := hg
 exact h.keep3 (KeepT.set hc h1) (KeepT.set hc h2) (KeepT.set hc h3) (KeepT.set hc h4)
theorem tag_set {w : World} {g g' k : Nat} {u : Value} {t : TypeId} (h : ∃ cur, w.heap[g]? = some (.cells cur t (0, 0))) : ∃ cur, (w.setCell ⟨g', k, none⟩ u).heap[g]? = some (.cells cur t (0, 0)) := by
 obtain ⟨cur, hc⟩ := h
 by_cases e : g = g'
 ·subst e
  exact ⟨_, heap_setCell_same w g k _ _ u hc⟩
 ·exact ⟨cur, (Below.heap_setCell w ⟨g', k, none⟩ u g e).trans hc⟩
theorem StAt.alloc {lo : Option Nat} {w : World} {v : Value} {s : St} (h : StAt lo w v s) (o : Obj) : StAt lo (w.alloc o) v s := h.below ((Below.refl _ _).alloc (Nat.le_refl _) _)
theorem StAt.set3 {B : Nat} {w : World} {v : Value} {s : St} (h : StAt (some B) w v s) {g : Nat} {cur : Array Value} (hg : w.heap[g]? = some (.cells cur 26 (0, 0))) (x y z : Value) :
  StAt (some B) (((w.setCell ⟨g, 0, none⟩ x).setCell ⟨g, 1, none⟩ y).setCell ⟨g, 2, none⟩ z) v s :=
 (((h.set ⟨_, hg⟩ (by decide) (by decide) (by decide) (by decide) 0 x).set (tag_set ⟨_, hg⟩) (by decide) (by decide) (by decide) (by decide) 1 y).set (tag_set (tag_set ⟨_, hg⟩)) (by decide) (by decide) (by decide) (by decide) 2 z)
theorem below_set3 {B : Nat} {u w : World} (h : Below B u w) {g : Nat} (hg : B ≤ g) (x y z : Value) : Below B u (((w.setCell ⟨g, 0, none⟩ x).setCell ⟨g, 1, none⟩ y).setCell ⟨g, 2, none⟩ z) :=
 ((h.setCell (p := ⟨g, 0, none⟩) hg x).setCell (p := ⟨g, 1, none⟩) hg y).setCell (p := ⟨g, 2, none⟩) hg z
theorem row_far3 {w : World} {b g : Nat} {o : Option Obj} (h : w.heap[b]? = o) (hne : b ≠ g) (x y z : Value) : (((w.setCell ⟨g, 0, none⟩ x).setCell ⟨g, 1, none⟩ y).setCell ⟨g, 2, none⟩ z).heap[b]? = o := row_far (row_far (row_far h hne) hne) hne
theorem sz_lt (w : World) (o : Obj) : w.heap.size < (w.alloc o).heap.size := by simp
theorem sz_eq (w : World) (o : Obj) : w.heap.size + 1 = (w.alloc o).heap.size := by simp
theorem sz_set3 (w : World) (g : Nat) (x y z : Value) : w.heap.size = (((w.setCell ⟨g, 0, none⟩ x).setCell ⟨g, 1, none⟩ y).setCell ⟨g, 2, none⟩ z).heap.size := by simp [World.setCell]
theorem LentAt.lower {lo lo' : Nat} {w : World} {v : Value} {s : St} (h : LentAt lo w v s) (hl : lo' ≤ lo) : LentAt lo' w v s := by
 obtain ⟨A, n, c, B, m, d, D, k, e, zs, rfl, hr, hz, hd, hdl, hm, hml, hsz⟩ := h
 exact ⟨A, n, c, B, m, d, D, k, e, zs, rfl, ⟨row_le hr.row hl, fun z hz => by
  obtain ⟨E, m, c, h1, h2, h3⟩ := hr.ents z hz
  exact ⟨E, m, c, h1, h2, h3.lower hl⟩⟩, hz, hd.lower hl, hdl, hm.lower hl, hml, hsz⟩
theorem LentAt.set {lo : Nat} {w : World} {v : Value} {s : St} (h : LentAt lo w v s) {g : Nat} {t : TypeId} (hg : ∃ cur, w.heap[g]? = some (.cells cur t (0, 0))) (h1 : t ≠ 52) (h2 : t ≠ 84) (h3 : t ≠ 67) (h4 : t ≠ 3) (k : Nat) (u : Value) :
  LentAt lo (w.setCell ⟨g, k, none⟩ u) v s := by
 obtain ⟨cur, hc⟩ := hg
 obtain ⟨A, n, c, B, m, d, D, q, e, zs, rfl, hr, hz, hd, hdl, hm, hml, hsz⟩ := h
 exact ⟨A, n, c, B, m, d, D, q, e, zs, rfl, ⟨row_keep hr.row (KeepT.set hc h1), fun z hz => by
  obtain ⟨E, m, c, e1, e2, e3⟩ := hr.ents z hz
  exact ⟨E, m, c, e1, e2, e3.keep (KeepT.set hc h2)⟩⟩, hz, hd.keep (KeepT.set hc h3), hdl, hm.keep (KeepT.set hc h4), hml, hsz⟩
theorem LentAt.set3 {B : Nat} {w : World} {v : Value} {s : St} (h : LentAt B w v s) {g : Nat} {cur : Array Value} (hg : w.heap[g]? = some (.cells cur 26 (0, 0))) (x y z : Value) :
  LentAt B (((w.setCell ⟨g, 0, none⟩ x).setCell ⟨g, 1, none⟩ y).setCell ⟨g, 2, none⟩ z) v s :=
 (((h.set ⟨_, hg⟩ (by decide) (by decide) (by decide) (by decide) 0 x).set (tag_set ⟨_, hg⟩) (by decide) (by decide) (by decide) (by decide) 1 y).set (tag_set (tag_set ⟨_, hg⟩)) (by decide) (by decide) (by decide) (by decide) 2 z)
theorem LentAt.alloc {lo : Nat} {w : World} {v : Value} {s : St} (h : LentAt lo w v s) (o : Obj) : LentAt lo (w.alloc o) v s := h.below ((Below.refl _ _).alloc (Nat.le_refl _) _)
def ShFin (B : Nat) (wr U : World) (g5 g6 : Nat) (a b c x y z : Value) (s t : St) : Prop :=
 OutAt U g5 a b c ∧ OutAt U g6 x y z ∧ LentAt B U (.agg #[a, b, c]) s ∧ LentAt B U (.agg #[x, y, z]) t ∧ Below B wr U
section
variable {B g g' : Nat} {wr w6 : World} {a b c x y z : Value} {s t : St}
theorem shfin1 (h5 : LentAt B w6 (.agg #[a, b, c]) s) (h6 : LentAt B w6 (.agg #[x, y, z]) t) (hb : Below B wr w6) (hl : B ≤ w6.heap.size) :
  ShFin B wr ((w6.alloc (.cells #[a, b, c] 26)).alloc (.cells #[x, y, z] 26)) w6.heap.size (w6.heap.size + 1) a b c x y z s t :=
 ⟨row_past (row_new w6 _ _ rfl) (sz_lt _ _), row_new (w6.alloc _) _ _ (sz_eq _ _), (h5.alloc _).alloc _, (h6.alloc _).alloc _, (hb.alloc hl _).alloc (Nat.le_trans hl (Nat.le_of_lt (sz_lt _ _))) _⟩
theorem shfin1' (h5 : LentAt B w6 (.agg #[a, b, c]) s) (h6 : LentAt B w6 (.agg #[x, y, z]) t) (hb : Below B wr w6) (hl : B ≤ w6.heap.size) :
  ShFin B wr ((w6.alloc (.cells #[x, y, z] 26)).alloc (.cells #[a, b, c] 26)) (w6.heap.size + 1) w6.heap.size a b c x y z s t :=
 ⟨row_new (w6.alloc _) _ _ (sz_eq _ _), row_past (row_new w6 _ _ rfl) (sz_lt _ _), (h5.alloc _).alloc _, (h6.alloc _).alloc _, (hb.alloc hl _).alloc (Nat.le_trans hl (Nat.le_of_lt (sz_lt _ _))) _⟩
theorem shfin2 (h5 : LentAt B w6 (.agg #[a, b, c]) s) (h6 : LentAt B w6 (.agg #[x, y, z]) t) (hb : Below B wr w6) (hl : B ≤ w6.heap.size) (h0 : w6.heap[g]? = some (.cells #[.slice none 0 0, .slice none 0 0, .slice none 0 0] 26)) (hg : B ≤ g) :
  ShFin B wr ((((w6.setCell ⟨g, 0, none⟩ a).setCell ⟨g, 1, none⟩ b).setCell ⟨g, 2, none⟩ c).alloc (.cells #[x, y, z] 26)) g w6.heap.size a b c x y z s t := by
 have l0 := (Array.getElem?_eq_some_iff.1 h0).1
 exact ⟨row_past (row_three h0 _ _ _) (Nat.lt_of_lt_of_eq l0 (sz_set3 _ _ _ _ _)), row_new _ _ _ (sz_set3 _ _ _ _ _), (h5.set3 h0 _ _ _).alloc _, (h6.set3 h0 _ _ _).alloc _, (below_set3 hb hg _ _ _).alloc (Nat.le_trans hl (Nat.le_of_eq (sz_set3 _ _ _ _ _))) _⟩
theorem shfin2' (h5 : LentAt B w6 (.agg #[a, b, c]) s) (h6 : LentAt B w6 (.agg #[x, y, z]) t) (hb : Below B wr w6) (hl : B ≤ w6.heap.size) (h0 : w6.heap[g]? = some (.cells #[.slice none 0 0, .slice none 0 0, .slice none 0 0] 26)) (hg : B ≤ g) :
  ShFin B wr ((((w6.setCell ⟨g, 0, none⟩ x).setCell ⟨g, 1, none⟩ y).setCell ⟨g, 2, none⟩ z).alloc (.cells #[a, b, c] 26)) w6.heap.size g a b c x y z s t := by
 have l0 := (Array.getElem?_eq_some_iff.1 h0).1
 exact ⟨row_new _ _ _ (sz_set3 _ _ _ _ _), row_past (row_three h0 _ _ _) (Nat.lt_of_lt_of_eq l0 (sz_set3 _ _ _ _ _)), (h5.set3 h0 _ _ _).alloc _, (h6.set3 h0 _ _ _).alloc _, (below_set3 hb hg _ _ _).alloc (Nat.le_trans hl (Nat.le_of_eq (sz_set3 _ _ _ _ _))) _⟩
theorem shfin3 (h5 : LentAt B w6 (.agg #[a, b, c]) s) (h6 : LentAt B w6 (.agg #[x, y, z]) t) (hb : Below B wr w6) (h0 : w6.heap[g]? = some (.cells #[.slice none 0 0, .slice none 0 0, .slice none 0 0] 26)) (h1 : w6.heap[g']? = some (.cells #[.slice none 0 0, .slice none 0 0, .slice none 0 0] 26)) (hg : B ≤ g) (hg' : B ≤ g') (hne : g ≠ g') :
  ShFin B wr ((((((w6.setCell ⟨g, 0, none⟩ a).setCell ⟨g, 1, none⟩ b).setCell ⟨g, 2, none⟩ c).setCell ⟨g', 0, none⟩ x).setCell ⟨g', 1, none⟩ y).setCell ⟨g', 2, none⟩ z) g g' a b c x y z s t := by
 have h2 := row_far3 h1 (Ne.symm hne) a b c
 exact ⟨row_far3 (row_three h0 _ _ _) hne _ _ _, row_three h2 _ _ _, (h5.set3 h0 _ _ _).set3 h2 _ _ _, (h6.set3 h0 _ _ _).set3 h2 _ _ _, below_set3 (below_set3 hb hg _ _ _) hg' _ _ _⟩
end
end Go.Proofs.YthhceopnnappgaaGreatDoor
