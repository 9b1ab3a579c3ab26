/- The layout's reader: inode, where all is well and small. -/
import Derived.Test.YthhceopnnappgaaGreatM43
import Derived.Test.YthhceopnnappgaaGreatFsCopy
import Derived.Deep.RegionLaw
import Derived.Deep.AppendLies
set_option linter.unusedVariables false
set_option linter.unusedSimpArgs false
namespace Go.Proofs.YthhceopnnappgaaGreat
open Go.RowKit
theorem Rd.below {w w' : World} {p : Nat} {l : List UInt8} (h : Rd w p l) (hb : Below w.heap.size w w') : Rd w' p l := (hb.block p h.get.2.2.2).trans h
def Ino4 (w : World) (g : Nat) (a b c d : Value) : Prop := w.heap[g]? = some (.cells #[a, b, c, d] 42 (0, 0))
theorem Ino4.get {w : World} {g : Nat} {a b c d : Value} (h : Ino4 w g a b c d) : w.cell? ⟨g, 0, none⟩ = some a ∧ w.cell? ⟨g, 1, none⟩ = some b ∧ w.cell? ⟨g, 2, none⟩ = some c ∧ w.cell? ⟨g, 3, none⟩ = some d ∧ (∀ j, w.frozen? ⟨g, j, none⟩ = false) ∧ g < w.heap.size := by
  refine ⟨?_, ?_, ?_, ?_, fun j => frozen_of_row w g j _ _ h, (Array.getElem?_eq_some_iff.1 h).1⟩ <;> (rw [cell_of_row w g _ _ _ (0, 0) h]; rfl)
theorem Ino4.four {w : World} {g : Nat} {a b c d : Value} (h : Ino4 w g a b c d) (x y z u : Value) :
    ∃ w', (((w.setCell ⟨g, 0, none⟩ x).setCell ⟨g, 1, none⟩ y).setCell ⟨g, 2, none⟩ z).setCell ⟨g, 3, none⟩ u = w' ∧ Ino4 w' g x y z u ∧ w.grownBy w' (some g) := by
  have h1 : Ino4 (w.setCell ⟨g, 0, none⟩ x) g x b c d := heap_setCell_same w g 0 _ _ _ h
  have h2 : Ino4 ((w.setCell ⟨g, 0, none⟩ x).setCell ⟨g, 1, none⟩ y) g x y c d := heap_setCell_same _ g 1 _ _ _ h1
  have h3 : Ino4 (((w.setCell ⟨g, 0, none⟩ x).setCell ⟨g, 1, none⟩ y).setCell ⟨g, 2, none⟩ z) g x y z d := heap_setCell_same _ g 2 _ _ _ h2
  exact ⟨_, rfl, heap_setCell_same _ g 3 _ _ _ h3, grown_trans (grown_trans (grown_trans (grown_setL _ _ _ _) (grown_setL _ _ _ _)) (grown_setL _ _ _ _)) (grown_setL _ _ _ _)⟩
theorem grown_newO {w w1 w2 : World} {p : Nat} {r : Option Nat} (h : w.grownBy w1 (some p)) (k : w1.grownBy w2 r) (hg : ∀ g, r = some g → w.heap.size ≤ g) : w.grownBy w2 (some p) :=
  ⟨k.os.trans h.os, k.tape.trans h.tape, k.output.trans h.output, Nat.le_trans h.size k.size, fun i hi hne => (k.block i (Nat.lt_of_lt_of_le hi h.size) (by intro e; have := hg i e.symm; omega)).trans (h.block i hi hne)⟩
theorem EntsAt.grown {B p : Nat} {w w' : World} {A : Option Addr} {n : Nat} {es : List En} (h : EntsAt (some B) w A n es) (hg : w.grownBy w' (some p)) (hp : p < B) : EntsAt (some B) w' A n es :=
  ⟨h.1, fun hn => by
    obtain ⟨g, off, hA, hlt, hm, hc⟩ := h.2 hn
    have hs : w'.heap[g]? = w.heap[g]? := hg.block g hlt (by intro e9; injection e9 with e9; have := (hm B rfl).1; omega)
    obtain ⟨h1, cur, h2⟩ := hm B rfl
    refine ⟨g, off, hA, Nat.lt_of_lt_of_le hlt hg.size, ?_, fun j e he => ⟨(cell_same hs _).trans (hc j e he).1, (cell_same hs _).trans (hc j e he).2⟩⟩
    intro C hC
    cases hC
    exact ⟨h1, cur, hs.trans h2⟩⟩
theorem grown_new {w w1 w2 : World} {p g : Nat} (h : w.grownBy w1 (some p)) (k : w1.grownBy w2 (some g)) (hg : w.heap.size ≤ g) : w.grownBy w2 (some p) :=
  ⟨k.os.trans h.os, k.tape.trans h.tape, k.output.trans h.output, Nat.le_trans h.size k.size, fun i hi hne => (k.block i (Nat.lt_of_lt_of_le hi h.size) (by intro e; injection e with e; omega)).trans (h.block i hi hne)⟩
theorem own_kept {w w' : World} {B p : Nat} {e : TypeId} {k n : Nat} {v : Value} {xs : List Value} (h : w.ownsRow B e k v n xs) (hg : w.grownBy w' (some p)) (hp : p < B) : w'.ownsRow B e k v n xs := by
  refine h.kept hg ?_
  cases hv : v.ownBlock with
  | none => exact .inl rfl
  | some g => exact .inr (by intro e9; injection e9 with e9; have := (h.lt g hv).1; omega)
theorem own_other {w w' : World} {B g : Nat} {e : TypeId} {k n : Nat} {v : Value} {xs : List Value} {o : Obj} (h : w.ownsRow B e k v n xs) (hg : w.grownBy w' v.ownBlock) (hp : g < B) (hh : w.heap[g]? = some o) : w'.heap[g]? = some o :=
  (hg.block g (Array.getElem?_eq_some_iff.1 hh).1 (by intro e9; have := (h.lt g e9.symm).1; omega)).trans hh
theorem entsL_small : ∀ (es : List En), (∀ e ∈ es, e.name.size ≤ 12) → (entsL es).length ≤ 40 * es.length
  | [], _ => by simp [entsL]
  | e :: es, h => by
    have h1 := entsL_small es (fun x hx => h x (by simp [hx]))
    have h2 := textL_len e.name
    have h3 := h e (by simp)
    have h4 := numL_len e.num.toNat
    unfold entsL entL
    rw [List.length_append, List.length_append, List.length_cons]
    omega
structure SmallI (x : Ino) : Prop where
  num : 0 ≤ x.num ∧ x.num < 128
  data : x.data.size < 128
  ents : x.ents.length ≤ 64 ∧ ∀ e ∈ x.ents, 0 ≤ e.num ∧ e.num < 128 ∧ e.name.size ≤ 12
  file : x.dir = false → x.ents = []
  dir : x.dir = true → x.data = ⟨#[]⟩
set_option maxRecDepth 100000 in
set_option maxHeartbeats 4000000 in
theorem rinode_any (p : Nat) (x : Ino) (rest : List UInt8) (w : World) (h : Rd w p (inodeL x ++ rest)) (hs : SmallI x) (hr : rest.length ≤ 65536) :
    Calls Tryz.prog 85 #[.pointer (some ⟨p, 0, .none⟩)] w fun e w' => ∃ E m d, e = .returned (.agg #[.int .i64 x.num, .bool x.dir, .slice E m d, .string x.data]) ∧ SlOk E m d ∧ EntsAt (some w.heap.size) w' E m x.ents ∧ Rd w' p rest ∧ w.grownBy w' (some p) := by
  obtain ⟨N, hN⟩ : ∃ N, x.num.toNat = N := ⟨_, rfl⟩
  have hN1 : x.num = (N : Int) := by have := hs.num; omega
  have hN2 : N < 128 := by have := hs.num; omega
  unfold inodeL at h
  rw [hN] at h
  obtain ⟨DX, hDX⟩ : ∃ DX, x.dir = DX := ⟨_, rfl⟩
  rw [hDX] at h ⊢
  rw [hN1]
  have HDX := Lib.hid hDX
  have HS := Lib.hid hs
  have HH := Lib.hid h
  clear h hs hDX hN hN1
  go_enter Tryz.func85, Tryz.ntmps85
  go_wp2_with fail
  obtain ⟨U, hU⟩ : ∃ U, w.alloc (.cells #[.int .i64 0, .bool false, .slice none 0 0, .string ⟨#[]⟩] 42) = U := ⟨_, rfl⟩
  rw [hU]
  have hbu : Below w.heap.size w U := by rw [← hU]; exact (Below.refl _ _).alloc (Nat.le_refl _) _
  have hru : U.heap[w.heap.size]? = some (.cells #[.int .i64 0, .bool false, .slice none 0 0, .string ⟨#[]⟩] 42 (0, 0)) := by rw [← hU]; exact heap_alloc_new w _
  have hpl : p < w.heap.size := HH.out.get.2.2.2
  have hRU := HH.out.below hbu
  have HRU := Lib.hid hru
  have hsu : U.heap.size = w.heap.size + 1 := by rw [← hU]; simp
  rw [List.append_assoc, List.append_assoc] at hRU
  have HG0 := Lib.hid (grown_of_below (r := some p) hbu)
  have hRU2 := Lib.hid hRU
  clear hU hbu hru hRU
  refine (rnum_any p N _ 2147483647 U hRU2.out hN2 (by omega)).mono ?_
  rintro e1 w1 ⟨rfl, hR1, hg1⟩
  have HR1 := Lib.hid hR1
  have HG1 := Lib.hid (grown_trans HG0.out hg1)
  have HX1 := Lib.hid ((hg1.block w.heap.size (by omega) (by intro e9; injection e9 with e9; omega)).trans HRU.out)
  have hs1 : U.heap.size ≤ w1.heap.size := hg1.size
  clear hR1 hg1
  go_wp2_with fail
  refine (rnum_any p (if DX then 1 else 0) _ 1 w1 HR1.out (by split <;> omega) (by split <;> omega)).mono ?_
  rintro e2 w2 ⟨rfl, hR2, hg2⟩
  have HR2 := Lib.hid hR2
  have HG2 := Lib.hid (grown_trans HG1.out hg2)
  have HX2 := Lib.hid ((hg2.block w.heap.size (by omega) (by intro e9; injection e9 with e9; omega)).trans HX1.out)
  have hs2 : w1.heap.size ≤ w2.heap.size := hg2.size
  clear hR2 hg2
  obtain ⟨V, hV⟩ : ∃ V, w2.alloc (.cells #[.int .i64 (N : Int), .bool DX, .slice none 0 0, .string ⟨#[]⟩] 42) = V := ⟨_, rfl⟩
  have hbv : Below w2.heap.size w2 V := by rw [← hV]; exact (Below.refl _ _).alloc (Nat.le_refl _) _
  have hxv : Ino4 V w2.heap.size (.int .i64 (N : Int)) (.bool DX) (.slice none 0 0) (.string ⟨#[]⟩) := by rw [← hV]; exact heap_alloc_new w2 _
  have hsv : V.heap.size = w2.heap.size + 1 := by rw [← hV]; simp
  have HRV := Lib.hid (HR2.out.below hbv)
  have HGV := Lib.hid (grown_trans HG2.out (grown_of_below (r := some p) hbv))
  have HXV := Lib.hid hxv
  have HOV : Hid (Ino4 V w.heap.size (.int .i64 0) (.bool false) (.slice none 0 0) (.string ⟨#[]⟩)) := Lib.hid ((hbv.block w.heap.size (by omega)).trans HX2.out)
  have HVH := Lib.hid hV
  clear hbv hxv hV
  cases DX
  · go_wp2_with fail
    rw [HVH.out]
    refine (rtext_any p x.data rest 256 V (by have := HRV.out; simpa using this) HS.out.data (by have := HS.out.data; omega) (by omega)).mono ?_
    rintro e3 w3 ⟨rfl, hR3, hg3⟩
    have hx3 : Ino4 w3 w2.heap.size _ _ _ _ := (hg3.block w2.heap.size (by omega) (by intro e9; injection e9 with e9; omega)).trans HXV.out
    have ho3 : Ino4 w3 w.heap.size _ _ _ _ := (hg3.block w.heap.size (by omega) (by intro e9; injection e9 with e9; omega)).trans HOV.out
    obtain ⟨a0, a1, a2, a3, af, _⟩ := hx3.get
    have hx4 : Ino4 (w3.setCell ⟨w2.heap.size, 3, none⟩ (.string x.data)) w2.heap.size (.int .i64 (N : Int)) (.bool false) (.slice none 0 0) (.string x.data) := heap_setCell_same w3 w2.heap.size 3 _ _ _ hx3
    obtain ⟨w4, hw4⟩ : ∃ w4, w3.setCell ⟨w2.heap.size, 3, none⟩ (.string x.data) = w4 := ⟨_, rfl⟩
    rw [hw4] at hx4
    have ho4 : Ino4 w4 w.heap.size (.int .i64 0) (.bool false) (.slice none 0 0) (.string ⟨#[]⟩) := by rw [← hw4]; exact (Below.heap_setCell w3 ⟨w2.heap.size, 3, none⟩ _ _ (by show w.heap.size ≠ w2.heap.size; omega)).trans ho3
    have hR4 : Rd w4 p rest := by rw [← hw4]; exact (Below.heap_setCell w3 ⟨w2.heap.size, 3, none⟩ _ _ (by show p ≠ w2.heap.size; omega)).trans hR3
    have hg4 : w.grownBy w4 (some p) := by rw [← hw4]; exact grown_new (grown_trans HGV.out hg3) (grown_setL _ _ _ _) (by omega)
    obtain ⟨b0, b1, b2, b3, bf, _⟩ := hx4.get
    obtain ⟨d0, d1, d2, d3, df, hlo⟩ := ho4.get
    obtain ⟨w5, hw5, hi5, hg5⟩ := ho4.four (.int .i64 (N : Int)) (.bool false) (.slice none 0 0) (.string x.data)
    have HI5 := Lib.hid hi5
    have HR5 : Hid (Rd w5 p rest) := Lib.hid ((hg5.block p (by omega) (by intro e9; injection e9 with e9; omega)).trans hR4)
    have HG5 := Lib.hid (grown_new hg4 hg5 (Nat.le_refl _))
    have f3 := af 3
    clear hR3 hg3 hx3 ho3 hx4 ho4 hR4 hg4 hi5 hg5
    go_wp2_with fail
    (try simp only [Exit.inBlock, Exit.then])
    refine bodyPost_ret (results_cell_row rfl _ _ w.heap.size 42 _ (0, 0) _ rfl HI5.out Tryz.underlying42 rfl (by kernel_rfl)) rfl ?_
    refine ⟨none, 0, 0, rfl, ⟨Nat.le_refl _, fun _ => rfl⟩, ⟨?_, fun h => absurd h (by omega)⟩, HR5.out, HG5.out⟩
    rw [HS.out.file HDX.out]
    rfl
  · go_wp2_with fail
    rw [HVH.out]
    refine (rnum_any p x.ents.length (entsL x.ents ++ rest) 64 V (by have := HRV.out; simpa [List.append_assoc] using this) (by have := HS.out.ents.1; omega) (by have := HS.out.ents.1; omega)).mono ?_
    rintro e3 w3 ⟨rfl, hR3, hg3⟩
    obtain ⟨m, hm⟩ : ∃ m, x.ents.length = m := ⟨_, rfl⟩
    have hm64 : m ≤ 64 := by have := HS.out.ents.1; omega
    rw [hm]
    have HMM := Lib.hid hm
    have HX3 : Hid (Ino4 w3 w2.heap.size _ _ _ _) := Lib.hid ((hg3.block w2.heap.size (by omega) (by intro e9; injection e9 with e9; omega)).trans HXV.out)
    have HO3 : Hid (Ino4 w3 w.heap.size _ _ _ _) := Lib.hid ((hg3.block w.heap.size (by omega) (by intro e9; injection e9 with e9; omega)).trans HOV.out)
    have HR3 := Lib.hid hR3
    have HG3 := Lib.hid (grown_trans HGV.out hg3)
    have hs3 : V.heap.size ≤ w3.heap.size := hg3.size
    clear hm hR3 hg3
    go_wp2_with fail
    obtain ⟨B, hB⟩ : ∃ B, w3.heap.size = B := ⟨_, rfl⟩
    obtain ⟨i0, hi, hz0, hz1, hz2⟩ := info_parts infoEnt
    go_loopw [19] (fun i wr => ∃ (q : Nat) (Vv : Value), i = .int .i64 q ∧ q ≤ m ∧ Ino4 wr w2.heap.size (.int .i64 (N : Int)) (.bool true) Vv (.string ⟨#[]⟩) ∧ wr.ownsRow B 69 2 Vv q ((x.ents.take q).flatMap enV) ∧ Ino4 wr w.heap.size (.int .i64 0) (.bool false) (.slice none 0 0) (.string ⟨#[]⟩) ∧ Rd wr p (entsL (x.ents.drop q) ++ rest) ∧ w.grownBy wr (some p) ∧ B ≤ wr.heap.size) (fun i _ => m - (intOf i).toNat)
    case atStart => exact ⟨0, _, rfl, by omega, HX3.out, by simpa using World.ownsRow_nil _ _ _ _, HO3.out, HR3.out, HG3.out, by omega⟩
    case round =>
      obtain ⟨q, Vv, rfl, hq, hxr, hown, hor, hRr, hgr, hBr⟩ := hrel
      obtain ⟨c0, c1, c2, c3, cf, hxl⟩ := hxr.get
      obtain ⟨r0, r1, rf, hprl⟩ := hRr.get
      have HXr := Lib.hid hxr
      have HOr := Lib.hid hor
      have HRr := Lib.hid hRr
      have HGr := Lib.hid hgr
      have HOW := Lib.hid hown
      clear hxr hor hRr hgr hown c0 c1 c3 r0
      by_cases hlt : q < m
      · obtain ⟨e, he⟩ : ∃ e, x.ents[q]? = some e := ⟨_, List.getElem?_eq_getElem (by have := HMM.out; omega)⟩
        obtain ⟨hn0, hn1, hsz0⟩ := HS.out.ents.2 e (List.mem_of_getElem? he)
        obtain ⟨Y, hY⟩ : ∃ Y, e.num.toNat = Y := ⟨_, rfl⟩
        have hYn : e.num = (Y : Int) := by omega
        have hY2 : Y < 128 := by omega
        have hrd := HRr.out
        rw [entsL_drop _ _ _ he] at hrd
        unfold entL at hrd
        rw [hY, List.append_assoc, List.append_assoc] at hrd
        have HRD : Hid (Rd wr.drew p _) := Lib.hid hrd
        have HXD : Hid (Ino4 wr.drew w2.heap.size _ _ _ _) := Lib.hid HXr.out
        have HOD : Hid (Ino4 wr.drew w.heap.size _ _ _ _) := Lib.hid HOr.out
        have HWD : Hid (wr.drew.ownsRow B 69 2 Vv q ((x.ents.take q).flatMap enV)) := Lib.hid HOW.out
        have q1 : decide ((q : Int) < (m : Int)) = true := by rw [decide_eq_true_eq]; omega
        have HE := Lib.hid he
        have HYN := Lib.hid hYn
        clear hrd he hYn hY
        go_wp2_with fail
        have hpX : p ≠ w2.heap.size := by omega
        have hpO : p ≠ w.heap.size := by omega
        have hXB : w2.heap.size < B := by omega
        have hpB : p < B := by omega
        have hrl : (entsL (x.ents.drop (q + 1)) ++ rest).length ≤ 1099511627776 := by
          rw [List.length_append]
          have h1 := entsL_small (x.ents.drop (q + 1)) (fun e9 h9 => (HS.out.ents.2 e9 (List.mem_of_mem_drop h9)).2.2)
          have h2 : (x.ents.drop (q + 1)).length ≤ 64 := by rw [List.length_drop]; have := HMM.out; omega
          omega
        have hrl2 : (numL Y ++ (entsL (x.ents.drop (q + 1)) ++ rest)).length ≤ 1099511627776 := by
          rw [List.length_append]
          have := numL_len Y
          rw [numL_last Y hY2]
          simp only [List.length_cons, List.length_nil]
          have h1 := entsL_small (x.ents.drop (q + 1)) (fun e9 h9 => (HS.out.ents.2 e9 (List.mem_of_mem_drop h9)).2.2)
          have h2 : (x.ents.drop (q + 1)).length ≤ 64 := by rw [List.length_drop]; have := HMM.out; omega
          rw [List.length_append]
          omega
        have hq64 : q + 1 ≤ 65 := by omega
        obtain ⟨bi, hbi, hbz0, hbz1, hbz2⟩ := info_parts infoEnt
        go_region_law (first
          | (refine step_append_lies _ rfl _ _ _ rfl B 69 bi (.agg #[.string ⟨#[]⟩, .int .i64 0]) 2 24 Tryz.underlying40 hbi hbz0 hbz1 hbz2 rfl (by omega) Vv q _ (by simp [Act.eval, Act.put]) (hw6.alloc _) ⟨w6.heap.size, 0, none⟩ 1 1 [.string e.name, .int .i64 (Y : Int)] (by simp [Act.eval, Act.put]) rfl (World.news_of_block (cs := #[.string e.name, .int .i64 (Y : Int)]) (t := 69) (fr := (0, 0)) (heap_alloc_new w6 _)) (by simp [Value.oneCell']) (by omega) (by unfold maxLen; omega) (by omega) (by simp; omega) (w6.heap.size + 1) (by simp) ?_
             intro gg cap w7 hown7 hgrow7 hat7 hlt7
             have hx7 : Ino4 w7 w2.heap.size _ _ _ _ := own_other (hw6.alloc _) hgrow7 hXB ((Below.heap_alloc w6 _ _ hx6.get.2.2.2.2.2).trans hx6)
             obtain ⟨_, _, a7, _, af7, _⟩ := hx7.get
             have af72 := af7 2)
          | (go_simp
             go_at_call 110
             refine (rtext_any p e.name _ 12 _ HRD.out (by omega) (by omega) hrl2).mono ?_
             rintro e5 w5 ⟨rfl, hR5, hg5⟩
             have hx5 : Ino4 w5 w2.heap.size _ _ _ _ := (hg5.block w2.heap.size hxl (by intro e9; injection e9 with e9; omega)).trans HXD.out
             have a5 := hx5.get.2.2.1)
          | (go_simp
             go_at_call 84
             refine (rnum_any p Y _ 2147483647 _ hR5 hY2 (by omega)).mono ?_
             rintro e6 w6 ⟨rfl, hR6, hg6⟩
             have hx6 : Ino4 w6 w2.heap.size _ _ _ _ := (hg6.block w2.heap.size hx5.get.2.2.2.2.2 (by intro e9; injection e9 with e9; omega)).trans hx5
             have a6 := hx6.get.2.2.1
             have a6b : ∀ o, (w6.alloc o).cell? ⟨w2.heap.size, 2, none⟩ = some Vv := fun o => (World.cell?_of_block (Below.heap_alloc w6 o _ hx6.get.2.2.2.2.2)).trans a6
             have hw6 := own_kept HWD.out (grown_trans hg5 hg6) hpB
             have hbs : B ≤ w6.heap.size := by have := hg5.size; have := hg6.size; have h9 : wr.drew.heap.size = wr.heap.size := rfl; omega))
        all_goals
          have HX8 : Hid (Ino4 (w7.setCell ⟨w2.heap.size, 2, none⟩ (.slice (some ⟨gg, 0, none⟩) (q + 1) cap)) w2.heap.size (.int .i64 (N : Int)) (.bool true) (.slice (some ⟨gg, 0, none⟩) (q + 1) cap) (.string ⟨#[]⟩)) := Lib.hid (heap_setCell_same w7 w2.heap.size 2 _ _ _ hx7)
          have hg8 := grown_setL w7 w2.heap.size 2 (.slice (some ⟨gg, 0, none⟩) (q + 1) cap)
          have ho5 : Ino4 w5 w.heap.size _ _ _ _ := (hg5.block w.heap.size HOD.out.get.2.2.2.2.2 (by intro e9; injection e9 with e9; omega)).trans HOD.out
          have ho6 : Ino4 w6 w.heap.size _ _ _ _ := (hg6.block w.heap.size ho5.get.2.2.2.2.2 (by intro e9; injection e9 with e9; omega)).trans ho5
          have ho7 : Ino4 w7 w.heap.size _ _ _ _ := own_other (hw6.alloc _) hgrow7 (by omega) ((Below.heap_alloc w6 _ _ ho6.get.2.2.2.2.2).trans ho6)
          have HO8 : Hid (Ino4 (w7.setCell ⟨w2.heap.size, 2, none⟩ (.slice (some ⟨gg, 0, none⟩) (q + 1) cap)) w.heap.size _ _ _ _) := Lib.hid ((hg8.block w.heap.size ho7.get.2.2.2.2.2 (by intro e9; injection e9 with e9; omega)).trans ho7)
          have hr7 : Rd w7 p _ := own_other (hw6.alloc _) hgrow7 hpB ((Below.heap_alloc w6 _ _ hR6.get.2.2.2).trans hR6)
          have HR8 : Hid (Rd (w7.setCell ⟨w2.heap.size, 2, none⟩ (.slice (some ⟨gg, 0, none⟩) (q + 1) cap)) p _) := Lib.hid ((hg8.block p hr7.get.2.2.2 (by intro e9; injection e9 with e9; omega)).trans hr7)
          have HW8 := Lib.hid (own_kept hown7 hg8 hXB)
          have hgd : w.grownBy wr.drew (some p) := ⟨HGr.out.os, HGr.out.tape, HGr.out.output, HGr.out.size, HGr.out.block⟩
          have hbw : ∀ g, Vv.ownBlock = some g → w.heap.size ≤ g := fun g e9 => by have := (hw6.lt g e9).1; omega
          have HG8 := Lib.hid (grown_new (grown_newO (grown_trans (grown_trans (grown_trans hgd hg5) hg6) (grown_of_below ((Below.refl _ _).alloc (Nat.le_refl _) _))) hgrow7 hbw) hg8 (by omega))
          have hs8 : w6.heap.size ≤ (w7.setCell ⟨w2.heap.size, 2, none⟩ (.slice (some ⟨gg, 0, none⟩) (q + 1) cap)).heap.size := by
            have h1 := hg8.size
            have h2 := hgrow7.size
            have h3 : (w6.alloc (.cells #[.string e.name, .int .i64 (Y : Int)] 69)).heap.size = w6.heap.size + 1 := by simp
            omega
          obtain ⟨w8, hw8⟩ : ∃ w8, w7.setCell ⟨w2.heap.size, 2, none⟩ (.slice (some ⟨gg, 0, none⟩) (q + 1) cap) = w8 := ⟨_, rfl⟩
          rw [hw8] at HX8 HO8 HR8 HW8 HG8 hs8 ⊢
          clear hw8 hg8 ho5 ho6 ho7 hr7 hx7 hx6 hx5 a5 a6 a6b a7 af7 af72 hR5 hR6 hgrow7 hown7
          go_wp2_with fail
          have htk : x.ents.take (q + 1) = x.ents.take q ++ [e] := by
            rw [List.take_add_one, HE.out]
            rfl
          refine ⟨⟨q + 1, _, by simp, by omega, HX8.out, ?_, HO8.out, HR8.out, HG8.out, by omega⟩, by simp [intOf]; omega⟩
          rw [htk, List.flatMap_append]
          have h9 := HW8.out
          rw [← HYN.out] at h9
          exact h9
      · have q1 : decide ((q : Int) < (m : Int)) = false := by rw [decide_eq_false_iff_not]; omega
        have hqm : q = m := by omega
        subst hqm
        obtain ⟨b0, b1, b2, b3, bf, _⟩ := HXr.out.get
        obtain ⟨d0, d1, d2, d3, df, hlo⟩ := HOr.out.get
        obtain ⟨E, cE, hvE, hcE, hnE, hEE⟩ := EntsAt.of_row HOW.out
        subst hvE
        obtain ⟨w5, hw5, hi5, hg5⟩ := HOr.out.four (.int .i64 (N : Int)) (.bool true) (.slice E q cE) (.string ⟨#[]⟩)
        have HI5 := Lib.hid hi5
        have HR5 : Hid (Rd w5 p _) := Lib.hid ((hg5.block p hprl (by intro e9; injection e9 with e9; omega)).trans HRr.out)
        have HG5 := Lib.hid (grown_new HGr.out hg5 (Nat.le_refl _))
        have HE5 := Lib.hid ((hEE.grown hg5 (by omega)).mono (B' := w.heap.size) (by omega))
        clear hi5 hg5 hEE
        go_wp2_with fail
        (try simp only [Exit.inBlock, Exit.then])
        refine bodyPost_ret (results_cell_row rfl _ _ w.heap.size 42 _ (0, 0) _ rfl HI5.out Tryz.underlying42 rfl (by kernel_rfl)) rfl ?_
        have hz1 := HMM.out
        refine ⟨E, q, cE, ?_, ⟨hcE, fun h9 => (hnE h9).2⟩, ?_, ?_, HG5.out⟩
        · rw [HS.out.dir HDX.out]
        · have h9 := HE5.out
          rw [← hz1, List.take_length] at h9
          rw [← hz1]
          exact h9
        · have h9 := HR5.out
          rw [← hz1, List.drop_length] at h9
          exact h9
end Go.Proofs.YthhceopnnappgaaGreat
