/- Parts of the proof, side by side: FsReached, PlainPath. -/
import Derived.Test.YthhceopnnappgaaGreatDoorM02
import Derived.Test.YthhceopnnappgaaGreatDoorStRow
import Derived.Laws.AppendOwn
import Derived.Deep.OwnRows
import Derived.Deep.LoopGhost
import Derived.Test.YthhceopnnappgaaGreatDoorM00
set_option linter.unusedVariables false
set_option linter.unusedSimpArgs false
namespace Go.Proofs.YthhceopnnappgaaGreatDoor
open Go.RowKit
def FlagsAt (w : World) (G n : Nat) (f : List Bool) : Prop := ∃ cur : Array Value, w.heap[G]? = some (.cells cur 4 (0, 0)) ∧ ∀ j, j < n → cur[j]? = some (.bool (f.getD j false))
theorem FlagsAt.lt {w : World} {G n : Nat} {f : List Bool} (h : FlagsAt w G n f) : G < w.heap.size := by
 obtain ⟨cur, hh, _⟩ := h
 exact (Array.getElem?_eq_some_iff.1 hh).1
theorem FlagsAt.same {w w' : World} {G n : Nat} {f : List Bool} (h : FlagsAt w G n f) (hb : w'.heap[G]? = w.heap[G]?) : FlagsAt w' G n f := by
 obtain ⟨cur, hh, hc⟩ := h
 exact ⟨cur, hb.trans hh, hc⟩
theorem FlagsAt.below {w w' : World} {G n : Nat} {f : List Bool} (h : FlagsAt w G n f) (hb : Below w.heap.size w w') : FlagsAt w' G n f := h.same (hb.block G h.lt)
theorem FlagsAt.get {w : World} {G n : Nat} {f : List Bool} (h : FlagsAt w G n f) (j : Nat) (hj : j < n) : w.cell? ⟨G, j, .none⟩ = some (.bool (f.getD j false)) ∧ w.frozen? ⟨G, j, .none⟩ = false := by
 obtain ⟨cur, hh, hc⟩ := h
 exact ⟨by rw [cell_of_row w G j cur _ (0, 0) hh]; exact hc j hj, frozen_of_row w G j cur _ hh⟩
theorem FlagsAt.set {w : World} {G n : Nat} {f : List Bool} (h : FlagsAt w G n f) (b : Nat) (hb : b < n) (hf : b < f.length) : FlagsAt (w.setCell ⟨G, b, .none⟩ (.bool true)) G n (f.set b true) := by
 obtain ⟨cur, hh, hc⟩ := h
 refine ⟨_, heap_setCell_same w G b cur _ _ hh, fun j hj => ?_⟩
 rw [Array.getElem?_setIfInBounds, getD_set f b j hf]
 by_cases e : b = j
 ·subst e
  have : b < cur.size := (Array.getElem?_eq_some_iff.1 (hc b hb)).1
  simp [this]
 ·rw [if_neg e, if_neg (fun e2 => e e2.symm)]
  exact hc j hj
theorem infoFlag : (Tryz.prog.info? 4).map (fun i => (i.zero, i.size, i.bytes)) = some (some (.bool false), 1, 1) := by kernel_rfl
theorem infoNum : (Tryz.prog.info? 3).map (fun i => (i.zero, i.size, i.bytes)) = some (some (.int .i64 0), 1, 8) := by kernel_rfl
theorem make_flags (N : Nat) (h : N ≤ 65536) (w : World) : ∃ W, (Instr.makeSlice 76 (.int .i64 (N : Int)) (.int .i64 (N : Int))).run Tryz.prog w = .ok (.slice (some ⟨w.heap.size, 0, .none⟩) N N) W ∧ FlagsAt W w.heap.size N (List.replicate N false) ∧ Below w.heap.size w W := by
 refine ⟨_, run_make_row' (P := Tryz.prog) 76 4 (.bool false) 1 Tryz.underlying76 infoFlag rfl .i64 .i64 N (by omega) (by omega) w, ⟨_, heap_alloc_new w _, fun j hj => ?_⟩, (Below.refl _ _).alloc (Nat.le_refl _) _⟩
 have h1 : (List.replicate N false).getD j false = false := by
  rw [List.getD_eq_getElem?_getD, List.getElem?_replicate]
  split <;> rfl
 rw [h1]
 simp [madeCells, hj, Nat.mod_one]
theorem row_cut {w : World} {B : Nat} {e : TypeId} {A : Option Addr} {n m c : Nat} {xs : List Value} (h : w.ownsRow B e 1 (.slice A (n + m) c) (n + m) xs) (hm : 0 < m) : w.ownsRow B e 1 (.slice A n c) n (xs.take n) := by
 obtain ⟨hl, h⟩ := h
 refine ⟨by rw [List.length_take]; omega, ?_⟩
 rcases h with ⟨_, h2⟩ | ⟨g, cap, cur, hv, hb, hg, hnc, hcm, hcs, htk⟩
 ·omega
 ·injection hv with e1 e2 e3
  subst e1 e3
  refine Or.inr ⟨g, c, cur, rfl, hb, hg, by omega, hcm, hcs, ?_⟩
  rw [← htk, List.take_take]
  congr 1
  omega
theorem row_one (w : World) (e : TypeId) (v : Value) : (w.alloc (.cells #[v] e)).ownsRow w.heap.size e 1 (.slice (some ⟨w.heap.size, 0, .none⟩) 1 1) 1 [v] :=
 ⟨rfl, Or.inr ⟨w.heap.size, 1, #[v], rfl, Nat.le_refl _, heap_alloc_new w _, Nat.le_refl _, by unfold maxLen; omega, rfl, rfl⟩⟩
theorem new_one (w : World) (v : Value) (t : TypeId) : ∀ j u, ([v] : List Value)[j]? = some u → (w.alloc (.cells #[v] t)).cell? ((⟨w.heap.size, 0, .none⟩ : Addr).add j) = some u := by
 intro j u hu
 have e : (⟨w.heap.size, 0, .none⟩ : Addr).add j = ⟨w.heap.size, j, .none⟩ := by unfold Addr.add; split <;> simp_all
 rw [e]
 exact (World.cell?_alloc_mark w _ _ (0, 0) _).trans (by simpa using hu)
theorem row_below {B : Nat} {e : TypeId} {k : Nat} {w w' : World} {v : Value} {n : Nat} {xs : List Value} (h : w.ownsRow B e k v n xs) (hb : Below w.heap.size w w') : w'.ownsRow B e k v n xs := by
 obtain ⟨hl, h⟩ := h
 refine ⟨hl, ?_⟩
 rcases h with h | ⟨g, cap, cur, hv, hB, hg, r⟩
 ·exact Or.inl h
 ·exact Or.inr ⟨g, cap, cur, hv, hB, (hb.block g (Array.getElem?_eq_some_iff.1 hg).1).trans hg, r⟩
theorem row_set {B : Nat} {e : TypeId} {k : Nat} {w : World} {v : Value} {n : Nat} {xs : List Value} {G i : Nat} {u : Value} (h : w.ownsRow B e k v n xs) (hG : G < B) : (w.setCell ⟨G, i, .none⟩ u).ownsRow B e k v n xs := by
 obtain ⟨hl, h⟩ := h
 refine ⟨hl, ?_⟩
 rcases h with h | ⟨g, cap, cur, hv, hB, hg, r⟩
 ·exact Or.inl h
 ·exact Or.inr ⟨g, cap, cur, hv, hB, (Below.heap_setCell w ⟨G, i, .none⟩ u g (by show g ≠ G; omega)).trans hg, r⟩
theorem map_last (ys : List Int) (t : Int) : ((ys ++ [t]).map (Value.int .i64))[ys.length]? = some (.int .i64 t) := by simp
set_option maxRecDepth 100000 in
set_option maxHeartbeats 8000000 in
theorem reached_any (v : Value) (s : St) (w : World) (h : StAt none w v s) (hn0 : s.inos.length ≤ 257) :
  Calls Tryz.prog 37 #[v] w fun e w' => ∃ G, e = .returned (.slice (some ⟨G, 0, .none⟩) s.inos.length s.inos.length) ∧ FlagsAt w' G s.inos.length (reachV s.inos) ∧ Below w.heap.size w w' := by
 obtain ⟨⟨A, n, c, B, m, d, D, k, e, rfl, hI, hD, hM, h5, h6, h7⟩, hz⟩ := h
 have hbig := hz.big
 have hn := hI.1
 obtain ⟨i0, hi, hz0, hz1, hz2⟩ := info_parts infoNum
 obtain ⟨W, hW, b0, b1, b2, hal, hlt0⟩ := box_st w A n c B m d D k e
 obtain ⟨U, hmk, hfl, hal2⟩ := make_flags n (by omega) W
 have x0 := (hal2.cell (p := ⟨w.heap.size, 0, .none⟩) hlt0).trans b0
 have x1 := (hal2.cell (p := ⟨w.heap.size, 1, .none⟩) hlt0).trans b1
 have x2 := (hal2.cell (p := ⟨w.heap.size, 2, .none⟩) hlt0).trans b2
 have HS := Lib.hid (StAt.of_parts hI hD hM h5 h6 h7 hz)
 have HI := Lib.hid hI
 have HAL := Lib.hid (Cv.next hal hal2)
 have hrow := row_one U 3 (.int .i64 1)
 have hal3 : Below U.heap.size U (U.alloc (.cells #[.int .i64 1] 3)) := (Below.refl _ _).alloc (Nat.le_refl _) _
 have hfl3 := hfl.below hal3
 have HF := Lib.hid hfl3
 have HAL3 := Lib.hid hal3
 have HROW := Lib.hid hrow
 have hWU : W.heap.size < U.heap.size := hfl.lt
 have hwU : w.heap.size < U.heap.size := Nat.lt_of_lt_of_le hlt0 hal2.size
 have hB2 : bulkE s.inos ≤ 1099511627776 := by omega
 have hn2 : n ≤ 257 := by omega
 have HN := Lib.hid hn
 rw [hn]
 clear hI hD hM hz hbig hn hal hal2 hrow hal3 hfl hfl3 b1 b2 hn0
 go_enter Tryz.func37, Tryz.ntmps37
 go_wp2_with fail
 clear hW hmk b0
 go_loopg [4, 5, 6] (1 + bulkE s.inos) (fun gk v4 _ _ wr => ∃ (V : Value) (todo : List Int) (f : List Bool), V = v4 ∧ wr.ownsRow U.heap.size 3 1 V todo.length (todo.map (Value.int .i64)) ∧ FlagsAt wr W.heap.size n f ∧ Below W.heap.size U wr ∧ U.heap.size ≤ wr.heap.size ∧ Found s.inos todo f ∧ todo.length + sumUn s.inos f = gk ∧ gk ≤ 1 + bulkE s.inos)
 case atStart => exact ⟨_, [1], List.replicate n false, rfl, HROW.out, HF.out, HAL3.out.mono (Nat.le_of_lt hWU), HAL3.out.size, by rw [← HN.out]; exact Found.start s.inos, by rw [sumUn_start]; rfl, Nat.le_refl _⟩
 case round =>
  obtain ⟨V, todo, f, hV4, hrow, hfl, hbel, hsz, hfo, hgk, hgb⟩ := hrel
  subst hV4
  have z0 := (hbel.cell (p := ⟨w.heap.size, 0, .none⟩) hlt0).trans x0
  have z1 := (hbel.cell (p := ⟨w.heap.size, 1, .none⟩) hlt0).trans x1
  have z2 := (hbel.cell (p := ⟨w.heap.size, 2, .none⟩) hlt0).trans x2
  have hbw : Below w.heap.size w wr := HAL.out.trans (hbel.mono (Nat.le_of_lt hlt0))
  have HB := Lib.hid hbel
  have HBW := Lib.hid hbw
  have HFL := Lib.hid hfl
  have HFO := Lib.hid hfo
  have HSw := Lib.hid (HS.out.below hbw)
  have hwsz : W.heap.size < wr.heap.size := Nat.lt_of_lt_of_le hWU hsz
  clear hbel hfl hfo hbw
  rcases List.eq_nil_or_concat todo with rfl | ⟨ys, t, rfl⟩
  ·have hv : V = .slice none 0 0 ∨ ∃ a c, V = .slice a 0 c := by
    rcases hrow.2 with ⟨h1, _⟩ | ⟨g, cap, cur, h1, _⟩
    ·exact .inl h1
    ·exact .inr ⟨_, _, h1⟩
   have HF2 := Lib.hid HFO.out.same
   rcases hv with rfl | ⟨a, c4, rfl⟩
   ·clear hrow
    go_wp2_with fail
    go_ret
    exact ⟨W.heap.size, rfl, by rw [← HF2.out]; exact HFL.out, HBW.out⟩
   ·clear hrow
    go_wp2_with fail
    go_ret
    exact ⟨W.heap.size, rfl, by rw [← HF2.out]; exact HFL.out, HBW.out⟩
  ·rw [List.concat_eq_append] at hrow HFO hgk
   have hlen : (ys ++ [t]).length = ys.length + 1 := by simp
   rw [hlen] at hrow hgk
   obtain ⟨g, c4, rfl, hlast, hcut⟩ : ∃ g c4, V = .slice (some ⟨g, 0, .none⟩) (ys.length + 1) c4 ∧ wr.cell? ⟨g, ys.length, .none⟩ = some (.int .i64 t) ∧ ys.length + 1 ≤ c4 := by
    rcases hrow.2 with ⟨_, h2⟩ | ⟨g, cap, cur, h1, _, _, h4, _⟩
    ·omega
    ·subst h1
     exact ⟨g, cap, rfl, (hrow.cellAt ys.length (by omega)).trans (map_last ys t), h4⟩
   have hrow2 := row_cut (n := ys.length) (m := 1) hrow (by omega)
   rw [show ((ys ++ [t]).map (Value.int .i64)).take ys.length = ys.map (Value.int .i64) by simp] at hrow2
   obtain ⟨L, hL⟩ : ∃ L, ys.length = L := ⟨_, rfl⟩
   rw [hL] at hlast hcut hrow2 hgk ⊢
   have HROW2 := Lib.hid hrow2
   have HL := Lib.hid hL
   have l0 : decide ((0 : Int) < (L : Int) + 1) = true := by rw [decide_eq_true_eq]; omega
   have lw : IntKind.i64.wrap ((L : Int) + 1 - 1) = (L : Int) := by rw [IntKind.wrap_i64]; omega
   have l1 : (0 : Int) ≤ (L : Int) := by omega
   have l2 : (L : Int) < (L : Int) + 1 := by omega
   have l3 : L ≤ 1099511627777 := by omega
   have hx : ∀ (X : Ext wr) (p : Addr), (wr.cell? p).isSome = true → X.w.cell? p = wr.cell? p := fun X p h => X.cell p h
   have hlast2 : (ys ++ [t]).getLast? = some t := by simp
   have hdl : (ys ++ [t]).dropLast = ys := by simp
   have HLA := Lib.hid hlast2
   have HDL := Lib.hid hdl
   clear hrow hrow2 hlen hL hlast2 hdl
   go_wp2_with fail
   refine wre ?_
   repeat (go_big_quiet_step (first | (go_at_call 57; rename_i X; exact Calls.ext_of (at_any _ s _ _ (HSw.out.below X.bel)))))
   refine wpQuiet_nil ?_
   rintro w7 ⟨X, rfl⟩
   generalize hZe : X.w = Z
   have hZ := hZe ▸ X.bel
   clear hZe X hx hlast
   have hbz : Below w.heap.size w Z := Cv.next HBW.out hZ
   have hbu : Below W.heap.size U Z := HB.out.trans (hZ.mono (Nat.le_of_lt hwsz))
   have y0 := (hZ.cell (p := ⟨w.heap.size, 0, .none⟩) (Nat.lt_trans hlt0 hwsz)).trans z0
   have hszz : U.heap.size ≤ Z.heap.size := Nat.le_trans hsz hZ.size
   have HFZ := Lib.hid (HFL.out.below hZ)
   have HRZ := Lib.hid (row_below HROW2.out hZ)
   have HBZ := Lib.hid hbz
   have HBU := Lib.hid hbu
   clear hbz hbu hZ z0 z1 z2
   rcases atV_cases s.inos t with ⟨hat, _⟩ | ⟨i, x, hat, hx, _, _⟩
   ·rw [hat]
    have HSK := Lib.hid (HFO.out.skip HLA.out fun j hj => by rw [hat] at hj; omega)
    clear hat
    go_wp2_with fail
    go_roundg (gk - 1)
    case measure => omega
    case rel => exact ⟨_, ys, f, rfl, by rw [HL.out]; exact HRZ.out, HFZ.out, HBU.out, hszz, by have := HSK.out; rwa [HDL.out] at this, by rw [HL.out]; omega, by omega⟩
   ·rw [hat]
    have hin : i < n := by have := (List.getElem?_eq_some_iff.1 hx).1; have := HN.out; omega
    have hif : i < f.length := by rw [HFO.out.len, HN.out]; exact hin
    have q0 : decide ((i : Int) < 0) = false := by simp
    have i0' : (0 : Int) ≤ (i : Int) := by omega
    have i9 : (i : Int) < (n : Int) := by omega
    obtain ⟨fc, ff⟩ := HFZ.out.get i hin
    by_cases hf : f.getD i false = true
    ·have HSK := Lib.hid (HFO.out.skip HLA.out fun j hj => by rw [hat] at hj; (have : i = j := by omega); rw [← this]; exact hf)
     rw [hf] at fc
     clear hat hx
     go_wp2_with fail
     go_roundg (gk - 1)
     case measure => omega
     case rel => exact ⟨_, ys, f, rfl, by rw [HL.out]; exact HRZ.out, HFZ.out, HBU.out, hszz, by have := HSK.out; rwa [HDL.out] at this, by rw [HL.out]; omega, by omega⟩
    ·have hf2 : f.getD i false = false := by simpa using hf
     have HTK := Lib.hid (HFO.out.take HLA.out hat hx)
     have hsum := sumUn_set s.inos f i x hif hf2 hx
     have hle := bulkE_le hx
     rw [hf2] at fc
     obtain ⟨g2, off2, x', E, m3, d3, rfl, hg2, hx', _, _, _, c1, c2, hmd, hE, _⟩ := HI.out.get i hin
     have ex : x = x' := by rw [hx] at hx'; exact Option.some.inj hx'
     subst ex
     have hel := hE.1
     have hm3 : m3 ≤ 1099511627776 := by omega
     have HE := Lib.hid hE
     have HEL := Lib.hid hel
     have HSM := Lib.hid hsum
     have HFS := Lib.hid (HFZ.out.set i hin hif)
     have HRS := Lib.hid (row_set (i := i) (u := .bool true) HRZ.out hWU)
     have HBU2 := Lib.hid (HBU.out.setCell (p := ⟨W.heap.size, i, .none⟩) (Nat.le_refl _) (.bool true))
     have HBZ2 := Lib.hid (HBZ.out.setCell (p := ⟨W.heap.size, i, .none⟩) (Nat.le_of_lt hlt0) (.bool true))
     have hszz2 : U.heap.size ≤ (Z.setCell ⟨W.heap.size, i, .none⟩ (.bool true)).heap.size := by simpa [World.setCell] using hszz
     have y1 := (World.cell?_setCell_other Z ⟨W.heap.size, i, .none⟩ ⟨w.heap.size, 0, .none⟩ (.bool true) (fun e => by injection e with e; omega)).trans y0
     obtain ⟨Z2, hZ2⟩ : ∃ Z2, Z.setCell ⟨W.heap.size, i, .none⟩ (.bool true) = Z2 := ⟨_, rfl⟩
     rw [hZ2] at HFS HRS HBU2 HBZ2 hszz2 y1
     clear hat hx hx' hsum hel hE hf
     by_cases hdir : x.dir = true
     ·rw [hdir] at c1
      have HDR := Lib.hid hdir
      clear hdir hf2
      go_wp2_with fail
      clear hZ2 y0 y1 fc ff
      go_loopw [4, 6] (fun v j wz => ∃ (q : Nat) (V : Value), V = v ∧ j = .int .i64 q ∧ q ≤ m3 ∧ wz.ownsRow U.heap.size 3 1 V (L + q) ((ys ++ (x.ents.take q).map (·.num)).map (Value.int .i64)) ∧ FlagsAt wz W.heap.size n (f.set i true) ∧ Below W.heap.size U wz ∧ U.heap.size ≤ wz.heap.size) (fun _ j _ => m3 - (intOf j).toNat)
      case atStart => exact ⟨0, _, rfl, rfl, by omega, by simpa using HRS.out, HFS.out, HBU2.out, hszz2⟩
      case round =>
       obtain ⟨q, V, hV, rfl, hq, hrow, hfl, hbel, hsz3⟩ := hrel
       subst hV
       have hbw : Below w.heap.size w wr := HAL.out.trans (hbel.mono (Nat.le_of_lt hlt0))
       have r0 := (hbel.cell (p := ⟨w.heap.size, 0, .none⟩) hlt0).trans x0
       have s1 := (hbw.cell (p := ⟨g2, _, .none⟩) hg2).trans c1
       have s2 := (hbw.cell (p := ⟨g2, _, .none⟩) hg2).trans c2
       have HR9 := Lib.hid hrow
       have HF9 := Lib.hid hfl
       have HB9 := Lib.hid hbel
       have HW9 := Lib.hid hbw
       clear hrow hfl hbel hbw
       by_cases hlt : q < m3
       ·obtain ⟨g3, off3, y, rfl, hg3, hy, hd, hmem, _, e1⟩ := HE.out.get q hlt
        have s3 := (HW9.out.cell (p := ⟨g3, _, .none⟩) hg3).trans e1
        have htk : (x.ents.take (q + 1)).map (·.num) = (x.ents.take q).map (·.num) ++ [y.num] := by
         rw [List.take_add_one, hy]
         simp
        have HTK2 := Lib.hid htk
        clear hy hd hmem e1 htk c1 c2
        go_wp2_with (at_builtin; refine wpList_append_own _ rfl _ _ 24 rfl U.heap.size 3 i0 (.int .i64 0) 1 8 Tryz.underlying24 hi hz0 hz1 hz2 rfl (by decide) _ (L + q) _ rfl (HR9.out.alloc _) ⟨wr.heap.size, 0, .none⟩ 1 1 [.int .i64 y.num] rfl rfl (new_one wr _ _) ?ca2 ?ca3 ?ca4 ?ca5 ?_)
        case ca2 => first | rfl | (intro u hu; simp at hu; subst hu; rfl)
        case ca3 => unfold maxLen; omega
        case ca4 => omega
        case ca5 => first | omega | (simp; omega)
        intro v' w' hown' hgrow _
        have hge : ∀ k, V.ownBlock = some k → U.heap.size ≤ k := fun k hk => (HR9.out.lt k hk).1
        have hfl' : FlagsAt w' W.heap.size n (f.set i true) := (HF9.out.below ((Below.refl _ _).alloc (Nat.le_refl _) _)).same (hgrow.block _ (by simp; omega) (fun e => by have := hge _ e.symm; omega))
        have hbel' : Below W.heap.size U w' := (HB9.out.alloc (by omega) _).grown hgrow (by simp; omega) (fun k hk => by have := hge k hk; omega)
        have hsz' : U.heap.size ≤ w'.heap.size := Nat.le_trans hsz3 (Nat.le_trans (by simp) hgrow.size)
        have HO' := Lib.hid hown'
        have HF' := Lib.hid hfl'
        have HB' := Lib.hid hbel'
        clear hown' hgrow hge hfl' hbel'
        go_wp2_with fail
        go_roundw
        case rel => exact ⟨q + 1, _, rfl, by go_num, by omega, by
         have := HO'.out
         rw [HTK2.out]
         simpa [Nat.add_assoc] using this, HF'.out, HB'.out, hsz'⟩
        case measure => simp [intOf]; omega
       ·have hqm : q = m3 := by omega
        have HQM := Lib.hid hqm
        clear hqm c1 c2
        go_wp2_with fail
        go_roundg (gk - 1)
        case measure => omega
        case rel =>
         have hall : x.ents.take q = x.ents := List.take_of_length_le (by have := HEL.out; have := HQM.out; omega)
         have hlen : (ys ++ x.ents.map (·.num)).length = L + q := by rw [List.length_append, List.length_map, HL.out, HEL.out, HQM.out]
         refine ⟨_, ys ++ x.ents.map (·.num), f.set i true, rfl, ?_, HF9.out, HB9.out, hsz3, ?_, ?_, by omega⟩
         ·rw [hlen]
          have := HR9.out
          rwa [hall] at this
         ·have := HTK.out
          rwa [HDL.out, if_pos HDR.out] at this
         ·rw [hlen]
          have := HSM.out
          have := HEL.out
          have := HQM.out
          omega
     ·have hdir2 : x.dir = false := by simpa using hdir
      rw [hdir2] at c1
      have HDR := Lib.hid hdir2
      have s1 := (HBZ2.out.cell (p := ⟨g2, _, .none⟩) hg2).trans c1
      have s2 := (HBZ2.out.cell (p := ⟨g2, _, .none⟩) hg2).trans c2
      clear hdir hf2 hdir2 c1 c2
      go_wp2_with fail
      clear hZ2 y0 fc ff
      go_loopw [4, 6] (fun v j wz => v = .slice (some ⟨g, 0, .none⟩) L c4 ∧ j = .int .i64 0 ∧ Z2 = wz) (fun _ _ _ => 0)
      case atStart => exact ⟨rfl, rfl, rfl⟩
      case round =>
       obtain ⟨rfl, rfl, rfl⟩ := hrel
       by_cases hlt2 : 0 < m3
       ·go_wp2_with fail
        go_roundg (gk - 1 - m3)
        case measure => omega
        case rel => exact ⟨_, ys, f.set i true, rfl, by rw [HL.out]; exact HRS.out, HFS.out, HBU2.out, hszz2, by have := HTK.out; rwa [HDL.out, if_neg (by rw [HDR.out]; simp), List.append_nil] at this, by rw [HL.out]; have := HSM.out; have := HEL.out; omega, by omega⟩
       ·have hm0 : m3 = 0 := by omega
        subst hm0
        go_wp2_with fail
        go_roundg (gk - 1)
        case measure => omega
        case rel => exact ⟨_, ys, f.set i true, rfl, by rw [HL.out]; exact HRS.out, HFS.out, HBU2.out, hszz2, by have := HTK.out; rwa [HDL.out, if_neg (by rw [HDR.out]; simp), List.append_nil] at this, by rw [HL.out]; have := HSM.out; have := HEL.out; omega, by omega⟩
end Go.Proofs.YthhceopnnappgaaGreatDoor
namespace Go.Proofs.YthhceopnnappgaaGreatDoor
theorem checkL_cases (l : List UInt8) : checkL l = 0 ∨ checkL l = 800 ∨ checkL l = 801 := by
 unfold checkL
 split
 ·exact Or.inr (Or.inr rfl)
 ·split
  ·exact Or.inr (Or.inl rfl)
  ·split
   ·exact Or.inr (Or.inl rfl)
   ·exact Or.inl rfl
def scanP : List UInt8 → List UInt8 → List (List UInt8) → List (List UInt8) × Nat
 | [], _, out => if 4 < out.length then ([], 1102) else (out, 0)
 | b :: r, cur, out => if b = 47 then (if checkL cur = 0 then scanP r [] (out ++ [cur]) else if checkL cur = 801 then ([], 1101) else ([], 1100)) else scanP r (cur ++ [b]) out
def parseL (l : List UInt8) : List (List UInt8) × Nat :=
 if 64 < l.length then ([], 1101) else if ¬ l.head? = some 47 then ([], 1100) else if l.length = 1 then ([], 0) else scanP (l.drop 1 ++ [47]) [] []
theorem scanP_nil (cur : List UInt8) (out : List (List UInt8)) : scanP [] cur out = if 4 < out.length then ([], 1102) else (out, 0) := rfl
theorem scanP_other (b : UInt8) (r cur : List UInt8) (out : List (List UInt8)) (h : ¬ b = 47) : scanP (b :: r) cur out = scanP r (cur ++ [b]) out := by
 show (if b = 47 then _ else _) = _
 rw [if_neg h]
theorem scanP_ok (r cur : List UInt8) (out : List (List UInt8)) (h : checkL cur = 0) : scanP (47 :: r) cur out = scanP r [] (out ++ [cur]) := by
 show (if (47 : UInt8) = 47 then _ else _) = _
 rw [if_pos rfl, if_pos h]
theorem scanP_long (r cur : List UInt8) (out : List (List UInt8)) (h : checkL cur = 801) : scanP (47 :: r) cur out = ([], 1101) := by
 show (if (47 : UInt8) = 47 then _ else _) = _
 rw [if_pos rfl, if_neg (by omega), if_pos h]
theorem scanP_form (r cur : List UInt8) (out : List (List UInt8)) (h : checkL cur = 800) : scanP (47 :: r) cur out = ([], 1100) := by
 show (if (47 : UInt8) = 47 then _ else _) = _
 rw [if_pos rfl, if_neg (by omega), if_neg (by omega)]
def piece (l : List UInt8) (i j : Nat) : List UInt8 := (l.take j).drop i
theorem piece_self (l : List UInt8) (i : Nat) : piece l i i = [] := by
 unfold piece
 exact List.drop_eq_nil_of_le (by rw [List.length_take]; omega)
theorem piece_succ (l : List UInt8) (i j : Nat) (hij : i ≤ j) (hj : j < l.length) : piece l i (j + 1) = piece l i j ++ [l[j]] := by
 unfold piece
 rw [List.take_succ_eq_append_getElem hj, List.drop_append_of_le_length (by rw [List.length_take]; omega)]
theorem extract_piece (s : ByteArray) (i j : Nat) : s.extract i j = ⟨(piece s.data.toList i j).toArray⟩ := by
 apply ByteArray.ext
 apply Array.ext'
 simp [piece, List.extract_eq_take_drop, List.drop_take]
theorem drop_in (l : List UInt8) (j : Nat) (h : j < l.length) : (l ++ [47]).drop j = l[j] :: (l ++ [47]).drop (j + 1) := by
 rw [List.drop_eq_getElem_cons (by simp; omega)]
 rw [List.getElem_append_left h]
theorem drop_at (l : List UInt8) (j : Nat) (h : j = l.length) : (l ++ [47]).drop j = 47 :: (l ++ [47]).drop (j + 1) := by
 subst h
 simp
theorem drop_out (l : List UInt8) (j : Nat) (h : j = l.length + 1) : (l ++ [47]).drop j = [] := by
 subst h
 simp
theorem path_head (s : ByteArray) : s.data.toList.head? = some 47 ↔ ∃ h : 0 < s.size, s[0] = 47 := by
 constructor
 ·intro h
  have hl : 0 < s.data.toList.length := by
   cases e : s.data.toList with
   | nil => rw [e] at h; simp at h
   | cons a l => simp
  have hs : 0 < s.size := hl
  refine ⟨hs, ?_⟩
  rw [List.head?_eq_getElem?, List.getElem?_eq_getElem hl] at h
  exact Option.some.inj h
 ·rintro ⟨h, e⟩
  have hl : 0 < s.data.toList.length := h
  rw [List.head?_eq_getElem?, List.getElem?_eq_getElem hl]
  exact congrArg some e
end Go.Proofs.YthhceopnnappgaaGreatDoor
