/- Parts of the proof, side by side: Rows0, FsBoxIno, FsGrab. -/
import Derived.Test.YtghlgnklnbcppaaStOwn
import Derived.Test.YtghlgnklnbcppaaFsRename
import Derived.Test.YtghlgnklnbcppaaM09
import Derived.Test.YtghlgnklnbcppaaM12
import Derived.Test.YtghlgnklnbcppaaM16
set_option linter.unusedVariables false
set_option linter.unusedSimpArgs false
set_option linter.unusedVariables false
set_option linter.unusedSimpArgs false
namespace Go.Proofs.Ytghlgnklnbcppaa
open Go.RowKit
theorem row_new (w : World) (o : Obj) (b : Nat) (hb : b = w.heap.size) : (w.alloc o).heap[b]? = some o := by subst hb; exact heap_alloc_new w o
theorem row_kept {u w5 : World} {g : Nat} {o : Obj} (hb : Below u.heap.size u w5) (h : u.heap[g]? = some o) : w5.heap[g]? = some o := (hb.block g (Array.getElem?_eq_some_iff.1 h).1).trans h
theorem al1 (w : World) (o : Obj) : (w.alloc o).drew.heap[w.heap.size]? = some o := heap_alloc_new w o
end Go.Proofs.Ytghlgnklnbcppaa

set_option linter.unusedVariables false
set_option linter.unusedSimpArgs false
namespace Go.Proofs.Ytghlgnklnbcppaa
open Go.RowKit
theorem row4 {w : World} {b : Nat} {a0 a1 a2 a3 : Value} (h : w.heap[b]? = some (.cells #[a0, a1, a2, a3] 72 (0, 0))) : w.cell? ⟨b, 0, none⟩ = some a0 ∧ w.cell? ⟨b, 1, none⟩ = some a1 ∧ w.cell? ⟨b, 2, none⟩ = some a2 ∧ w.cell? ⟨b, 3, none⟩ = some a3 ∧ ∀ j, w.frozen? ⟨b, j, none⟩ = false := by
 refine ⟨?_, ?_, ?_, ?_, fun j => frozen_of_row w b j _ _ h⟩ <;> (rw [cell_of_row w b _ _ _ (0, 0) h]; rfl)
end Go.Proofs.Ytghlgnklnbcppaa

set_option linter.unusedVariables false
set_option linter.unusedSimpArgs false
namespace Go.Proofs.Ytghlgnklnbcppaa
open Go.RowKit
def putDR (ds : List Ds) (y : Ds) (done : Bool) : List Ds := if done then ds else putD ds y
def dsLt (y d : Ds) : Bool := decide (y.core < d.core) || (decide (d.core = y.core) && decide (y.fd < d.fd))
theorem putD_cons (d : Ds) (ds : List Ds) (y : Ds) : putD (d :: ds) y = if dsLt y d = true then y :: d :: ds else d :: putD ds y := by
 show (if y.core < d.core ∨ (d.core = y.core ∧ y.fd < d.fd) then y :: d :: ds else d :: putD ds y) = _
 unfold dsLt
 by_cases h1 : y.core < d.core <;> by_cases h2 : d.core = y.core <;> by_cases h3 : y.fd < d.fd <;> simp [h1, h2, h3]
set_option maxRecDepth 100000 in
set_option maxHeartbeats 8000000 in
theorem grab_any (B p : Nat) (s : St) (core fd num : Int) (w : World) (h : Own B w p s) (hB : B ≤ w.heap.size) (hz : Sized { s with opn := putD s.opn ⟨core, fd, num⟩ }) :
  Calls Try.prog 109 #[.pointer (some ⟨p, 0, .none⟩), .int .i64 core, .int .i64 fd, .int .i64 num] w fun e w' => e = .returned (.tuple #[]) ∧ Own B w' p { s with opn := putD s.opn ⟨core, fd, num⟩ } ∧ Below B w w' ∧ Aside p w w' := by
 obtain ⟨A, n, c, E, m, d, D, k, e, hBp, hp, c0, c1, c2, fz, hst, hI, hD, hM⟩ := h.val
 have hbig := h.sized.big
 have hdl := hD.1
 have hm2 : m ≤ 1099511627776 := by omega
 obtain ⟨RR, hRR⟩ : ∃ RR, putD s.opn ⟨core, fd, num⟩ = RR := ⟨_, rfl⟩
 obtain ⟨Z, hZ, u0, u1, u2, hal, hlt0⟩ := box_ds w core fd num
 obtain ⟨i1, hi1, hq0, hq1, hq2⟩ := info_parts infoDs
 have z1 := (hal.cell (p := ⟨p, 1, .none⟩) hp).trans c1
 have HO := Lib.hid h
 have HZB := Lib.hid hal
 have HC1 := Lib.hid c1
 have HFZ := Lib.hid (fz 1)
 have HRR := Lib.hid hRR
 have HZS := Lib.hid hz
 have HD := Lib.hid (hD.below hal)
 have hpZ : p < Z.heap.size := Nat.lt_of_lt_of_le hp hal.size
 have HZe := Lib.hid hZ
 clear h hst hI hD hM hz hbig hdl hRR hal c0 c1 c2 fz hZ
 go_enter Try.func109, Try.ntmps109
 go_wp2_with fail
 rw [HZe.out]
 go_loopw [9, 10, 11, 12] (fun o b j _ wr => ∃ (q : Nat) (done : Bool) (V : Value) (ds : List Ds), V = o ∧ b = .bool done ∧ j = .int .i64 q ∧ q ≤ m ∧ wr.ownsRow Z.heap.size 51 3 V ds.length (ds.flatMap dsV) ∧ Below Z.heap.size Z wr ∧ ds ++ putDR (s.opn.drop q) ⟨core, fd, num⟩ done = RR ∧ ds.length ≤ 2 * q + 1) (fun _ _ j _ _ => m - (intOf j).toNat)
 case atStart => exact ⟨0, false, _, [], rfl, rfl, rfl, by omega, World.ownsRow_nil _ _ _ _, Below.refl _ _, HRR.out, by simp⟩
 case round =>
  obtain ⟨q, done, V, ds, hV, rfl, rfl, hq, hrow, hbel, hc, hlen⟩ := hrel
  subst hV
  have y1 := (hbel.cell (p := ⟨p, 1, .none⟩) hpZ).trans z1
  have x0 := (hbel.cell (p := ⟨w.heap.size, 0, .none⟩) hlt0).trans u0
  have x1 := (hbel.cell (p := ⟨w.heap.size, 1, .none⟩) hlt0).trans u1
  have x2 := (hbel.cell (p := ⟨w.heap.size, 2, .none⟩) hlt0).trans u2
  have HDr := Lib.hid (HD.out.below hbel)
  have HB := Lib.hid hbel
  obtain ⟨L, hL⟩ : ∃ L, ds.length = L := ⟨_, rfl⟩
  rw [hL] at hrow
  have hll : L ≤ 2199023255553 := by omega
  have hlq : L ≤ 2 * q + 1 := by omega
  have HL := Lib.hid hL
  have HR2 := Lib.hid hrow
  clear hrow hbel hL hlen
  by_cases hlt : q < m
  ·obtain ⟨g2, off2, y, rfl, hg2, hy, hdr, _, e0, e1, e2⟩ := HDr.out.get q hlt
   rw [hdr] at hc
   have k0 : (0 : Int) ≤ (q : Int) := by omega
   have k1 : (q : Int) < (m : Int) := by omega
   obtain ⟨V2, hV2, v0, v1, v2, hal4, hlt4⟩ := box_ds wr y.core y.fd y.num
   have hbv := HB.out.trans (hal4.mono HB.out.size)
   have w0 := (hbv.cell (p := ⟨w.heap.size, 0, .none⟩) hlt0).trans u0
   have w1 := (hbv.cell (p := ⟨w.heap.size, 1, .none⟩) hlt0).trans u1
   have w2 := (hbv.cell (p := ⟨w.heap.size, 2, .none⟩) hlt0).trans u2
   have HB4 := Lib.hid hbv
   have HR4 := Lib.hid (row_below HR2.out hal4)
   obtain ⟨LT, hLT⟩ : ∃ LT, dsLt ⟨core, fd, num⟩ y = LT := ⟨_, rfl⟩
   have HLT := Lib.hid hLT
   clear hdr hy hal4 hbv hLT
   go_upto_region 7 with fail
   clear hV2 x0 x1 x2 e0 e1 e2 y1
   go_cut [52] (fun c wx => c = .bool (!done && LT) ∧ V2 = wx)
   case first =>
    cases done
    ·by_cases a1 : core < y.core
     ·have hb : LT = true := by rw [← HLT.out]; unfold dsLt; simp [a1]
      go_wp2_with fail
      go_meet
      exact ⟨congrArg Value.bool (by rw [hb]; rfl), rfl⟩
     ·have qa : decide (core < y.core) = false := by rw [decide_eq_false_iff_not]; exact a1
      by_cases a2 : y.core = core
      ·have qb : (y.core == core) = true := by rw [a2]; exact beq_self_eq_true _
       have HA2 := Lib.hid a2
       have HA1 := Lib.hid a1
       clear a2 a1
       go_wp2_with fail
       go_meet
       exact ⟨congrArg Value.bool (by rw [← HLT.out]; unfold dsLt; simp [HA2.out]), rfl⟩
      ·have qb : (y.core == core) = false := by rw [beq_eq_false_iff_ne]; exact a2
       have hb : LT = false := by rw [← HLT.out]; unfold dsLt; simp [a2]; omega
       go_wp2_with fail
       go_meet
       exact ⟨congrArg Value.bool (by rw [hb]; rfl), rfl⟩
    ·go_wp2_with fail
     go_meet
     exact ⟨rfl, rfl⟩
   case rest =>
    obtain ⟨rfl, rfl⟩ := hcut
    cases done
    ·have hstep : ds ++ (if dsLt ⟨core, fd, num⟩ y = true then (⟨core, fd, num⟩ : Ds) :: y :: s.opn.drop (q + 1) else y :: putD (s.opn.drop (q + 1)) ⟨core, fd, num⟩) = RR := by rw [← putD_cons]; exact hc
     rw [HLT.out] at hstep
     cases LT
     ·have HC := Lib.hid (show ds ++ (y :: putD (s.opn.drop (q + 1)) ⟨core, fd, num⟩) = RR from hstep)
      clear hc hstep
      go_wp2_with (at_builtin; refine wpList_append_own _ rfl _ _ 23 rfl Z.heap.size 51 i1 (.agg #[.int .i64 0, .int .i64 0, .int .i64 0]) 3 24 Try.underlying23 hi1 hq0 hq1 hq2 rfl (by decide) _ L _ rfl (HR4.out.alloc _) ⟨V2.heap.size, 0, .none⟩ 1 1 [.int .i64 y.core, .int .i64 y.fd, .int .i64 y.num] rfl rfl (new_four V2 [.int .i64 y.core, .int .i64 y.fd, .int .i64 y.num] _) ?ca2 ?ca3 ?ca4 ?ca5 ?_)
      case ca2 => first | (intro u hu; simp at hu; rcases hu with rfl | rfl | rfl <;> rfl) | (simp; done) | exact ⟨rfl, rfl, rfl⟩
      case ca3 => unfold maxLen; omega
      case ca4 => omega
      case ca5 => have := HB4.out.size; first | omega | (simp; omega)
      intro v7 w7 hown hgrow _
      have hbel : Below Z.heap.size Z w7 := (HB4.out.alloc (by have := HB4.out.size; simpa using this) _).grown hgrow (by have := HB4.out.size; simp; omega) (fun k hk => (HR4.out.lt k hk).1)
      obtain ⟨A_v7, c_v7, hv9, _, _, _⟩ := row_any hown (by decide)
      subst hv9
      have HO7 := Lib.hid hown
      have HB7 := Lib.hid hbel
      clear hown hgrow hbel
      go_wp2_with fail
      go_roundw
      case rel => exact ⟨q + 1, false, _, ds ++ [y], rfl, rfl, by go_num, by omega, by rw [List.length_append, HL.out, List.flatMap_append]; exact HO7.out, HB7.out, by rw [List.append_assoc]; exact HC.out, by rw [List.length_append, HL.out]; simp; omega⟩
      case measure => simp [intOf]; omega
     ·have HC := Lib.hid (show ds ++ ((⟨core, fd, num⟩ : Ds) :: y :: s.opn.drop (q + 1)) = RR from hstep)
      clear hc hstep
      go_wp2_with (at_builtin; refine wpList_append_own _ rfl _ _ 23 rfl Z.heap.size 51 i1 (.agg #[.int .i64 0, .int .i64 0, .int .i64 0]) 3 24 Try.underlying23 hi1 hq0 hq1 hq2 rfl (by decide) _ L _ rfl (HR4.out.alloc _) ⟨V2.heap.size, 0, .none⟩ 1 1 [.int .i64 core, .int .i64 fd, .int .i64 num] rfl rfl (new_four V2 [.int .i64 core, .int .i64 fd, .int .i64 num] _) ?ca2 ?ca3 ?ca4 ?ca5 ?_)
      case ca2 => first | (intro u hu; simp at hu; rcases hu with rfl | rfl | rfl <;> rfl) | (simp; done) | exact ⟨rfl, rfl, rfl⟩
      case ca3 => unfold maxLen; omega
      case ca4 => omega
      case ca5 => have := HB4.out.size; first | omega | (simp; omega)
      intro v7 w7 hown hgrow _
      have hbel : Below Z.heap.size Z w7 := (HB4.out.alloc (by have := HB4.out.size; simpa using this) _).grown hgrow (by have := HB4.out.size; simp; omega) (fun k hk => (HR4.out.lt k hk).1)
      obtain ⟨A_v7, c_v7, hv9, _, _, _⟩ := row_any hown (by decide)
      subst hv9
      have HO7 := Lib.hid hown
      have HB7 := Lib.hid hbel
      have hblk : w7.heap[wr.heap.size]? = V2.heap[wr.heap.size]? := by
       rw [hgrow.block _ (by simp; omega) (fun e => by have := (HR2.out.lt _ e.symm).2; omega), Below.heap_alloc _ _ _ hlt4]
      have o0 := (cell_same hblk 0).trans v0
      have o1 := (cell_same hblk 1).trans v1
      have o2 := (cell_same hblk 2).trans v2
      clear hown hgrow hbel hblk w0 w1 w2 v0 v1 v2
      go_wp2_with (at_builtin; refine wpList_append_own _ rfl _ _ 23 rfl Z.heap.size 51 i1 (.agg #[.int .i64 0, .int .i64 0, .int .i64 0]) 3 24 Try.underlying23 hi1 hq0 hq1 hq2 rfl (by decide) _ (L + 1) _ rfl (HO7.out.alloc _) ⟨w7.heap.size, 0, .none⟩ 1 1 [.int .i64 y.core, .int .i64 y.fd, .int .i64 y.num] rfl rfl (new_four w7 [.int .i64 y.core, .int .i64 y.fd, .int .i64 y.num] _) ?ca2 ?ca3 ?ca4 ?ca5 ?_)
      case ca2 => first | (intro u hu; simp at hu; rcases hu with rfl | rfl | rfl <;> rfl) | (simp; done) | exact ⟨rfl, rfl, rfl⟩
      case ca3 => unfold maxLen; omega
      case ca4 => omega
      case ca5 => have := HB7.out.size; first | omega | (simp; omega)
      intro v8 w8 hown hgrow _
      have hbel : Below Z.heap.size Z w8 := (HB7.out.alloc (by have := HB7.out.size; simpa using this) _).grown hgrow (by have := HB7.out.size; simp; omega) (fun k hk => (HO7.out.lt k hk).1)
      obtain ⟨A_v8, c_v8, hv9, _, _, _⟩ := row_any hown (by decide)
      subst hv9
      have HO8 := Lib.hid hown
      have HB8 := Lib.hid hbel
      clear hown hgrow hbel
      go_wp2_with fail
      go_roundw
      case rel => exact ⟨q + 1, true, _, ds ++ [⟨core, fd, num⟩] ++ [y], rfl, rfl, by go_num, by omega, by
       rw [List.length_append, List.length_append, HL.out, List.flatMap_append, List.flatMap_append, List.append_assoc]
       exact HO8.out, HB8.out, by rw [List.append_assoc, List.append_assoc]; exact HC.out, by rw [List.length_append, List.length_append, HL.out]; simp; omega⟩
      case measure => simp [intOf]; omega
    ·have HC := Lib.hid (show ds ++ (y :: s.opn.drop (q + 1)) = RR from hc)
     simp only [Bool.not_true, Bool.false_and]
     clear hc
     go_wp2_with (at_builtin; refine wpList_append_own _ rfl _ _ 23 rfl Z.heap.size 51 i1 (.agg #[.int .i64 0, .int .i64 0, .int .i64 0]) 3 24 Try.underlying23 hi1 hq0 hq1 hq2 rfl (by decide) _ L _ rfl (HR4.out.alloc _) ⟨V2.heap.size, 0, .none⟩ 1 1 [.int .i64 y.core, .int .i64 y.fd, .int .i64 y.num] rfl rfl (new_four V2 [.int .i64 y.core, .int .i64 y.fd, .int .i64 y.num] _) ?ca2 ?ca3 ?ca4 ?ca5 ?_)
     case ca2 => first | (intro u hu; simp at hu; rcases hu with rfl | rfl | rfl <;> rfl) | (simp; done) | exact ⟨rfl, rfl, rfl⟩
     case ca3 => unfold maxLen; omega
     case ca4 => omega
     case ca5 => have := HB4.out.size; first | omega | (simp; omega)
     intro v7 w7 hown hgrow _
     have hbel : Below Z.heap.size Z w7 := (HB4.out.alloc (by have := HB4.out.size; simpa using this) _).grown hgrow (by have := HB4.out.size; simp; omega) (fun k hk => (HR4.out.lt k hk).1)
     obtain ⟨A_v7, c_v7, hv9, _, _, _⟩ := row_any hown (by decide)
     subst hv9
     have HO7 := Lib.hid hown
     have HB7 := Lib.hid hbel
     clear hown hgrow hbel
     go_wp2_with fail
     go_roundw
     case rel => exact ⟨q + 1, true, _, ds ++ [y], rfl, rfl, by go_num, by omega, by rw [List.length_append, HL.out, List.flatMap_append]; exact HO7.out, HB7.out, by rw [List.append_assoc]; exact HC.out, by rw [List.length_append, HL.out]; simp; omega⟩
     case measure => simp [intOf]; omega
  ·have hnil : s.opn.drop q = [] := List.drop_eq_nil_of_le (by have := HD.out.1; omega)
   rw [hnil] at hc
   cases done
   ·have HC := Lib.hid (show ds ++ [(⟨core, fd, num⟩ : Ds)] = RR from hc)
    clear hc hnil
    go_wp2_with (at_builtin; refine wpList_append_own _ rfl _ _ 23 rfl Z.heap.size 51 i1 (.agg #[.int .i64 0, .int .i64 0, .int .i64 0]) 3 24 Try.underlying23 hi1 hq0 hq1 hq2 rfl (by decide) _ L _ rfl (HR2.out.alloc _) ⟨wr.heap.size, 0, .none⟩ 1 1 [.int .i64 core, .int .i64 fd, .int .i64 num] rfl rfl (new_four wr [.int .i64 core, .int .i64 fd, .int .i64 num] _) ?ca2 ?ca3 ?ca4 ?ca5 ?_)
    case ca2 => first | (intro u hu; simp at hu; rcases hu with rfl | rfl | rfl <;> rfl) | (simp; done) | exact ⟨rfl, rfl, rfl⟩
    case ca3 => unfold maxLen; omega
    case ca4 => omega
    case ca5 => have := HB.out.size; first | omega | (simp; omega)
    intro v7 w7 hown hgrow _
    have hbel : Below Z.heap.size Z w7 := (HB.out.alloc (by have := HB.out.size; simpa using this) _).grown hgrow (by have := HB.out.size; simp; omega) (fun k hk => (HR2.out.lt k hk).1)
    obtain ⟨A_v7, c_v7, hv9, _, _, _⟩ := row_any hown (by decide)
    subst hv9
    have HO7 := Lib.hid hown
    have HB7 := Lib.hid hbel
    clear hown hgrow hbel
    obtain ⟨AV, cV, hv, hcV, hnV, hDV⟩ := DescsAt.of_row (B := Z.heap.size) (n := (L + 1)) (ds := (ds ++ [⟨core, fd, num⟩])) (w := w7) (v := (.slice A_v7 (L + 1) c_v7)) (by rw [List.flatMap_append]; exact HO7.out)
    injection hv with e1 e2 e3
    subst e1 e3
    rw [HC.out] at hDV
    have hbw := Cv.next HZB.out HB7.out
    have pf := (hbw.frozen (p := ⟨p, 1, .none⟩) hp).trans HFZ.out
    have pp := (hbw.cell (p := ⟨p, 1, .none⟩) hp).trans HC1.out
    have hown7 := (HO.out.below hbw).setOpn (ds := RR) (hDV.mono (by have := HZB.out.size; omega)) ⟨hcV, fun e => (hnV e).2⟩ (by rw [← HRR.out]; exact HZS.out)
    obtain ⟨_, _, _, _, _, _, _, _, _, _, hpb, _⟩ := (HO.out.below hbw).at_
    have HOWN := Lib.hid hown7
    have HBF : Hid (Below B w (World.setCell w7 ⟨p, 1, .none⟩ (.slice A_v7 (L + 1) c_v7))) := Lib.hid ((hbw.mono hB).setCell (by exact hBp) _)
    have HAS : Hid (Aside p w (World.setCell w7 ⟨p, 1, .none⟩ (.slice A_v7 (L + 1) c_v7))) := Lib.hid ((Aside.below hbw).trans (Aside.set hpb (.inr (.inr rfl))))
    clear hcV hnV hDV hbw hown7 hpb
    go_wp2_with fail
    go_returns
    rw [HRR.out]
    exact ⟨rfl, HOWN.out, HBF.out, HAS.out⟩
   ·have HC := Lib.hid (show ds ++ [] = RR from hc)
    clear hc hnil
    obtain ⟨AV, cV, hv, hcV, hnV, hDV⟩ := DescsAt.of_row (B := Z.heap.size) (n := L) (ds := ds) (w := wr) (v := V) (by exact HR2.out)
    subst hv
    rw [show ds = RR by rw [← HC.out, List.append_nil]] at hDV
    have hbw := Cv.next HZB.out HB.out
    have pf := (hbw.frozen (p := ⟨p, 1, .none⟩) hp).trans HFZ.out
    have pp := (hbw.cell (p := ⟨p, 1, .none⟩) hp).trans HC1.out
    have hown7 := (HO.out.below hbw).setOpn (ds := RR) (hDV.mono (by have := HZB.out.size; omega)) ⟨hcV, fun e => (hnV e).2⟩ (by rw [← HRR.out]; exact HZS.out)
    obtain ⟨_, _, _, _, _, _, _, _, _, _, hpb, _⟩ := (HO.out.below hbw).at_
    have HOWN := Lib.hid hown7
    have HBF : Hid (Below B w (World.setCell wr ⟨p, 1, .none⟩ (.slice AV L cV))) := Lib.hid ((hbw.mono hB).setCell (by exact hBp) _)
    have HAS : Hid (Aside p w (World.setCell wr ⟨p, 1, .none⟩ (.slice AV L cV))) := Lib.hid ((Aside.below hbw).trans (Aside.set hpb (.inr (.inr rfl))))
    clear hcV hnV hDV hbw hown7 hpb
    go_wp2_with fail
    go_returns
    rw [HRR.out]
    exact ⟨rfl, HOWN.out, HBF.out, HAS.out⟩
end Go.Proofs.Ytghlgnklnbcppaa
