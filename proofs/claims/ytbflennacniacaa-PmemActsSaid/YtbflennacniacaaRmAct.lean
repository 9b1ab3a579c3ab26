/- concourselaw1.act: one act on both memories answers true. -/
import Derived.Test.YtbflennacniacaaRmOk
import Derived.Deep.RegionHeld3
import Derived.BigQuiet
import Derived.Deep.QuietTactic
namespace Go.Proofs.Ytbflennacniacaa
open Go.RowKit
set_option linter.unusedVariables false
def actV (k p v : Int) : Value := .agg #[.int .i64 k, .int .i64 p, .int .i64 v]
set_option maxRecDepth 100000 in
set_option maxHeartbeats 4000000 in
theorem act_store (F : PF) (G : RF) (M : PM) (R : RM) (k p v : Int) (K : Nat) (w : World) (hm : Mem w F M) (hr : RMem w G R) (hrel : Rel M R) (hmo : M.ok K) (hro : R.ok K) (hK : K ≤ 1000000) (hap : ∀ i, F.has i → ¬ G.has i) (hv : wf64 v) (hk : k < 4) :
    Calls Try.prog 30 #[.pointer (some ⟨F.a, 0, .none⟩), .pointer (some ⟨G.a, 0, .none⟩), actV k p v] w fun e w' => e = .returned (.bool true) ∧ ∃ F' G', Mem w' F' (M.act k p v) ∧ RMem w' G' (R.act k p v) ∧ Two F G F' G' w w' := by
  have hnn := hrel.data.n
  have ea : M.act k p v = M.store p (IntKind.u64.wrap v) := by unfold PM.act; rw [if_pos hk]
  have eb : R.act k p v = R.store p (IntKind.u64.wrap v) := by unfold RM.act; rw [if_pos hk]
  rw [ea, eb]
  unfold actV
  have q1 : decide (k < 4) = true := by simpa using hk
  obtain ⟨w1, hw1⟩ : ∃ w1, w.alloc (.cells #[.int .i64 k, .int .i64 p, .int .i64 v] 48) = w1 := ⟨_, rfl⟩
  obtain ⟨b, hb⟩ : ∃ b, w.heap.size = b := ⟨_, rfl⟩
  have hblk : w1.heap[b]? = some (.cells #[.int .i64 k, .int .i64 p, .int .i64 v] 48 (0, 0)) := by rw [← hw1, ← hb]; exact heap_alloc_new w _
  have hbw : Below w.heap.size w w1 := by rw [← hw1]; exact (Below.refl _ _).alloc (Nat.le_refl _) _
  have k0 := cell_of_row w1 b 0 _ _ (0, 0) hblk
  have k1 := cell_of_row w1 b 1 _ _ (0, 0) hblk
  have k2 := cell_of_row w1 b 2 _ _ (0, 0) hblk
  simp only [List.getElem?_toArray] at k0 k1 k2
  change w1.cell? _ = some (.int .i64 k) at k0
  change w1.cell? _ = some (.int .i64 p) at k1
  change w1.cell? _ = some (.int .i64 v) at k2
  have hm1 := hm.below hbw
  have hr1 := hr.below hbw
  have hin := hm.in_heap
  have hig := hr.in_heap
  have hnb : ¬ F.has b := fun h => by have := hin b h; omega
  have hng : ¬ G.has b := fun h => by have := hig b h; omega
  have hbs : b < w1.heap.size := (Array.getElem?_eq_some_iff.1 hblk).1
  have HM := Lib.hid hm1
  have HR := Lib.hid hr1
  have HIN := Lib.hid hin
  have HIG := Lib.hid hig
  have HNB := Lib.hid hnb
  have HNG := Lib.hid hng
  have HBW := Lib.hid hbw
  have HAP := Lib.hid hap
  have HBS := Lib.hid hbs
  have HMO := Lib.hid hmo
  have HRO := Lib.hid hro
  have HNN := Lib.hid hnn
  have HREL := Lib.hid hrel
  clear hm hr hm1 hr1 hin hig hnb hng hbw hap hbs hmo hro hblk hrel ea eb hnn
  go_enter Try.func30, Try.ntmps30
  go_wp2_with fail
  clear hw1
  refine (store_any F M p (IntKind.u64.wrap v) w1 HM.out (by have := HMO.out.steps; omega) (by have := HMO.out.stores; omega) HMO.out.fuse).mono ?_
  rintro e w2 ⟨rfl, F', hm2, hop⟩
  have k0' := hop.2.2.cell k0 HNB.out
  have k1' := hop.2.2.cell k1 HNB.out
  have k2' := hop.2.2.cell k2 HNB.out
  have hr2 := HR.out.aside hop HAP.out
  have HM2 := Lib.hid hm2
  have HOP := Lib.hid hop
  have HR2 := Lib.hid hr2
  clear hm2 hop hr2 k0 k1 k2
  go_wp2_with fail
  go_region_held3 (fun w' => w'.cell? ⟨b, 1, none⟩ = some (.int .i64 p) ∧ w'.cell? ⟨b, 2, none⟩ = some (.int .i64 v))
    (first | go_keep | (refine ⟨?_, ?_⟩ <;> go_keep) | (refine ⟨HOR.out.2.2.cell k1' HNG.out, HOR.out.2.2.cell k2' HNG.out⟩))
    (first
      | (go_at_call 22; refine (num1_any _ _).mono ?_; rintro e3 w3 ⟨rfl, rfl⟩)
      | (go_at_call 50; refine (rstore_any G R p (IntKind.u64.wrap v) _ _ (by exact HR2.out.same fun _ _ => rfl) (by have := HRO.out.steps; omega) (by have := HRO.out.many; omega) HRO.out.left (by rw [HNN.out])).mono ?_; rintro e4 w4 ⟨rfl, G', hr4, hor⟩; have HOR := Lib.hid hor; have HR4 := Lib.hid hr4; clear hor hr4))
  all_goals (
    try go_wp2_with fail
    go_ret
    refine ⟨by simp, F', G', HM2.out.drew.aside HOR.out ?_, HR4.out, two_of HIN.out HIG.out HAP.out HBW.out HOP.out (Cv.drewN_below (Below.refl _ _) 1) HOR.out HM2.out.in_heap⟩
    intro i hi hg
    rcases HOP.out.2.1 i hi with h | h
    · exact HAP.out i h hg
    · have := HIG.out i hg
      have := HBW.out.size
      omega)
set_option maxRecDepth 100000 in
set_option maxHeartbeats 4000000 in
theorem act_flush (F : PF) (G : RF) (M : PM) (R : RM) (k p v : Int) (K : Nat) (w : World) (hm : Mem w F M) (hr : RMem w G R) (hrel : Rel M R) (hmo : M.ok K) (hro : R.ok K) (hK : K ≤ 1000000) (hap : ∀ i, F.has i → ¬ G.has i) (hv : wf64 v) (hk : ¬ k < 4) (hk2 : k < 6) :
    Calls Try.prog 30 #[.pointer (some ⟨F.a, 0, .none⟩), .pointer (some ⟨G.a, 0, .none⟩), actV k p v] w fun e w' => e = .returned (.bool true) ∧ ∃ F' G', Mem w' F' (M.act k p v) ∧ RMem w' G' (R.act k p v) ∧ Two F G F' G' w w' := by
  have hnn := hrel.data.n
  have ea : M.act k p v = M.flush p := by unfold PM.act; rw [if_neg hk, if_pos hk2]
  have eb : R.act k p v = R.flush p := by unfold RM.act; rw [if_neg hk, if_pos hk2]
  rw [ea, eb]
  unfold actV
  have q1 : decide (k < 4) = false := by simp; omega
  have q2 : decide (k < 6) = true := by simpa using hk2
  obtain ⟨w1, hw1⟩ : ∃ w1, w.alloc (.cells #[.int .i64 k, .int .i64 p, .int .i64 v] 48) = w1 := ⟨_, rfl⟩
  obtain ⟨b, hb⟩ : ∃ b, w.heap.size = b := ⟨_, rfl⟩
  have hblk : w1.heap[b]? = some (.cells #[.int .i64 k, .int .i64 p, .int .i64 v] 48 (0, 0)) := by rw [← hw1, ← hb]; exact heap_alloc_new w _
  have hbw : Below w.heap.size w w1 := by rw [← hw1]; exact (Below.refl _ _).alloc (Nat.le_refl _) _
  have k0 := cell_of_row w1 b 0 _ _ (0, 0) hblk
  have k1 := cell_of_row w1 b 1 _ _ (0, 0) hblk
  have k2 := cell_of_row w1 b 2 _ _ (0, 0) hblk
  simp only [List.getElem?_toArray] at k0 k1 k2
  change w1.cell? _ = some (.int .i64 k) at k0
  change w1.cell? _ = some (.int .i64 p) at k1
  change w1.cell? _ = some (.int .i64 v) at k2
  have hm1 := hm.below hbw
  have hr1 := hr.below hbw
  have hin := hm.in_heap
  have hig := hr.in_heap
  have hnb : ¬ F.has b := fun h => by have := hin b h; omega
  have hng : ¬ G.has b := fun h => by have := hig b h; omega
  have hbs : b < w1.heap.size := (Array.getElem?_eq_some_iff.1 hblk).1
  have HM := Lib.hid hm1
  have HR := Lib.hid hr1
  have HIN := Lib.hid hin
  have HIG := Lib.hid hig
  have HNB := Lib.hid hnb
  have HNG := Lib.hid hng
  have HBW := Lib.hid hbw
  have HAP := Lib.hid hap
  have HBS := Lib.hid hbs
  have HMO := Lib.hid hmo
  have HRO := Lib.hid hro
  have HNN := Lib.hid hnn
  have HREL := Lib.hid hrel
  clear hm hr hm1 hr1 hin hig hnb hng hbw hap hbs hmo hro hblk hrel ea eb hnn
  go_enter Try.func30, Try.ntmps30
  go_wp2_with fail
  clear hw1
  refine (flush_any F M p w1 HM.out (by have := HMO.out.steps; omega) (by have := HMO.out.cnt; omega) HMO.out.fuse).mono ?_
  rintro e w2 ⟨rfl, F', hm2, hop⟩
  have k0' := hop.2.2.cell k0 HNB.out
  have k1' := hop.2.2.cell k1 HNB.out
  have k2' := hop.2.2.cell k2 HNB.out
  have hr2 := HR.out.aside hop HAP.out
  have HM2 := Lib.hid hm2
  have HOP := Lib.hid hop
  have HR2 := Lib.hid hr2
  clear hm2 hop hr2 k0 k1 k2
  go_wp2_with fail
  go_region_held3 (fun w' => w'.cell? ⟨b, 1, none⟩ = some (.int .i64 p) ∧ w'.cell? ⟨b, 2, none⟩ = some (.int .i64 v))
    (first | go_keep | (refine ⟨?_, ?_⟩ <;> go_keep) | (refine ⟨HOR.out.2.2.cell k1' HNG.out, HOR.out.2.2.cell k2' HNG.out⟩))
    (first
      | (go_at_call 22; refine (num1_any _ _).mono ?_; rintro e3 w3 ⟨rfl, rfl⟩)
      | (go_at_call 51; refine (rflush_any G R p _ _ (by exact HR2.out.same fun _ _ => rfl) (by have := HRO.out.steps; omega) HRO.out.left (by rw [HNN.out])).mono ?_; rintro e4 w4 ⟨rfl, G', hr4, hor⟩; have HOR := Lib.hid hor; have HR4 := Lib.hid hr4; clear hor hr4))
  all_goals (
    try go_wp2_with fail
    go_ret
    refine ⟨by simp, F', G', HM2.out.drew.aside HOR.out ?_, HR4.out, two_of HIN.out HIG.out HAP.out HBW.out HOP.out (Cv.drewN_below (Below.refl _ _) 1) HOR.out HM2.out.in_heap⟩
    intro i hi hg
    rcases HOP.out.2.1 i hi with h | h
    · exact HAP.out i h hg
    · have := HIG.out i hg
      have := HBW.out.size
      omega)
set_option maxRecDepth 100000 in
set_option maxHeartbeats 4000000 in
theorem act_fence (F : PF) (G : RF) (M : PM) (R : RM) (k p v : Int) (K : Nat) (w : World) (hm : Mem w F M) (hr : RMem w G R) (hrel : Rel M R) (hmo : M.ok K) (hro : R.ok K) (hK : K ≤ 1000000) (hap : ∀ i, F.has i → ¬ G.has i) (hv : wf64 v) (hk2 : k = 6) :
    Calls Try.prog 30 #[.pointer (some ⟨F.a, 0, .none⟩), .pointer (some ⟨G.a, 0, .none⟩), actV k p v] w fun e w' => e = .returned (.bool true) ∧ ∃ F' G', Mem w' F' (M.act k p v) ∧ RMem w' G' (R.act k p v) ∧ Two F G F' G' w w' := by
  have hnn := hrel.data.n
  have ea : M.act k p v = M.fence := by unfold PM.act; rw [if_neg (by omega), if_neg (by omega), if_pos hk2]
  have eb : R.act k p v = R.fence := by unfold RM.act; rw [if_neg (by omega), if_neg (by omega), if_pos hk2]
  rw [ea, eb]
  unfold actV
  have q1 : decide (k < 4) = false := by simp; omega
  have q2 : decide (k < 6) = false := by simp; omega
  have qe6 : (k == 6) = true := by simp; omega
  clear hk2
  obtain ⟨w1, hw1⟩ : ∃ w1, w.alloc (.cells #[.int .i64 k, .int .i64 p, .int .i64 v] 48) = w1 := ⟨_, rfl⟩
  obtain ⟨b, hb⟩ : ∃ b, w.heap.size = b := ⟨_, rfl⟩
  have hblk : w1.heap[b]? = some (.cells #[.int .i64 k, .int .i64 p, .int .i64 v] 48 (0, 0)) := by rw [← hw1, ← hb]; exact heap_alloc_new w _
  have hbw : Below w.heap.size w w1 := by rw [← hw1]; exact (Below.refl _ _).alloc (Nat.le_refl _) _
  have k0 := cell_of_row w1 b 0 _ _ (0, 0) hblk
  have k1 := cell_of_row w1 b 1 _ _ (0, 0) hblk
  have k2 := cell_of_row w1 b 2 _ _ (0, 0) hblk
  simp only [List.getElem?_toArray] at k0 k1 k2
  change w1.cell? _ = some (.int .i64 k) at k0
  change w1.cell? _ = some (.int .i64 p) at k1
  change w1.cell? _ = some (.int .i64 v) at k2
  have hm1 := hm.below hbw
  have hr1 := hr.below hbw
  have hin := hm.in_heap
  have hig := hr.in_heap
  have hnb : ¬ F.has b := fun h => by have := hin b h; omega
  have hng : ¬ G.has b := fun h => by have := hig b h; omega
  have hbs : b < w1.heap.size := (Array.getElem?_eq_some_iff.1 hblk).1
  have HM := Lib.hid hm1
  have HR := Lib.hid hr1
  have HIN := Lib.hid hin
  have HIG := Lib.hid hig
  have HNB := Lib.hid hnb
  have HNG := Lib.hid hng
  have HBW := Lib.hid hbw
  have HAP := Lib.hid hap
  have HBS := Lib.hid hbs
  have HMO := Lib.hid hmo
  have HRO := Lib.hid hro
  have HNN := Lib.hid hnn
  have HREL := Lib.hid hrel
  clear hm hr hm1 hr1 hin hig hnb hng hbw hap hbs hmo hro hblk hrel ea eb hnn
  go_enter Try.func30, Try.ntmps30
  go_wp2_with fail
  clear hw1
  refine (fence_any F M w1 HM.out (by have := HMO.out.steps; omega) (by have := HMO.out.cnt; omega) HMO.out.fuse).mono ?_
  rintro e w2 ⟨rfl, F', hm2, hop⟩
  have k0' := hop.2.2.cell k0 HNB.out
  have k1' := hop.2.2.cell k1 HNB.out
  have k2' := hop.2.2.cell k2 HNB.out
  have hr2 := HR.out.aside hop HAP.out
  have HM2 := Lib.hid hm2
  have HOP := Lib.hid hop
  have HR2 := Lib.hid hr2
  clear hm2 hop hr2 k0 k1 k2
  go_wp2_with fail
  refine (num1_any _ _).mono ?_
  rintro e3 w3 ⟨rfl, rfl⟩
  go_wp2_with fail
  refine (rfence_any G R _ HR2.out (by have := HRO.out.steps; omega) HRO.out.left).mono ?_
  rintro e4 w4 ⟨rfl, G', hr4, hor⟩
  have HOR := Lib.hid hor
  have HR4 := Lib.hid hr4
  clear hor hr4
  go_wp2_with fail
  go_ret
  refine ⟨by simp, F', G', HM2.out.aside HOR.out ?_, HR4.out, two_of HIN.out HIG.out HAP.out HBW.out HOP.out (Below.refl _ _) HOR.out HM2.out.in_heap⟩
  intro i hi hg
  rcases HOP.out.2.1 i hi with h | h
  · exact HAP.out i h hg
  · have := HIG.out i hg
    have := HBW.out.size
    omega
set_option maxRecDepth 100000 in
set_option maxHeartbeats 4000000 in
theorem act_fuse (F : PF) (G : RF) (M : PM) (R : RM) (k p v : Int) (K : Nat) (w : World) (hm : Mem w F M) (hr : RMem w G R) (hrel : Rel M R) (hmo : M.ok K) (hro : R.ok K) (hK : K ≤ 1000000) (hap : ∀ i, F.has i → ¬ G.has i) (hv : wf64 v) (hk2 : k = 7) :
    Calls Try.prog 30 #[.pointer (some ⟨F.a, 0, .none⟩), .pointer (some ⟨G.a, 0, .none⟩), actV k p v] w fun e w' => e = .returned (.bool true) ∧ ∃ F' G', Mem w' F' (M.act k p v) ∧ RMem w' G' (R.act k p v) ∧ Two F G F' G' w w' := by
  have hnn := hrel.data.n
  have ea : M.act k p v = M.fused v := by unfold PM.act; rw [if_neg (by omega), if_neg (by omega), if_neg (by omega), if_pos hk2]
  have eb : R.act k p v = R.fused v := by unfold RM.act; rw [if_neg (by omega), if_neg (by omega), if_neg (by omega), if_pos hk2]
  rw [ea, eb]
  unfold actV
  have q1 : decide (k < 4) = false := by simp; omega
  have q2 : decide (k < 6) = false := by simp; omega
  have qe6 : (k == 6) = false := by simp; omega
  have qe7 : (k == 7) = true := by simp; omega
  clear hk2
  obtain ⟨w1, hw1⟩ : ∃ w1, w.alloc (.cells #[.int .i64 k, .int .i64 p, .int .i64 v] 48) = w1 := ⟨_, rfl⟩
  obtain ⟨b, hb⟩ : ∃ b, w.heap.size = b := ⟨_, rfl⟩
  have hblk : w1.heap[b]? = some (.cells #[.int .i64 k, .int .i64 p, .int .i64 v] 48 (0, 0)) := by rw [← hw1, ← hb]; exact heap_alloc_new w _
  have hbw : Below w.heap.size w w1 := by rw [← hw1]; exact (Below.refl _ _).alloc (Nat.le_refl _) _
  have k0 := cell_of_row w1 b 0 _ _ (0, 0) hblk
  have k1 := cell_of_row w1 b 1 _ _ (0, 0) hblk
  have k2 := cell_of_row w1 b 2 _ _ (0, 0) hblk
  simp only [List.getElem?_toArray] at k0 k1 k2
  change w1.cell? _ = some (.int .i64 k) at k0
  change w1.cell? _ = some (.int .i64 p) at k1
  change w1.cell? _ = some (.int .i64 v) at k2
  have hm1 := hm.below hbw
  have hr1 := hr.below hbw
  have hin := hm.in_heap
  have hig := hr.in_heap
  have hnb : ¬ F.has b := fun h => by have := hin b h; omega
  have hng : ¬ G.has b := fun h => by have := hig b h; omega
  have hbs : b < w1.heap.size := (Array.getElem?_eq_some_iff.1 hblk).1
  have HM := Lib.hid hm1
  have HR := Lib.hid hr1
  have HIN := Lib.hid hin
  have HIG := Lib.hid hig
  have HNB := Lib.hid hnb
  have HNG := Lib.hid hng
  have HBW := Lib.hid hbw
  have HAP := Lib.hid hap
  have HBS := Lib.hid hbs
  have HMO := Lib.hid hmo
  have HRO := Lib.hid hro
  have HNN := Lib.hid hnn
  have HREL := Lib.hid hrel
  clear hm hr hm1 hr1 hin hig hnb hng hbw hap hbs hmo hro hblk hrel ea eb hnn
  go_enter Try.func30, Try.ntmps30
  go_wp2_with fail
  clear hw1
  refine (fuse_any F M v w1 HM.out).mono ?_
  rintro e w2 ⟨rfl, F', hm2, hop⟩
  have k0' := hop.2.2.cell k0 HNB.out
  have k1' := hop.2.2.cell k1 HNB.out
  have k2' := hop.2.2.cell k2 HNB.out
  have hr2 := HR.out.aside hop HAP.out
  have HM2 := Lib.hid hm2
  have HOP := Lib.hid hop
  have HR2 := Lib.hid hr2
  clear hm2 hop hr2 k0 k1 k2
  go_wp2_with fail
  go_region_held3 (fun w' => w'.cell? ⟨b, 1, none⟩ = some (.int .i64 p) ∧ w'.cell? ⟨b, 2, none⟩ = some (.int .i64 v))
    (first | go_keep | (refine ⟨?_, ?_⟩ <;> go_keep) | (refine ⟨HOR.out.2.2.cell k1' HNG.out, HOR.out.2.2.cell k2' HNG.out⟩))
    (first
      | (go_at_call 22; refine (num1_any _ _).mono ?_; rintro e3 w3 ⟨rfl, rfl⟩)
      | (go_at_call 53; refine (rfuse_any G R v _ _ (by exact HR2.out.same fun _ _ => rfl) rfl).mono ?_; rintro e4 w4 ⟨rfl, G', hr4, hor⟩; have HOR := Lib.hid hor; have HR4 := Lib.hid hr4; clear hor hr4))
  all_goals (
    try go_wp2_with fail
    go_ret
    refine ⟨by simp, F', G', HM2.out.drew.aside HOR.out ?_, HR4.out, two_of HIN.out HIG.out HAP.out HBW.out HOP.out (Cv.drewN_below (Below.refl _ _) 1) HOR.out HM2.out.in_heap⟩
    intro i hi hg
    rcases HOP.out.2.1 i hi with h | h
    · exact HAP.out i h hg
    · have := HIG.out i hg
      have := HBW.out.size
      omega)
set_option maxRecDepth 100000 in
set_option maxHeartbeats 4000000 in
theorem act_crash (F : PF) (G : RF) (M : PM) (R : RM) (k p v : Int) (K : Nat) (w : World) (hm : Mem w F M) (hr : RMem w G R) (hrel : Rel M R) (hmo : M.ok K) (hro : R.ok K) (hK : K ≤ 1000000) (hap : ∀ i, F.has i → ¬ G.has i) (hv : wf64 v) (hk2 : k = 8) :
    Calls Try.prog 30 #[.pointer (some ⟨F.a, 0, .none⟩), .pointer (some ⟨G.a, 0, .none⟩), actV k p v] w fun e w' => e = .returned (.bool true) ∧ ∃ F' G', Mem w' F' (M.act k p v) ∧ RMem w' G' (R.act k p v) ∧ Two F G F' G' w w' := by
  have hnn := hrel.data.n
  have ea : M.act k p v = M.crash v := by unfold PM.act; rw [if_neg (by omega), if_neg (by omega), if_neg (by omega), if_neg (by omega), if_pos hk2]
  have eb : R.act k p v = R.crash v := by unfold RM.act; rw [if_neg (by omega), if_neg (by omega), if_neg (by omega), if_neg (by omega), if_pos hk2]
  rw [ea, eb]
  unfold actV
  have q1 : decide (k < 4) = false := by simp; omega
  have q2 : decide (k < 6) = false := by simp; omega
  have qe6 : (k == 6) = false := by simp; omega
  have qe7 : (k == 7) = false := by simp; omega
  have qe8 : (k == 8) = true := by simp; omega
  clear hk2
  obtain ⟨w1, hw1⟩ : ∃ w1, w.alloc (.cells #[.int .i64 k, .int .i64 p, .int .i64 v] 48) = w1 := ⟨_, rfl⟩
  obtain ⟨b, hb⟩ : ∃ b, w.heap.size = b := ⟨_, rfl⟩
  have hblk : w1.heap[b]? = some (.cells #[.int .i64 k, .int .i64 p, .int .i64 v] 48 (0, 0)) := by rw [← hw1, ← hb]; exact heap_alloc_new w _
  have hbw : Below w.heap.size w w1 := by rw [← hw1]; exact (Below.refl _ _).alloc (Nat.le_refl _) _
  have k0 := cell_of_row w1 b 0 _ _ (0, 0) hblk
  have k1 := cell_of_row w1 b 1 _ _ (0, 0) hblk
  have k2 := cell_of_row w1 b 2 _ _ (0, 0) hblk
  simp only [List.getElem?_toArray] at k0 k1 k2
  change w1.cell? _ = some (.int .i64 k) at k0
  change w1.cell? _ = some (.int .i64 p) at k1
  change w1.cell? _ = some (.int .i64 v) at k2
  have hm1 := hm.below hbw
  have hr1 := hr.below hbw
  have hin := hm.in_heap
  have hig := hr.in_heap
  have hnb : ¬ F.has b := fun h => by have := hin b h; omega
  have hng : ¬ G.has b := fun h => by have := hig b h; omega
  have hbs : b < w1.heap.size := (Array.getElem?_eq_some_iff.1 hblk).1
  have HM := Lib.hid hm1
  have HR := Lib.hid hr1
  have HIN := Lib.hid hin
  have HIG := Lib.hid hig
  have HNB := Lib.hid hnb
  have HNG := Lib.hid hng
  have HBW := Lib.hid hbw
  have HAP := Lib.hid hap
  have HBS := Lib.hid hbs
  have HMO := Lib.hid hmo
  have HRO := Lib.hid hro
  have HNN := Lib.hid hnn
  have HREL := Lib.hid hrel
  clear hm hr hm1 hr1 hin hig hnb hng hbw hap hbs hmo hro hblk hrel ea eb hnn
  go_enter Try.func30, Try.ntmps30
  go_wp2_with fail
  clear hw1
  refine (crash_any F M v w1 HM.out).mono ?_
  rintro e w2 ⟨rfl, F', hm2, hop⟩
  have k0' := hop.2.2.cell k0 HNB.out
  have k1' := hop.2.2.cell k1 HNB.out
  have k2' := hop.2.2.cell k2 HNB.out
  have hr2 := HR.out.aside hop HAP.out
  have HM2 := Lib.hid hm2
  have HOP := Lib.hid hop
  have HR2 := Lib.hid hr2
  clear hm2 hop hr2 k0 k1 k2
  go_wp2_with fail
  go_region_held3 (fun w' => w'.cell? ⟨b, 1, none⟩ = some (.int .i64 p) ∧ w'.cell? ⟨b, 2, none⟩ = some (.int .i64 v))
    (first | go_keep | (refine ⟨?_, ?_⟩ <;> go_keep) | (refine ⟨HOR.out.2.2.cell k1' HNG.out, HOR.out.2.2.cell k2' HNG.out⟩))
    (first
      | (go_at_call 22; refine (num1_any _ _).mono ?_; rintro e3 w3 ⟨rfl, rfl⟩)
      | (go_at_call 31; refine (rcrash_any G R v _ (by exact HR2.out.same fun _ _ => rfl)).mono ?_; rintro e4 w4 ⟨rfl, G', hr4, hor⟩; have HOR := Lib.hid hor; have HR4 := Lib.hid hr4; clear hor hr4))
  all_goals (
    try go_wp2_with fail
    go_ret
    refine ⟨by simp, F', G', HM2.out.drew.aside HOR.out ?_, HR4.out, two_of HIN.out HIG.out HAP.out HBW.out HOP.out (Cv.drewN_below (Below.refl _ _) 1) HOR.out HM2.out.in_heap⟩
    intro i hi hg
    rcases HOP.out.2.1 i hi with h | h
    · exact HAP.out i h hg
    · have := HIG.out i hg
      have := HBW.out.size
      omega)
end Go.Proofs.Ytbflennacniacaa
