/- Parts of the proof, side by side: MoIsOpen, MoMay, PlainSum. -/
import Derived.Test.YtghlgnklnbcppaaM20
import Derived.Test.YtghlgnklnbcppaaM24
import Derived.Test.YtghlgnklnbcppaaMoReached
set_option linter.unusedVariables false
set_option linter.unusedSimpArgs false
/- The model's open: is an inode open? -/
namespace Go.Proofs.Ytghlgnklnbcppaa
open Go.RowKit
set_option linter.unusedVariables false
set_option linter.unusedSimpArgs false
theorem open1_any (a b num k : Int) (bx : Nat) (w : World) (hb : w.cell? ⟨bx, 0, .none⟩ = some (.int .i64 num)) (hlt : bx < w.heap.size) :
    Calls Try.prog 91 #[.agg #[.int .i64 a, .int .i64 b, .int .i64 k], .pointer (some ⟨bx, 0, .none⟩)] w fun e w' => e = .returned (.bool (k == num)) ∧ Below w.heap.size w w' := by
  obtain ⟨V2, hV2, v0, v1, v2, hal4, hlt4⟩ := box_ds w a b k
  have z := (hal4.cell (p := ⟨bx, 0, .none⟩) hlt).trans hb
  have HAL := Lib.hid hal4
  clear hal4
  go_enter Try.func91, Try.ntmps91
  go_wp2_with fail
  go_ret
  exact ⟨rfl, HAL.out⟩
set_option maxRecDepth 100000 in
set_option maxHeartbeats 4000000 in
theorem indexopen_any (xs : List Ds) (A : Option Addr) (n c : Nat) (num : Int) (bx : Nat) (w : World) (hI : DescsAt none w A n xs) (hn : n ≤ 1099511627776) (hb : w.cell? ⟨bx, 0, .none⟩ = some (.int .i64 num)) (hblt : bx < w.heap.size) :
    Calls Try.prog 44 #[.slice A n c, .func (.func 91) #[] #[.pointer (some ⟨bx, 0, .none⟩)]] w fun e w' => ∃ r : Int, e = .returned (.int .i64 r) ∧ Below w.heap.size w w' ∧ (openB xs num = decide (0 ≤ r)) := by
  obtain ⟨R, hR⟩ : ∃ R, openB xs num = R := ⟨_, rfl⟩
  rw [hR]
  have HI := Lib.hid hI
  have HR := Lib.hid hR
  clear hI hR
  go_enter Try.func44, Try.ntmps44
  go_wp2_with fail
  go_loopw [8] (fun j wr => ∃ q : Nat, j = .int .i64 q ∧ q ≤ n ∧ Below w.heap.size w wr ∧ openB (xs.drop q) num = R) (fun j _ => n - (intOf j).toNat)
  case atStart => exact ⟨0, rfl, by omega, Below.refl _ _, HR.out⟩
  case round =>
    obtain ⟨q, rfl, hq, hbel, hc⟩ := hrel
    have HB := Lib.hid hbel
    have HIr := Lib.hid (HI.out.below hbel)
    have hbr := (hbel.cell (p := ⟨bx, 0, .none⟩) hblt).trans hb
    have hbl : bx < wr.heap.size := Nat.lt_of_lt_of_le hblt hbel.size
    have HBR := Lib.hid hbr
    clear hbel hbr
    by_cases hlt : q < n
    · obtain ⟨g, off, y, rfl, hg, hy, hd, hmem, e0, e1, e2⟩ := HIr.out.get q hlt
      rw [hd, openB] at hc
      have HC := Lib.hid hc
      have k0 : (0 : Int) ≤ (q : Int) := by omega
      clear hc hd hmem hy
      go_wp2_with fail
      refine (open1_any _ _ num y.num bx _ HBR.out hbl).mono ?_
      rintro e5 w5 ⟨rfl, hb5⟩
      have HB5 := Lib.hid (HB.out.trans (hb5.mono HB.out.size))
      clear hb5 e0 e1 e2
      obtain ⟨bb, hbb⟩ : ∃ bb, (y.num == num) = bb := ⟨_, rfl⟩
      rw [hbb]
      have hc := HC.out
      cases bb
      · have hnx : ¬ y.num = num := by rw [beq_eq_false_iff_ne] at hbb; exact hbb
        rw [if_neg hnx] at hc
        have HC2 := Lib.hid hc
        clear hc hbb hnx
        go_wp2_with fail
        go_roundw
        case rel => exact ⟨q + 1, by go_num, by omega, HB5.out, HC2.out⟩
        case measure => simp [intOf]; omega
      · have hnx : y.num = num := by rw [beq_iff_eq] at hbb; exact hbb
        rw [if_pos hnx] at hc
        have HC2 := Lib.hid hc
        clear hc hbb hnx
        go_wp2_with fail
        go_ret
        refine ⟨(q : Int), rfl, HB5.out, ?_⟩
        rw [← HC2.out, decide_eq_true (show (0 : Int) ≤ (q : Int) by omega)]
    · have hnil : xs.drop q = [] := List.drop_eq_nil_of_le (by have := HI.out.1; omega)
      rw [hnil, openB] at hc
      have HC := Lib.hid hc
      clear hc hnil
      go_wp2_with fail
      go_ret
      exact ⟨-1, rfl, HB.out, HC.out.symm⟩
theorem containsopen_any (xs : List Ds) (A : Option Addr) (n c : Nat) (num : Int) (bx : Nat) (w : World) (hI : DescsAt none w A n xs) (hn : n ≤ 1099511627776) (hb : w.cell? ⟨bx, 0, .none⟩ = some (.int .i64 num)) (hblt : bx < w.heap.size) :
    Calls Try.prog 42 #[.slice A n c, .func (.func 91) #[] #[.pointer (some ⟨bx, 0, .none⟩)]] w fun e w' => e = .returned (.bool (openB xs num)) ∧ Below w.heap.size w w' := by
  go_enter Try.func42, Try.ntmps42
  go_wp2_with fail
  refine (indexopen_any xs A n c num bx w hI hn hb hblt).mono ?_
  rintro e5 w5 ⟨r, rfl, hbel, hr⟩
  by_cases h0 : 0 ≤ r
  · have q0 : decide ((0 : Int) ≤ r) = true := decide_eq_true h0
    rw [q0] at hr
    have HR := Lib.hid hr
    clear hr
    go_wp2_with fail
    go_ret
    exact ⟨Cv.ret_bool HR.out.symm, hbel⟩
  · have q0 : decide ((0 : Int) ≤ r) = false := decide_eq_false h0
    rw [q0] at hr
    have HR := Lib.hid hr
    clear hr
    go_wp2_with fail
    go_ret
    exact ⟨Cv.ret_bool HR.out.symm, hbel⟩
theorem misopen_any (p : Nat) (s : St) (num : Int) (w : World) (h : PtrAt w p s) :
    Calls Try.prog 52 #[.pointer (some ⟨p, 0, .none⟩), .int .i64 num] w fun e w' => e = .returned (.bool (openB s.opn num)) ∧ Below w.heap.size w w' := by
  obtain ⟨A, n, c, E, m, d, D, k, e, hp, c0, c1, c2, hI, hD, hM, hn, hm, _⟩ := h.val
  obtain ⟨W, hW⟩ : ∃ W, w.alloc (.cells #[.int .i64 num] 3) = W := ⟨_, rfl⟩
  have hal : Below w.heap.size w W := by rw [← hW]; exact (Below.refl _ _).alloc (Nat.le_refl _) _
  have hsz : W.heap.size = w.heap.size + 1 := by rw [← hW]; simp
  have hc : W.cell? ⟨w.heap.size, 0, .none⟩ = some (.int .i64 num) := by rw [← hW]; exact World.cell?_alloc_mark w _ _ (0, 0) _
  have x1 := (hal.cell (p := ⟨p, 1, .none⟩) hp).trans c1
  have HD := Lib.hid (hD.below hal)
  have HAL := Lib.hid hal
  have hlt : w.heap.size < W.heap.size := by omega
  have HC := Lib.hid hc
  have HLT := Lib.hid hlt
  clear hI hD hM hal c0 c2 hsz hc hlt
  go_enter Try.func52, Try.ntmps52
  go_wp2_with fail
  refine (containsopen_any s.opn E m d num w.heap.size W HD.out hm HC.out HLT.out).mono ?_
  rintro e5 w5 ⟨rfl, hbel⟩
  have HB := Lib.hid (Cv.next HAL.out hbel)
  clear hbel
  go_wp2_with fail
  go_ret
  exact ⟨rfl, HB.out⟩
end Go.Proofs.Ytghlgnklnbcppaa

/- The model's May: may a state be? -/
namespace Go.Proofs.Ytghlgnklnbcppaa
open Go.RowKit
set_option linter.unusedVariables false
set_option linter.unusedSimpArgs false
theorem entsG_found (is : List Ino) : ∀ (es : List En) (p : Option ByteArray) (many : Nat → Nat), entsG is es p many = true → ∀ e ∈ es, 0 ≤ atV is e.num
  | [], _, _, _, e, he => by simp at he
  | y :: es, p, many, h, e, he => by
    unfold entsG at h
    split at h
    · cases h
    · rename_i hb
      split at h
      · cases h
      · rcases List.mem_cons.1 he with h1 | h1
        · subst h1
          apply Classical.byContradiction
          intro hn
          exact hb (by unfold entBad; rw [decide_eq_true (show atV is e.num < 0 by omega)]; simp)
        · exact entsG_found is es _ _ h e h1
theorem shapes_linked (is : List Ino) : ∀ (xs : List Ino), shapesM is xs = true → ∀ x ∈ xs, (x.dir = false → x.ents = []) ∧ ∀ e ∈ x.ents, 0 ≤ atV is e.num
  | [], _, x, hx => by simp at hx
  | y :: xs, h, x, hx => by
    unfold shapesM at h
    by_cases hd : y.dir = true
    · rw [if_pos hd] at h
      split at h
      · cases h
      · rename_i hc
        rcases List.mem_cons.1 hx with h1 | h1
        · subst h1
          refine ⟨fun h2 => (by rw [hd] at h2; cases h2), ?_⟩
          have : entsV is x.ents = true := by
            cases hv : entsV is x.ents
            · exact absurd (.inr hv) hc
            · rfl
          exact entsG_found is _ _ _ this
        · exact shapes_linked is xs h x h1
    · rw [if_neg hd] at h
      split at h
      · cases h
      · rename_i hc
        rcases List.mem_cons.1 hx with h1 | h1
        · subst h1
          have he : x.ents = [] := by
            apply Classical.byContradiction
            intro hn
            exact hc (.inl hn)
          exact ⟨fun _ => he, by rw [he]; simp⟩
        · exact shapes_linked is xs h x h1
theorem mInos_facts {s : St} (hm : mMadeV s = true) (h : mInosV s = true) : RiseI s.inos ∧ Linked s.inos ∧ s.inos.length ≤ 257 ∧ ∃ x0, s.inos[0]? = some x0 ∧ x0.num = 1 := by
  unfold mInosV at h
  rw [Bool.and_eq_true, Bool.and_eq_true] at h
  obtain ⟨⟨h1, h2⟩, h3⟩ := h
  unfold mMadeV at hm
  rw [Bool.and_eq_true, Bool.and_eq_true] at hm
  cases e : s.inos with
  | nil => rw [e] at h1; cases h1
  | cons x xs =>
    rw [e] at h1 h2 h3
    unfold rootB at h1
    rw [Bool.and_eq_true, decide_eq_true_eq] at h1
    refine ⟨RiseI.of_nums h2, shapes_linked _ _ h3, ?_, x, rfl, h1.1⟩
    have := nums_len s.made xs x.num hm.2 h2 (by omega)
    rw [List.length_cons]
    omega
set_option maxRecDepth 100000 in
set_option maxHeartbeats 8000000 in
theorem mmay_any (v : Value) (s : St) (w : World) (h : StAt none w v s) :
    Calls Try.prog 20 #[v] w fun e w' => e = .returned (.bool (mayV s)) ∧ Below w.heap.size w w' := by
  obtain ⟨⟨A, n, c, B, m, d, D, k, e, rfl, hI, hD, hM, h5, h6, h7⟩, hz⟩ := h
  obtain ⟨W, hW, b0, b1, b2, hal, hlt0⟩ := box_st w A n c B m d D k e
  obtain ⟨R, hR⟩ : ∃ R, mayV s = R := ⟨_, rfl⟩
  rw [hR]
  rw [mayV_eq] at hR
  have hrow : W.heap[w.heap.size]? = some (.cells #[.slice A n c, .slice B m d, .slice D k e] 26 (0, 0)) := by rw [← hW]; exact heap_alloc_new w _
  have hp : PtrAt W w.heap.size s := ⟨⟨A, n, c, B, m, d, D, k, e, hrow, hI.below hal, hD.below hal, hM.below hal, h5, h6, h7⟩, hz⟩
  have HP := Lib.hid hp
  have HI := Lib.hid hI
  have HAL := Lib.hid hal
  have HR := Lib.hid hR
  obtain ⟨BM, hBM⟩ : ∃ BM, mMadeV s = BM := ⟨_, rfl⟩
  obtain ⟨BI, hBI⟩ : ∃ BI, mInosV s = BI := ⟨_, rfl⟩
  obtain ⟨BO, hBO⟩ : ∃ BO, opensV s = BO := ⟨_, rfl⟩
  have HBM := Lib.hid hBM
  have HBI := Lib.hid hBI
  have HBO := Lib.hid hBO
  clear hI hD hM hz hrow hp hal hR hBM hBI hBO
  go_enter Try.func20, Try.ntmps20
  go_wp2_with fail
  refine (maymade_any w.heap.size s W HP.out).mono ?_
  rintro e1 w1 ⟨rfl, rfl⟩
  rw [HBM.out]
  cases BM
  · have hr := HR.out
    have hbm := HBM.out
    unfold mMadeV at hbm
    rw [hbm, Bool.false_and, Bool.false_and, Bool.false_and] at hr
    have HR2 := Lib.hid hr
    clear hr hbm
    go_wp2_with fail
    go_ret
    exact ⟨Cv.ret_bool HR2.out, HAL.out⟩
  go_wp2_with fail
  refine (mayinos_any w.heap.size s W HP.out).mono ?_
  rintro e2 w2 ⟨rfl, hb2⟩
  rw [HBI.out]
  have HP2 := Lib.hid (HP.out.below hb2)
  have HB2 := Lib.hid (Cv.next HAL.out hb2)
  clear hb2
  cases BI
  · have hr := HR.out
    have hbi := HBI.out
    unfold mInosV at hbi
    rw [hbi, Bool.and_false, Bool.false_and, Bool.false_and] at hr
    have HR2 := Lib.hid hr
    clear hr hbi
    go_wp2_with fail
    go_ret
    exact ⟨Cv.ret_bool HR2.out, HB2.out⟩
  obtain ⟨hri, hlk, hle, x0, hx0, hxn⟩ := mInos_facts HBM.out HBI.out
  have HRI := Lib.hid hri
  have HLK := Lib.hid hlk
  have HLE := Lib.hid hle
  have HX0 := Lib.hid hx0
  have HXN := Lib.hid hxn
  clear hri hlk hle hx0 hxn
  go_wp2_with fail
  refine (mayopen_any w.heap.size s _ HP2.out HRI.out).mono ?_
  rintro e3 w3 ⟨rfl, hb3⟩
  rw [HBO.out]
  have HP3 := Lib.hid (HP2.out.below hb3)
  have HB3 := Lib.hid (Cv.next HB2.out hb3)
  clear hb3
  cases BO
  · have hr := HR.out
    rw [HBO.out, Bool.and_false, Bool.false_and] at hr
    have HR2 := Lib.hid hr
    clear hr
    go_wp2_with fail
    go_ret
    exact ⟨Cv.ret_bool HR2.out, HB3.out⟩
  have hr := HR.out
  have hbm := HBM.out
  unfold mMadeV at hbm
  have hbi := HBI.out
  unfold mInosV at hbi
  rw [hbm, hbi, HBO.out, Bool.true_and, Bool.true_and, Bool.true_and] at hr
  have HR2 := Lib.hid hr
  clear hr hbm hbi
  go_wp2_with fail
  refine (mreached_any w.heap.size s x0 _ HP3.out HRI.out HLK.out HX0.out HXN.out HLE.out).mono ?_
  rintro e4 w4 ⟨G1, G2, rfl, hnu, hfl, hb4⟩
  rw [show s.inos.length = n from HI.out.1] at hnu hfl ⊢
  have HNU := Lib.hid hnu
  have HFL := Lib.hid hfl
  have HB4 := Lib.hid (Cv.next HB3.out hb4)
  have HP4 := Lib.hid (HP3.out.below hb4)
  obtain ⟨MV, hMV⟩ : ∃ MV, manyV s.inos = MV := ⟨_, rfl⟩
  obtain ⟨FV, hFV⟩ : ∃ FV, reachV s.inos = FV := ⟨_, rfl⟩
  rw [hMV] at HNU
  rw [hFV] at HFL
  have hr := HR2.out
  rw [hMV, hFV] at hr
  have HR3 := Lib.hid hr
  have hln : s.inos.length = n := HI.out.1
  have HLN := Lib.hid hln
  clear hnu hfl hb4 hMV hFV hr HR2 HR hln
  obtain ⟨A2, n2, c2, E2, m2, d2, D2, k2, e2, hp4, p0, p1, p2, hI4, _, _, hn4, _, _⟩ := HP4.out.val
  have hn2 : n2 = n := by rw [← hI4.1]; exact HLN.out
  subst hn2
  have HI4 := Lib.hid hI4
  clear hI4 p1 p2 b0 b1 b2 h5 h6 h7
  go_wp2_with fail
  clear hW
  go_loopw [5, 24] (fun _ i wr => ∃ q : Nat, i = .int .i64 q ∧ q ≤ n2 ∧ Below w4.heap.size w4 wr ∧ finalM s (s.inos.drop q) (decide (q = 0)) (MV.drop q) (FV.drop q) = R) (fun _ i _ => n2 - (intOf i).toNat)
  case atStart => exact ⟨0, rfl, by omega, Below.refl _ _, HR3.out⟩
  case round =>
    obtain ⟨q, rfl, hq, hbel, hc⟩ := hrel
    have HBr := Lib.hid hbel
    have HIr := Lib.hid (HI4.out.below hbel)
    have hnr := (HNU.out.below hbel)
    have hfr := (HFL.out.below hbel)
    have HPr := Lib.hid (HP4.out.below hbel)
    clear hbel
    by_cases hlt : q < n2
    · obtain ⟨g, off, x, E3, m3, d3, rfl, hg, hx, hd, hmem, e0, e1, e2, hok, hE, e3⟩ := HIr.out.get q hlt
      have k0 : (0 : Int) ≤ (q : Int) := by omega
      have k1 : (q : Int) < (n2 : Int) := by omega
      obtain ⟨V1, hV1, u0, u1, u2, u3, hal, hlt1⟩ := box_ino wr x.num x.dir E3 m3 d3 x.data
      rw [hd] at hc
      obtain ⟨m, hm⟩ : ∃ m, MV.getD q 0 = m := ⟨_, rfl⟩
      obtain ⟨f, hf⟩ : ∃ f, FV.getD q false = f := ⟨_, rfl⟩
      obtain ⟨mc, _⟩ := (hnr.below hal).get q hlt
      obtain ⟨fc, _⟩ := (hfr.below hal).get q hlt
      rw [hm] at mc
      rw [hf] at fc
      have hh1 : (MV.drop q).headD 0 = m := by rw [← hm]; simp [List.headD_eq_head?_getD, List.head?_drop]
      have hh2 : (FV.drop q).headD false = f := by rw [← hf]; simp [List.headD_eq_head?_getD, List.head?_drop]
      have ht1 : (MV.drop q).tail = MV.drop (q + 1) := by simp
      have ht2 : (FV.drop q).tail = FV.drop (q + 1) := by simp
      rw [finalM, hh1, hh2, ht1, ht2] at hc
      have HBV := Lib.hid (Cv.next HBr.out hal)
      have HPV := Lib.hid (HPr.out.below hal)
      have q9 : decide (q + 1 = 0) = false := by simp
      obtain ⟨NX, hNX⟩ : ∃ NX, finalM s (s.inos.drop (q + 1)) false (MV.drop (q + 1)) (FV.drop (q + 1)) = NX := ⟨_, rfl⟩
      rw [hNX] at hc
      have HNX := Lib.hid hNX
      have HQ9 := Lib.hid q9
      clear hd hmem hok hE hx hh1 hh2 ht1 ht2 hm hf hnr hfr hal hNX q9
      by_cases hq0 : q = 0
      · have qe : ((q : Int) == 0) = true := by rw [beq_iff_eq]; omega
        rw [decide_eq_true hq0, if_pos rfl] at hc
        have HC := Lib.hid hc
        clear hc hq0
        go_wp2_with fail
        go_roundw
        case rel => exact ⟨q + 1, by go_num, by omega, HBV.out, by rw [HQ9.out, HNX.out]; exact HC.out⟩
        case measure => simp [intOf]; omega
      · have qe : ((q : Int) == 0) = false := by rw [beq_eq_false_iff_ne]; omega
        rw [decide_eq_false hq0, if_neg (by simp)] at hc
        clear hq0
        obtain ⟨DX, hDX⟩ : ∃ DX, x.dir = DX := ⟨_, rfl⟩
        rw [hDX] at hc e1 u1
        have hV1' := hV1
        rw [hDX] at hV1'
        clear hV1 hDX
        cases DX
        · cases f
          · by_cases hm0 : 0 < m
            · have qm : decide ((0 : Int) < (m : Int)) = true := by rw [decide_eq_true_eq]; omega
              rw [if_neg (by simp), if_pos ⟨rfl, rfl, .inl hm0⟩] at hc
              have HC := Lib.hid hc
              have hmz : ¬ m = 0 := by omega
              clear hc
              go_wp2_with fail
              go_ret
              exact ⟨Cv.ret_bool HC.out, Cv.next HB4.out HBV.out⟩
            · obtain rfl : m = 0 := by omega
              obtain ⟨OB, hOB⟩ : ∃ OB, openB s.opn x.num = OB := ⟨_, rfl⟩
              rw [hOB] at hc
              have HC := Lib.hid hc
              have HOB := Lib.hid hOB
              clear hc hm0 hOB
              go_wp2_with fail
              refine (misopen_any w.heap.size s x.num _ HPV.out).mono ?_
              rintro e9 w9 ⟨rfl, hb9⟩
              rw [HOB.out]
              have HB9 := Lib.hid (Cv.next HBV.out hb9)
              clear hb9
              cases OB
              · have hc : false = R := by have h := HC.out; simpa using h
                have HC2 := Lib.hid hc
                clear hc
                go_wp2_with fail
                go_ret
                exact ⟨Cv.ret_bool HC2.out, Cv.next HB4.out HB9.out⟩
              · have hc : NX = R := by have h := HC.out; simpa using h
                have HC2 := Lib.hid hc
                clear hc
                go_wp2_with fail
                go_roundw
                case rel => exact ⟨q + 1, by go_num, by omega, HB9.out, by rw [HQ9.out, HNX.out]; exact HC2.out⟩
                case measure => simp [intOf]; omega
          · rw [if_neg (by simp), if_neg (by simp)] at hc
            have HC := Lib.hid hc
            clear hc
            go_wp2_with fail
            go_roundw
            case rel => exact ⟨q + 1, by go_num, by omega, HBV.out, by rw [HQ9.out, HNX.out]; exact HC.out⟩
            case measure => simp [intOf]; omega
        · by_cases hm1 : m = 1
          · subst hm1
            cases f
            · rw [if_pos ⟨rfl, .inr rfl⟩] at hc
              have HC := Lib.hid hc
              clear hc
              go_wp2_with fail
              go_ret
              exact ⟨Cv.ret_bool HC.out, Cv.next HB4.out HBV.out⟩
            · rw [if_neg (by simp), if_neg (by simp)] at hc
              have HC := Lib.hid hc
              clear hc
              go_wp2_with fail
              go_roundw
              case rel => exact ⟨q + 1, by go_num, by omega, HBV.out, by rw [HQ9.out, HNX.out]; exact HC.out⟩
              case measure => simp [intOf]; omega
          · have qm : ((m : Int) != 1) = true := by rw [bne_iff_ne]; omega
            rw [if_pos ⟨rfl, .inl hm1⟩] at hc
            have HC := Lib.hid hc
            have qm2 : (m == 1) = false := by rw [beq_eq_false_iff_ne]; exact hm1
            have qm3 : (m != 1) = true := by rw [bne_iff_ne]; exact hm1
            clear hc
            go_wp2_with fail
            go_ret
            exact ⟨Cv.ret_bool HC.out, Cv.next HB4.out HBV.out⟩
    · have hnil : s.inos.drop q = [] := List.drop_eq_nil_of_le (by have := HIr.out.1; omega)
      rw [hnil, finalM] at hc
      have HC := Lib.hid hc
      have q1 : decide ((q : Int) < (n2 : Int)) = false := by rw [decide_eq_false_iff_not]; omega
      clear hc hnil hnr hfr
      go_wp2_with fail
      go_ret
      exact ⟨Cv.ret_bool HC.out, Cv.next HB4.out HBr.out⟩
end Go.Proofs.Ytghlgnklnbcppaa

/- Plain facts on the hash of a text: no program in sight. One step of it is one to one in the hash and in the byte; so texts that differ in one byte have unlike hashes. No condition but the bounds named. -/
namespace Go.Proofs.Ytghlgnklnbcppaa

def hP : Nat := 1099511628211
def hM : Nat := 18446744073709551616
def hQ : Nat := 14886173955864302971
def firstN : Nat := 14695981039346656037
theorem hPQ : hP * hQ % hM = 1 := by decide +kernel
theorem hM_eq : hM = 2 ^ 64 := by decide +kernel
theorem hM_pos : 0 < hM := by decide +kernel
theorem firstN_lt : firstN < hM := by decide +kernel
/-- One step of the hash. -/
def stepN (h : Nat) (b : UInt8) : Nat := (h ^^^ b.toNat) * hP % hM
def sumN (l : List UInt8) : Nat := l.foldl stepN firstN
theorem stepN_lt (h : Nat) (b : UInt8) : stepN h b < hM := Nat.mod_lt _ hM_pos
theorem foldl_lt (l : List UInt8) : ∀ h : Nat, h < hM → l.foldl stepN h < hM := by
  induction l with
  | nil => intro h hh; exact hh
  | cons b l ih => intro h _; exact ih _ (stepN_lt h b)
theorem sumN_lt (l : List UInt8) : sumN l < hM := foldl_lt l _ firstN_lt
theorem foldl_snoc (f : Nat → UInt8 → Nat) (n : Nat) (l : List UInt8) (b : UInt8) : (l ++ [b]).foldl f n = f (l.foldl f n) b := by
  rw [List.foldl_append]; rfl
theorem sumN_snoc (l : List UInt8) (b : UInt8) : sumN (l ++ [b]) = stepN (sumN l) b := foldl_snoc stepN firstN l b
theorem sumN_nil : sumN [] = firstN := List.foldl_nil
theorem times_key (p q m z : Nat) (h : p * q % m = 1) (hz : z < m) : (z * p % m) * q % m = z := by
  rw [Nat.mod_mul_mod, Nat.mul_assoc, ← Nat.mul_mod_mod, h, Nat.mul_one]
  exact Nat.mod_eq_of_lt hz
theorem times_inj' {x y : Nat} (p q m : Nat) (h1 : p * q % m = 1) (hx : x < m) (hy : y < m) (h : x * p % m = y * p % m) : x = y := by
  rw [← times_key p q m x h1 hx, ← times_key p q m y h1 hy, h]
theorem times_inj {x y : Nat} (hx : x < hM) (hy : y < hM) (h : x * hP % hM = y * hP % hM) : x = y := times_inj' hP hQ hM hPQ hx hy h
theorem xor_lt {h : Nat} (hh : h < hM) (b : UInt8) : h ^^^ b.toNat < hM := by
  rw [hM_eq] at *
  exact Nat.xor_lt_two_pow hh (Nat.lt_of_lt_of_le b.toNat_lt (Nat.pow_le_pow_right (by omega) (by omega)))
theorem xor_cancel {a b c : Nat} (h : a ^^^ c = b ^^^ c) : a = b := by
  have : (a ^^^ c) ^^^ c = (b ^^^ c) ^^^ c := by rw [h]
  simpa [Nat.xor_assoc] using this
theorem xor_cancel' {a b c : Nat} (h : c ^^^ a = c ^^^ b) : a = b := xor_cancel (c := c) (by rw [Nat.xor_comm a, Nat.xor_comm b, h])
theorem stepN_inj {g h : Nat} (b : UInt8) (hg : g < hM) (hh : h < hM) (e : stepN g b = stepN h b) : g = h :=
  xor_cancel (times_inj (xor_lt hg b) (xor_lt hh b) e)
theorem stepN_inj' {h : Nat} (b c : UInt8) (hh : h < hM) (e : stepN h b = stepN h c) : b = c :=
  UInt8.toNat_inj.1 (xor_cancel' (times_inj (xor_lt hh b) (xor_lt hh c) e))
theorem foldl_inj (l : List UInt8) : ∀ g h : Nat, g < hM → h < hM → l.foldl stepN g = l.foldl stepN h → g = h := by
  induction l with
  | nil => intro g h _ _ e; exact e
  | cons b l ih => intro g h hg hh e; exact stepN_inj b hg hh (ih _ _ (stepN_lt g b) (stepN_lt h b) e)
/-- Texts that differ in one byte alone have unlike sums. -/
theorem sumN_one (l r : List UInt8) (b c : UInt8) (h : sumN (l ++ b :: r) = sumN (l ++ c :: r)) : b = c := by
  simp only [sumN, List.foldl_append, List.foldl_cons] at h
  exact stepN_inj' b c (foldl_lt l _ firstN_lt) (foldl_inj r _ _ (stepN_lt _ _) (stepN_lt _ _) h)

/-- A hash's digits. -/
def hexDigits : List UInt8 := [48, 49, 50, 51, 52, 53, 54, 55, 56, 57, 97, 98, 99, 100, 101, 102]
def hexDigit (x k : Nat) : UInt8 := hexDigits.getD (x / 16 ^ (15 - k) % 16) 0
def hexN (x : Nat) : List UInt8 := (List.range 16).map (hexDigit x)
end Go.Proofs.Ytghlgnklnbcppaa
