/- Parts of the proof, side by side: MoMay, PlainSum, LaPutP, FsByFd2, FsDo, FsDoAny, Good. -/
import Derived.Test.YtndcloohcfhejaaMoReached
import Derived.Test.YtndcloohcfhejaaM10
import Derived.Test.YtndcloohcfhejaaM05
import Derived.Laws.BitsAllLaws
import Derived.RegionTactic
import Derived.Test.YtndcloohcfhejaaM06
import Derived.Test.YtndcloohcfhejaaM03
import Derived.Test.YtndcloohcfhejaaM01
import Derived.Deep.RegionHeld3
import Derived.Test.YtndcloohcfhejaaM04
import Derived.Outline
import Derived.Deep.CutBlock
set_option linter.unusedVariables false
set_option linter.unusedSimpArgs false
namespace Go.Proofs.Ytndcloohcfhejaa
open Go.RowKit
theorem entsG_found (is : List Ino) : ∀ (es : List En) (p : Option ByteArray) (many : Nat → Nat), entsG is es p many = true → ∀ e ∈ es, 0 ≤ atV is e.num
 | [], _, _, _, e, he => by simp at he
 | y :: es, p, many, h, e, he => by
  unfold entsG at h
  split at h
  ·cases h
  ·rename_i hb
   split at h
   ·cases h
   ·rcases List.mem_cons.1 he with h1 | h1
    ·subst h1
     apply Classical.byContradiction
     intro hn
     exact hb (by unfold entBad; rw [decide_eq_true (show atV is e.num < 0 by omega)]; simp)
    ·exact entsG_found is es _ _ h e h1
theorem shapes_linked (is : List Ino) : ∀ (xs : List Ino), shapesM is xs = true → ∀ x ∈ xs, (x.dir = false → x.ents = []) ∧ ∀ e ∈ x.ents, 0 ≤ atV is e.num
 | [], _, x, hx => by simp at hx
 | y :: xs, h, x, hx => by
  unfold shapesM at h
  by_cases hd : y.dir = true
  ·rw [if_pos hd] at h
   split at h
   ·cases h
   ·rename_i hc
    rcases List.mem_cons.1 hx with h1 | h1
    ·subst h1
     refine ⟨fun h2 => (by rw [hd] at h2; cases h2), ?_⟩
     have : entsV is x.ents = true := by
      cases hv : entsV is x.ents
      ·exact absurd (.inr hv) hc
      ·rfl
     exact entsG_found is _ _ _ this
    ·exact shapes_linked is xs h x h1
  ·rw [if_neg hd] at h
   split at h
   ·cases h
   ·rename_i hc
    rcases List.mem_cons.1 hx with h1 | h1
    ·subst h1
     have he : x.ents = [] := by
      apply Classical.byContradiction
      intro hn
      exact hc (.inl hn)
     exact ⟨fun _ => he, by rw [he]; simp⟩
    ·exact shapes_linked is xs h x h1
theorem mInos_facts {s : St} (hm : mMadeV s = true) (h : mInosV s = true) : RiseI s.inos ∧ Linked s.inos ∧ s.inos.length ≤ 257 ∧ ∃ x0, s.inos[0]? = some x0 ∧ x0.num = 1 := by
 unfold mInosV at h
 rw [Bool.and_eq_true, Bool.and_eq_true] at h
 obtain ⟨⟨h1, h2⟩, h3⟩ := h
 unfold mMadeV at hm
 rw [Bool.and_eq_true, Bool.and_eq_true] at hm
 cases e : s.inos with
 | nil => rw [e] at h1; cases h1
 | cons x xs =>
  rw [e] at h1 h2 h3
  unfold rootB at h1
  rw [Bool.and_eq_true, decide_eq_true_eq] at h1
  refine ⟨RiseI.of_nums h2, shapes_linked _ _ h3, ?_, x, rfl, h1.1⟩
  have := nums_len s.made xs x.num hm.2 h2 (by omega)
  rw [List.length_cons]
  omega
set_option maxRecDepth 100000 in
set_option maxHeartbeats 8000000 in
theorem mmay_any (v : Value) (s : St) (w : World) (h : StAt none w v s) :
  Calls Try.prog 13 #[v] w fun e w' => e = .returned (.bool (mayV s)) ∧ Below w.heap.size w w' := by
 obtain ⟨⟨A, n, c, B, m, d, D, k, e, rfl, hI, hD, hM, h5, h6, h7⟩, hz⟩ := h
 obtain ⟨W, hW, b0, b1, b2, hal, hlt0⟩ := box_st w A n c B m d D k e
 obtain ⟨R, hR⟩ : ∃ R, mayV s = R := ⟨_, rfl⟩
 rw [hR]
 rw [mayV_eq] at hR
 have hrow : W.heap[w.heap.size]? = some (.cells #[.slice A n c, .slice B m d, .slice D k e] 27 (0, 0)) := by rw [← hW]; exact heap_alloc_new w _
 have hp : PtrAt W w.heap.size s := ⟨⟨A, n, c, B, m, d, D, k, e, hrow, hI.below hal, hD.below hal, hM.below hal, h5, h6, h7⟩, hz⟩
 have HP := Lib.hid hp
 have HI := Lib.hid hI
 have HAL := Lib.hid hal
 have HR := Lib.hid hR
 obtain ⟨BM, hBM⟩ : ∃ BM, mMadeV s = BM := ⟨_, rfl⟩
 obtain ⟨BI, hBI⟩ : ∃ BI, mInosV s = BI := ⟨_, rfl⟩
 obtain ⟨BO, hBO⟩ : ∃ BO, opensV s = BO := ⟨_, rfl⟩
 have HBM := Lib.hid hBM
 have HBI := Lib.hid hBI
 have HBO := Lib.hid hBO
 clear hI hD hM hz hrow hp hal hR hBM hBI hBO
 go_enter Try.func13, Try.ntmps13
 go_wp2_with fail
 refine (maymade_any w.heap.size s W HP.out).mono ?_
 rintro e1 w1 ⟨rfl, rfl⟩
 rw [HBM.out]
 cases BM
 ·have hr := HR.out
  have hbm := HBM.out
  unfold mMadeV at hbm
  rw [hbm, Bool.false_and, Bool.false_and, Bool.false_and] at hr
  have HR2 := Lib.hid hr
  clear hr hbm
  go_wp2_with fail
  go_ret
  exact ⟨Cv.ret_bool HR2.out, HAL.out⟩
 go_wp2_with fail
 refine (mayinos_any w.heap.size s W HP.out).mono ?_
 rintro e2 w2 ⟨rfl, hb2⟩
 rw [HBI.out]
 have HP2 := Lib.hid (HP.out.below hb2)
 have HB2 := Lib.hid (Cv.next HAL.out hb2)
 clear hb2
 cases BI
 ·have hr := HR.out
  have hbi := HBI.out
  unfold mInosV at hbi
  rw [hbi, Bool.and_false, Bool.false_and, Bool.false_and] at hr
  have HR2 := Lib.hid hr
  clear hr hbi
  go_wp2_with fail
  go_ret
  exact ⟨Cv.ret_bool HR2.out, HB2.out⟩
 obtain ⟨hri, hlk, hle, x0, hx0, hxn⟩ := mInos_facts HBM.out HBI.out
 have HRI := Lib.hid hri
 have HLK := Lib.hid hlk
 have HLE := Lib.hid hle
 have HX0 := Lib.hid hx0
 have HXN := Lib.hid hxn
 clear hri hlk hle hx0 hxn
 go_wp2_with fail
 refine (mayopen_any w.heap.size s _ HP2.out HRI.out).mono ?_
 rintro e3 w3 ⟨rfl, hb3⟩
 rw [HBO.out]
 have HP3 := Lib.hid (HP2.out.below hb3)
 have HB3 := Lib.hid (Cv.next HB2.out hb3)
 clear hb3
 cases BO
 ·have hr := HR.out
  rw [HBO.out, Bool.and_false, Bool.false_and] at hr
  have HR2 := Lib.hid hr
  clear hr
  go_wp2_with fail
  go_ret
  exact ⟨Cv.ret_bool HR2.out, HB3.out⟩
 have hr := HR.out
 have hbm := HBM.out
 unfold mMadeV at hbm
 have hbi := HBI.out
 unfold mInosV at hbi
 rw [hbm, hbi, HBO.out, Bool.true_and, Bool.true_and, Bool.true_and] at hr
 have HR2 := Lib.hid hr
 clear hr hbm hbi
 go_wp2_with fail
 refine (mreached_any w.heap.size s x0 _ HP3.out HRI.out HLK.out HX0.out HXN.out HLE.out).mono ?_
 rintro e4 w4 ⟨G1, G2, rfl, hnu, hfl, hb4⟩
 rw [show s.inos.length = n from HI.out.1] at hnu hfl ⊢
 have HNU := Lib.hid hnu
 have HFL := Lib.hid hfl
 have HB4 := Lib.hid (Cv.next HB3.out hb4)
 have HP4 := Lib.hid (HP3.out.below hb4)
 obtain ⟨MV, hMV⟩ : ∃ MV, manyV s.inos = MV := ⟨_, rfl⟩
 obtain ⟨FV, hFV⟩ : ∃ FV, reachV s.inos = FV := ⟨_, rfl⟩
 rw [hMV] at HNU
 rw [hFV] at HFL
 have hr := HR2.out
 rw [hMV, hFV] at hr
 have HR3 := Lib.hid hr
 have hln : s.inos.length = n := HI.out.1
 have HLN := Lib.hid hln
 clear hnu hfl hb4 hMV hFV hr HR2 HR hln
 obtain ⟨A2, n2, c2, E2, m2, d2, D2, k2, e2, hp4, p0, p1, p2, hI4, _, _, hn4, _, _⟩ := HP4.out.val
 have hn2 : n2 = n := by rw [← hI4.1]; exact HLN.out
 subst hn2
 have HI4 := Lib.hid hI4
 clear hI4 p1 p2 b0 b1 b2 h5 h6 h7
 go_wp2_with fail
 clear hW
 go_loopw [5, 24] (fun _ i wr => ∃ q : Nat, i = .int .i64 q ∧ q ≤ n2 ∧ Below w4.heap.size w4 wr ∧ finalM s (s.inos.drop q) (decide (q = 0)) (MV.drop q) (FV.drop q) = R) (fun _ i _ => n2 - (intOf i).toNat)
 case atStart => exact ⟨0, rfl, by omega, Below.refl _ _, HR3.out⟩
 case round =>
  obtain ⟨q, rfl, hq, hbel, hc⟩ := hrel
  have HBr := Lib.hid hbel
  have HIr := Lib.hid (HI4.out.below hbel)
  have hnr := (HNU.out.below hbel)
  have hfr := (HFL.out.below hbel)
  have HPr := Lib.hid (HP4.out.below hbel)
  clear hbel
  by_cases hlt : q < n2
  ·obtain ⟨g, off, x, E3, m3, d3, rfl, hg, hx, hd, hmem, e0, e1, e2, hok, hE, e3⟩ := HIr.out.get q hlt
   have k0 : (0 : Int) ≤ (q : Int) := by omega
   have k1 : (q : Int) < (n2 : Int) := by omega
   obtain ⟨V1, hV1, u0, u1, u2, u3, hal, hlt1⟩ := box_ino wr x.num x.dir E3 m3 d3 x.data
   rw [hd] at hc
   obtain ⟨m, hm⟩ : ∃ m, MV.getD q 0 = m := ⟨_, rfl⟩
   obtain ⟨f, hf⟩ : ∃ f, FV.getD q false = f := ⟨_, rfl⟩
   obtain ⟨mc, _⟩ := (hnr.below hal).get q hlt
   obtain ⟨fc, _⟩ := (hfr.below hal).get q hlt
   rw [hm] at mc
   rw [hf] at fc
   have hh1 : (MV.drop q).headD 0 = m := by rw [← hm]; simp [List.headD_eq_head?_getD, List.head?_drop]
   have hh2 : (FV.drop q).headD false = f := by rw [← hf]; simp [List.headD_eq_head?_getD, List.head?_drop]
   have ht1 : (MV.drop q).tail = MV.drop (q + 1) := by simp
   have ht2 : (FV.drop q).tail = FV.drop (q + 1) := by simp
   rw [finalM, hh1, hh2, ht1, ht2] at hc
   have HBV := Lib.hid (Cv.next HBr.out hal)
   have HPV := Lib.hid (HPr.out.below hal)
   have q9 : decide (q + 1 = 0) = false := by simp
   obtain ⟨NX, hNX⟩ : ∃ NX, finalM s (s.inos.drop (q + 1)) false (MV.drop (q + 1)) (FV.drop (q + 1)) = NX := ⟨_, rfl⟩
   rw [hNX] at hc
   have HNX := Lib.hid hNX
   have HQ9 := Lib.hid q9
   clear hd hmem hok hE hx hh1 hh2 ht1 ht2 hm hf hnr hfr hal hNX q9
   by_cases hq0 : q = 0
   ·have qe : ((q : Int) == 0) = true := by rw [beq_iff_eq]; omega
    rw [decide_eq_true hq0, if_pos rfl] at hc
    have HC := Lib.hid hc
    clear hc hq0
    go_wp2_with fail
    go_roundw
    case rel => exact ⟨q + 1, by go_num, by omega, HBV.out, by rw [HQ9.out, HNX.out]; exact HC.out⟩
    case measure => simp [intOf]; omega
   ·have qe : ((q : Int) == 0) = false := by rw [beq_eq_false_iff_ne]; omega
    rw [decide_eq_false hq0, if_neg (by simp)] at hc
    clear hq0
    obtain ⟨DX, hDX⟩ : ∃ DX, x.dir = DX := ⟨_, rfl⟩
    rw [hDX] at hc e1 u1
    have hV1' := hV1
    rw [hDX] at hV1'
    clear hV1 hDX
    cases DX
    ·cases f
     ·by_cases hm0 : 0 < m
      ·have qm : decide ((0 : Int) < (m : Int)) = true := by rw [decide_eq_true_eq]; omega
       rw [if_neg (by simp), if_pos ⟨rfl, rfl, .inl hm0⟩] at hc
       have HC := Lib.hid hc
       have hmz : ¬ m = 0 := by omega
       clear hc
       go_wp2_with fail
       go_ret
       exact ⟨Cv.ret_bool HC.out, Cv.next HB4.out HBV.out⟩
      ·obtain rfl : m = 0 := by omega
       obtain ⟨OB, hOB⟩ : ∃ OB, openB s.opn x.num = OB := ⟨_, rfl⟩
       rw [hOB] at hc
       have HC := Lib.hid hc
       have HOB := Lib.hid hOB
       clear hc hm0 hOB
       go_wp2_with fail
       refine (misopen_any w.heap.size s x.num _ HPV.out).mono ?_
       rintro e9 w9 ⟨rfl, hb9⟩
       rw [HOB.out]
       have HB9 := Lib.hid (Cv.next HBV.out hb9)
       clear hb9
       cases OB
       ·have hc : false = R := by have h := HC.out; simpa using h
        have HC2 := Lib.hid hc
        clear hc
        go_wp2_with fail
        go_ret
        exact ⟨Cv.ret_bool HC2.out, Cv.next HB4.out HB9.out⟩
       ·have hc : NX = R := by have h := HC.out; simpa using h
        have HC2 := Lib.hid hc
        clear hc
        go_wp2_with fail
        go_roundw
        case rel => exact ⟨q + 1, by go_num, by omega, HB9.out, by rw [HQ9.out, HNX.out]; exact HC2.out⟩
        case measure => simp [intOf]; omega
     ·rw [if_neg (by simp), if_neg (by simp)] at hc
      have HC := Lib.hid hc
      clear hc
      go_wp2_with fail
      go_roundw
      case rel => exact ⟨q + 1, by go_num, by omega, HBV.out, by rw [HQ9.out, HNX.out]; exact HC.out⟩
      case measure => simp [intOf]; omega
    ·by_cases hm1 : m = 1
     ·subst hm1
      cases f
      ·rw [if_pos ⟨rfl, .inr rfl⟩] at hc
       have HC := Lib.hid hc
       clear hc
       go_wp2_with fail
       go_ret
       exact ⟨Cv.ret_bool HC.out, Cv.next HB4.out HBV.out⟩
      ·rw [if_neg (by simp), if_neg (by simp)] at hc
       have HC := Lib.hid hc
       clear hc
       go_wp2_with fail
       go_roundw
       case rel => exact ⟨q + 1, by go_num, by omega, HBV.out, by rw [HQ9.out, HNX.out]; exact HC.out⟩
       case measure => simp [intOf]; omega
     ·have qm : ((m : Int) != 1) = true := by rw [bne_iff_ne]; omega
      rw [if_pos ⟨rfl, .inl hm1⟩] at hc
      have HC := Lib.hid hc
      have qm2 : (m == 1) = false := by rw [beq_eq_false_iff_ne]; exact hm1
      have qm3 : (m != 1) = true := by rw [bne_iff_ne]; exact hm1
      clear hc
      go_wp2_with fail
      go_ret
      exact ⟨Cv.ret_bool HC.out, Cv.next HB4.out HBV.out⟩
  ·have hnil : s.inos.drop q = [] := List.drop_eq_nil_of_le (by have := HIr.out.1; omega)
   rw [hnil, finalM] at hc
   have HC := Lib.hid hc
   have q1 : decide ((q : Int) < (n2 : Int)) = false := by rw [decide_eq_false_iff_not]; omega
   clear hc hnil hnr hfr
   go_wp2_with fail
   go_ret
   exact ⟨Cv.ret_bool HC.out, Cv.next HB4.out HBr.out⟩
end Go.Proofs.Ytndcloohcfhejaa
namespace Go.Proofs.Ytndcloohcfhejaa
def hP : Nat := 1099511628211
def hM : Nat := 18446744073709551616
def hQ : Nat := 14886173955864302971
theorem hPQ : hP * hQ % hM = 1 := by decide +kernel
theorem madeG_all : ∀ (l : List Int), madeG l = true → ∀ x ∈ l, 0 ≤ x ∧ x ≤ 32
 | [], _, x, hx => by simp at hx
 | y :: l, h, x, hx => by
  unfold madeG at h
  split at h
  ·cases h
  ·rcases List.mem_cons.1 hx with h1 | h1
   ·subst h1; omega
   ·exact madeG_all l h x h1
theorem entsG_names (is : List Ino) : ∀ (es : List En) (p : Option ByteArray) (many : Nat → Nat), entsG is es p many = true → ∀ e ∈ es, e.name.size ≤ 12
 | [], _, _, _, e, he => by simp at he
 | y :: es, p, many, h, e, he => by
  unfold entsG at h
  split at h
  ·cases h
  ·rename_i hb
   split at h
   ·cases h
   ·rcases List.mem_cons.1 he with h1 | h1
    ·subst h1
     apply Classical.byContradiction
     intro hn
     apply hb
     have hs : e.name.data.toList.length = e.name.size := Array.length_toList
     have hc : chkB e.name = 801 := by
      unfold chkB checkL
      rw [if_pos (by omega)]
     unfold entBad
     rw [hc]
     simp
    ·exact entsG_names is es _ _ h e h1
theorem shapes_more (is : List Ino) : ∀ (xs : List Ino), shapesM is xs = true → ∀ x ∈ xs, x.data.size ≤ 256 ∧ ∀ e ∈ x.ents, e.name.size ≤ 12
 | [], _, x, hx => by simp at hx
 | y :: xs, h, x, hx => by
  unfold shapesM at h
  by_cases hd : y.dir = true
  ·rw [if_pos hd] at h
   split at h
   ·cases h
   ·rename_i hc
    rcases List.mem_cons.1 hx with h1 | h1
    ·subst h1
     have : entsV is x.ents = true := by
      cases hv : entsV is x.ents
      ·exact absurd (.inr hv) hc
      ·rfl
     refine ⟨?_, entsG_names is _ _ _ this⟩
     have : x.data.size = 0 := by
      apply Classical.byContradiction
      intro hn
      exact hc (.inl hn)
     omega
    ·exact shapes_more is xs h x h1
  ·rw [if_neg hd] at h
   split at h
   ·cases h
   ·rename_i hc
    rcases List.mem_cons.1 hx with h1 | h1
    ·subst h1
     have he : x.ents = [] := by
      apply Classical.byContradiction
      intro hn
      exact hc (.inl hn)
     refine ⟨?_, by rw [he]; simp⟩
     apply Classical.byContradiction
     intro hn
     exact hc (.inr (by omega))
    ·exact shapes_more is xs h x h1
structure MayOk (s : St) : Prop where
 made : 1 ≤ s.made.length ∧ s.made.length ≤ 8 ∧ ∀ m ∈ s.made, 0 ≤ m ∧ m ≤ 32
 inos : 1 ≤ s.inos.length ∧ s.inos.length ≤ 257
 nums : ∀ x ∈ s.inos, 1 ≤ x.num ∧ x.num ≤ 257
 data : ∀ x ∈ s.inos, x.data.size ≤ 256 ∧ ∀ e ∈ x.ents, e.name.size ≤ 12
 linked : Linked s.inos
 rise : RiseI s.inos
theorem may_facts {s : St} (h : mayV s = true) : MayOk s := by
 rw [mayV_eq, Bool.and_eq_true, Bool.and_eq_true, Bool.and_eq_true] at h
 obtain ⟨⟨⟨h1, h2⟩, _⟩, _⟩ := h
 have hm : mMadeV s = true := h1
 have hi : mInosV s = true := h2
 obtain ⟨f1, f2, f3, x0, f4, f5⟩ := mInos_facts hm hi
 rw [Bool.and_eq_true, Bool.and_eq_true, decide_eq_true_eq, decide_eq_true_eq] at h1
 rw [Bool.and_eq_true, Bool.and_eq_true] at h2
 refine ⟨⟨h1.1.1, h1.1.2, madeG_all _ h1.2⟩, ⟨?_, f3⟩, ?_, shapes_more _ _ h2.2, f2, f1⟩
 ·have := (List.getElem?_eq_some_iff.1 f4).1
  omega
 ·cases e : s.inos with
  | nil => intro x hx; simp at hx
  | cons y ys =>
   rw [e] at f4 h2
   have hy : y = x0 := by simpa using f4
   subst hy
   obtain ⟨p1, _, p3⟩ := nums_pair s.made ys y.num h2.1.2
   intro x hx
   rcases List.mem_cons.1 hx with h3 | h3
   ·subst h3; omega
   ·have := p1 x h3
    have := given_le h1.2 (p3 x h3)
    omega
end Go.Proofs.Ytndcloohcfhejaa
namespace Go.Proofs.Ytndcloohcfhejaa
open Go.RowKit
theorem setData_of {is : List Ino} {num : Int} {i : Nat} {x : Ino} (h1 : atV is num = (i : Int)) (h2 : is[i]? = some x) (d : ByteArray) : setData is num d = is.set i { x with data := d } := by
 unfold setData
 rw [h1, Int.toNat_natCast, modify_set _ _ _ _ h2]
theorem StAt.keep3 {B : Nat} {w w' : World} {v : Value} {s : St} (h : StAt (some B) w v s) (k1 : KeepT 52 w w') (k2 : KeepT 75 w w') (k3 : KeepT 66 w w') (k4 : KeepT 3 w w') : StAt (some B) w' v s := by
 obtain ⟨⟨A, n, c, E, m, d, D, k, e, h1, h2, h3, h4, h5, h6, h7⟩, hz⟩ := h
 exact ⟨⟨A, n, c, E, m, d, D, k, e, h1, h2.keep k1 k2, h3.keep k3, h4.keep k4, h5, h6, h7⟩, hz⟩
theorem EntsAt.lower {B B' : Nat} {w : World} {A : Option Addr} {n : Nat} {es : List En} (h : EntsAt (some B) w A n es) (hb : B' ≤ B) : EntsAt (some B') w A n es :=
 ⟨h.1, fun hn => by
  obtain ⟨g, off, hA, hg, hm, hc⟩ := h.2 hn
  exact ⟨g, off, hA, hg, hm.mono hb, hc⟩⟩
theorem StAt.lower {B B' : Nat} {w : World} {v : Value} {s : St} (h : StAt (some B) w v s) (hb : B' ≤ B) : StAt (some B') w v s := by
 obtain ⟨⟨A, n, c, E, m, d, D, k, e, h1, h2, h3, h4, h5, h6, h7⟩, hz⟩ := h
 refine ⟨⟨A, n, c, E, m, d, D, k, e, h1, ⟨h2.1, fun hn => ?_⟩, ⟨h3.1, fun hn => ?_⟩, ⟨h4.1, fun hn => ?_⟩, h5, h6, h7⟩, hz⟩
 ·obtain ⟨g, off, hA, hg, hm, hc⟩ := h2.2 hn
  refine ⟨g, off, hA, hg, hm.mono hb, fun j x hx => ?_⟩
  obtain ⟨a1, a2, ⟨B2, m2, c2, a3, a4, a5⟩, a6⟩ := hc j x hx
  exact ⟨a1, a2, ⟨B2, m2, c2, a3, a4, a5.lower hb⟩, a6⟩
 ·obtain ⟨g, off, hA, hg, hm, hc⟩ := h3.2 hn
  exact ⟨g, off, hA, hg, hm.mono hb, hc⟩
 ·obtain ⟨g, off, hA, hg, hm, hc⟩ := h4.2 hn
  exact ⟨g, off, hA, hg, hm.mono hb, hc⟩
theorem may_whole {s : St} (h : mayV s = true) : Whole s.inos := by
 have hm := may_facts h
 refine ⟨?_, fun x hx => (hm.linked x hx).2⟩
 rw [mayV_eq, Bool.and_eq_true, Bool.and_eq_true, Bool.and_eq_true] at h
 obtain ⟨⟨⟨h1, h2⟩, _⟩, _⟩ := h
 have h3 : mMadeV s = true := h1
 have h4 : mInosV s = true := h2
 obtain ⟨f1, f2, f3, x0, f4, f5⟩ := mInos_facts h3 h4
 rw [atV_of_rise f1 f4 f5]
 omega
def MakeSized (s : St) (c : Ca) : Prop :=
 Sized { s with made := s.made.set c.core.toNat (s.made.getD c.core.toNat 0 + 1) } ∧
 Sized { s with made := s.made.set c.core.toNat (s.made.getD c.core.toNat 0 + 1), inos := setEnts s.inos (parentV s.inos c.path).1 fun es => putE es (parentV s.inos c.path).2.1 (2 + c.core + 8 * s.made.getD c.core.toNat 0) } ∧
 Sized (make1V s c).1 ∧ (parentV s.inos c.path).2.1.size ≤ 140737488355328
theorem make1V_names (s : St) (c : Ca) : (make1V s c).2.names = [] := by unfold make1V; split; rfl; split; rfl; split <;> rfl
section
variable (s : St) (c : Ca) (want : Int) (hm : mayV s = true) (hc0 : 0 ≤ c.core) (hc1 : c.core < (s.made.length : Int))
include hm hc0 hc1
end
end Go.Proofs.Ytndcloohcfhejaa
namespace Go.Proofs.Ytndcloohcfhejaa
structure Good (s : St) : Prop where
 m1 : 1 ≤ s.made.length
 m8 : s.made.length ≤ 8
 mr : ∀ m ∈ s.made, 0 ≤ m ∧ m ≤ 32
 root : ∃ x, s.inos[0]? = some x ∧ x.num = 1 ∧ x.dir = true
 rise : s.inos.Pairwise (fun a b => a.num < b.num)
 given : ∀ (i : Nat) (x : Ino), 0 < i → s.inos[i]? = some x → givenV s.made x.num = true
 dirs : ∀ x ∈ s.inos, x.dir = true → x.data.size = 0 ∧ entsV s.inos x.ents = true
 files : ∀ x ∈ s.inos, x.dir = false → x.ents = [] ∧ x.data.size ≤ 256
 opn : opensV s = true
 one : ∀ (i : Nat) (x : Ino), 0 < i → s.inos[i]? = some x → x.dir = true → linkI s.inos x.num = 1 ∧ Reach s.inos i
 has : ∀ (i : Nat) (x : Ino), s.inos[i]? = some x → x.dir = false → Reach s.inos i ∨ openB s.opn x.num = true
theorem madeG_iff : ∀ (l : List Int), madeG l = true ↔ ∀ m ∈ l, 0 ≤ m ∧ m ≤ 32
 | [] => by simp [madeG]
 | x :: xs => by
  unfold madeG
  split
  ·rename_i h
   constructor
   ·intro h2; cases h2
   ·intro h2
    have := h2 x List.mem_cons_self
    omega
  ·rename_i h
   rw [madeG_iff xs]
   constructor
   ·intro h2 m hm
    rcases List.mem_cons.1 hm with rfl | hm
    ·omega
    ·exact h2 m hm
   ·intro h2 m hm
    exact h2 m (List.mem_cons_of_mem _ hm)
theorem shapesM_iff (is : List Ino) : ∀ (xs : List Ino), shapesM is xs = true ↔ ∀ x ∈ xs, (x.dir = true → x.data.size = 0 ∧ entsV is x.ents = true) ∧ (x.dir = false → x.ents = [] ∧ x.data.size ≤ 256)
 | [] => by simp [shapesM]
 | x :: xs => by
  have ih := shapesM_iff is xs
  unfold shapesM
  rw [List.forall_mem_cons, ← ih]
  cases hd : x.dir
  ·rw [if_neg (by decide)]
   split
   ·rename_i h
    constructor
    ·intro h2; cases h2
    ·intro h2
     have := h2.1.2 rfl
     rcases h with h | h
     ·exact absurd this.1 h
     ·omega
   ·rename_i h
    constructor
    ·intro h2
     refine ⟨⟨(fun h => by cases h), fun _ => ⟨?_, ?_⟩⟩, h2⟩
     ·exact Classical.byContradiction fun h3 => h (.inl h3)
     ·exact Nat.le_of_not_lt fun h3 => h (.inr h3)
    ·intro h2; exact h2.2
  ·rw [if_pos rfl]
   split
   ·rename_i h
    constructor
    ·intro h2; cases h2
    ·intro h2
     have := h2.1.1 rfl
     rcases h with h | h
     ·exact absurd this.1 h
     ·rw [this.2] at h; cases h
   ·rename_i h
    constructor
    ·intro h2
     refine ⟨⟨fun _ => ⟨?_, ?_⟩, (fun h => by cases h)⟩, h2⟩
     ·exact Classical.byContradiction fun h3 => h (.inl h3)
     ·cases h4 : entsV is x.ents
      ·exact absurd (.inr h4) h
      ·rfl
    ·intro h2; exact h2.2
theorem numsM_of (made : List Int) : ∀ (xs : List Ino) (p : Int), (∀ x ∈ xs, p < x.num) → xs.Pairwise (fun a b => a.num < b.num) → (∀ x ∈ xs, givenV made x.num = true) → numsM made xs p = true
 | [], _, _, _, _ => rfl
 | x :: xs, p, h1, h2, h3 => by
  rw [List.pairwise_cons] at h2
  have hx := h1 x List.mem_cons_self
  have hg := h3 x List.mem_cons_self
  unfold numsM
  have ih := numsM_of made xs x.num h2.1 h2.2 (fun y hy => h3 y (List.mem_cons_of_mem _ hy))
  simp [ih, hg]
  try omega
theorem good_iff (s : St) : mayV s = true ↔ Good s := by
 have hsplit := inosG_split s s.inos none (reachV s.inos)
 constructor
 ·intro h
  unfold mayV at h
  simp only [Bool.and_eq_true, decide_eq_true_eq] at h
  obtain ⟨⟨⟨⟨⟨⟨h1, h8⟩, hroot⟩, hopn⟩, hmade⟩, hlen⟩, hinos⟩ := h
  rw [hsplit, Bool.and_eq_true, Bool.and_eq_true] at hinos
  obtain ⟨hn, hsh, hfin⟩ := hinos
  obtain ⟨is, op, md⟩ := s
  cases is with
  | nil => simp [rootB] at hroot
  | cons x xs =>
   simp only [rootB, Bool.and_eq_true, decide_eq_true_eq] at hroot
   have hn0 := hn
   rw [numsP_cons, Bool.and_eq_true] at hn
   obtain ⟨p1, p2, p3⟩ := nums_pair _ _ _ hn.2
   have hshape := (shapesM_iff _ _).1 hsh
   have hf := (finalR_iff _ _ _ _).1 hfin
   refine ⟨h1, h8, (madeG_iff _).1 hmade, ⟨x, rfl, hroot.1, hroot.2⟩, ?_, ?_, fun y hy hd => (hshape y hy).1 hd, fun y hy hd => (hshape y hy).2 hd, hopn, ?_, ?_⟩
   ·exact numsP_pair hn0
   ·intro i y hi hy
    cases i with
    | zero => omega
    | succ i => exact p3 y (List.mem_of_getElem? hy)
   ·intro i y hi hy hd
    have := (hf i y hy).1 (.inr hi) hd
    exact ⟨this.1, (reachV_iff _ _).1 this.2⟩
   ·intro i y hy hd
    rcases (hf i y hy).2 hd with h | h
    ·exact .inl ((reachV_iff _ _).1 h)
    ·exact .inr h
 ·intro h
  obtain ⟨is, op, md⟩ := s
  obtain ⟨x0, hx0, hn0, hd0⟩ := h.root
  cases is with
  | nil => simp at hx0
  | cons x xs =>
   have ex : x = x0 := by simpa using hx0
   subst ex
   have hrise := h.rise
   rw [List.pairwise_cons] at hrise
   have hnm : numsM md xs x.num = true := numsM_of md xs x.num hrise.1 hrise.2 (fun y hy => by
    obtain ⟨i, hi⟩ := List.getElem?_of_mem hy
    exact h.given (i + 1) y (by omega) hi)
   have hnp : numsP md none (x :: xs) = true := by
    rw [numsP_cons, hnm]
    simp [badNum]
   have hlen := nums_len md xs x.num ((madeG_iff _).2 h.mr) hnm (by rw [hn0]; decide)
   have hsh : shapesM (x :: xs) (x :: xs) = true := (shapesM_iff _ _).2 fun y hy => ⟨fun hd => h.dirs y hy hd, fun hd => h.files y hy hd⟩
   have hfin : finalR ⟨x :: xs, op, md⟩ (x :: xs) true (reachV (x :: xs)) = true := by
    rw [finalR_iff]
    intro i y hy
    refine ⟨fun hi hd => ?_, fun hd => ?_⟩
    ·have := h.one i y (by rcases hi with hi | hi; cases hi; exact hi) hy hd
     exact ⟨this.1, (reachV_iff _ _).2 this.2⟩
    ·rcases h.has i y hy hd with h3 | h3
     ·exact .inl ((reachV_iff _ _).2 h3)
     ·exact .inr h3
   unfold mayV
   simp only [Bool.and_eq_true, decide_eq_true_eq]
   refine ⟨⟨⟨⟨⟨⟨h.m1, h.m8⟩, ?_⟩, h.opn⟩, (madeG_iff _).2 h.mr⟩, ?_⟩, ?_⟩
   ·simp [rootB, hn0, hd0]
   ·rw [List.length_cons]; omega
   ·rw [hsplit, Bool.and_eq_true, Bool.and_eq_true]
    exact ⟨hnp, hsh, hfin⟩
end Go.Proofs.Ytndcloohcfhejaa
