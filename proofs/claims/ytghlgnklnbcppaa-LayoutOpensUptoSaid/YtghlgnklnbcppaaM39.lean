/- Parts of the proof, side by side: BareP, LaBare, FsDoBad, FsDo2. -/
import Derived.Test.YtghlgnklnbcppaaGdDo
import Derived.Test.YtghlgnklnbcppaaM10
import Derived.Test.YtghlgnklnbcppaaM15
import Derived.Test.YtghlgnklnbcppaaM14
import Derived.Test.YtghlgnklnbcppaaM12
import Derived.Test.YtghlgnklnbcppaaFsDoAny
import Derived.Test.YtghlgnklnbcppaaFsDo
import Derived.Test.YtghlgnklnbcppaaM26
set_option linter.unusedVariables false
set_option linter.unusedSimpArgs false
set_option linter.unusedVariables false
set_option linter.unusedSimpArgs false
namespace Go.Proofs.Ytghlgnklnbcppaa
def bareV (s : St) : St := ⟨keptV s, [], s.made⟩
theorem mem_kept {s : St} {x : Ino} : x ∈ keptV s ↔ x ∈ s.inos ∧ (x.dir = true ∨ linkI s.inos x.num ≠ 0) := by
 unfold keptV
 rw [List.mem_filter]
 simp
theorem linkI_filter (p : Ino → Bool) : ∀ (is : List Ino), (∀ x ∈ is, p x = false → x.dir = false) → ∀ n, linkI (is.filter p) n = linkI is n
 | [], _, n => rfl
 | x :: xs, h, n => by
  have ih := linkI_filter p xs (fun y hy => h y (by simp [hy])) n
  cases hp : p x
  ·rw [List.filter_cons_of_neg (by rw [hp]; decide)]
   show _ = (if x.dir then linkE x.ents n else 0) + linkI xs n
   rw [h x (by simp) hp, ih]
   simp
  ·rw [List.filter_cons_of_pos hp]
   show (if x.dir then linkE x.ents n else 0) + linkI (xs.filter p) n = (if x.dir then linkE x.ents n else 0) + linkI xs n
   rw [ih]
theorem linkI_kept (s : St) (n : Int) : linkI (keptV s) n = linkI s.inos n :=
 linkI_filter _ _ (fun x _ h => by cases hd : x.dir with | false => rfl | true => rw [hd] at h; cases h) n
theorem kept_kept (s : St) : keptV (bareV s) = keptV s := by
 show (keptV s).filter (fun x => x.dir || decide (linkI (keptV s) x.num ≠ 0)) = keptV s
 rw [List.filter_eq_self]
 intro x hx
 rw [linkI_kept]
 exact (List.mem_filter.1 hx).2
theorem put_bare (s : St) : putL (bareV s) = putL s := by
 unfold putL
 rw [kept_kept]
 rfl
theorem rn_kept {s : St} {n : Int} (h : Rn s.inos n) : Rn (keptV s) n := by
 induction h with
 | root => exact .root
 | step hrn hx hd he ih => exact Rn.step ih (mem_kept.2 ⟨hx, .inl hd⟩) hd he
theorem good_bare {s : St} (h : Good s) : Good (bareV s) := by
 obtain ⟨f, g⟩ := h.frm
 refine Frm.good ⟨f.m1, f.m8, f.mr, riseI_iff.2 ((riseI_iff.1 f.rise).sublist (List.filter_sublist)), ?_, ?_, ?_, ?_, ?_, ?_⟩ ⟨?_, ?_⟩
 ·obtain ⟨r, hr, h2, h3⟩ := f.root
  exact ⟨r, mem_kept.2 ⟨hr, .inl h3⟩, h2, h3⟩
 ·intro z hz hn
  exact f.given z (mem_kept.1 hz).1 hn
 ·intro z hz hzd
  have hz2 := (mem_kept.1 hz).1
  refine ⟨(f.dirs z hz2 hzd).1, (f.dirs z hz2 hzd).2.to fun e he => ?_⟩
  rintro ⟨y, hy, hyn⟩
  refine ⟨y, mem_kept.2 ⟨hy, .inr (fun h0 => ?_)⟩, hyn⟩
  exact (linkI_zero _ _).1 h0 z hz2 hzd e he hyn.symm
 ·intro z hz hzd
  exact f.files z (mem_kept.1 hz).1 hzd
 ·intro d hd
  cases hd
 ·intro i j x y hij hx hy
  cases hx
 ·intro z hz hz1 hzd
  obtain ⟨a1, a2⟩ := g.one z (mem_kept.1 hz).1 hz1 hzd
  exact ⟨(linkI_kept s z.num).trans a1, rn_kept a2⟩
 ·intro z hz hzd
  obtain ⟨hz2, h0⟩ := mem_kept.1 hz
  have h1 : linkI s.inos z.num ≠ 0 := by
   rcases h0 with h0 | h0
   ·rw [hzd] at h0; cases h0
   ·exact h0
  obtain ⟨k, y, e, hy, hyd, he, hen⟩ := linkI_pos s.inos z.num (by omega)
  have hym := List.mem_of_getElem? hy
  have hry : Rn s.inos y.num := by
   by_cases h9 : y.num = 1
   ·rw [h9]; exact .root
   ·exact (g.one y hym h9 hyd).2
  have := rn_kept (Rn.step hry hym hyd he)
  rw [hen] at this
  exact .inl this
theorem may_bare {s : St} (h : mayV s = true) : mayV (bareV s) = true := (good_iff _).2 (good_bare ((good_iff _).1 h))
theorem put_open (s : St) (c : Ca) (hk : c.kind = 2) : putL (doV s c).1 = putL s := by
 have h : ∀ want, putL (doF s c want).1 = putL s := fun want => by
  unfold doF openedV
  repeat' (first | rfl | (exfalso; omega) | split)
 exact h (-1)
end Go.Proofs.Ytghlgnklnbcppaa

set_option linter.unusedVariables false
set_option linter.unusedSimpArgs false
namespace Go.Proofs.Ytghlgnklnbcppaa
open Go.RowKit
theorem boxS (w : World) (a b c : Value) : ∃ V, w.alloc (.cells #[a, b, c] 26) = V ∧ V.heap.size = w.heap.size + 1 ∧ OutAt V w.heap.size a b c ∧ Below w.heap.size w V :=
 ⟨_, rfl, by simp, heap_alloc_new w _, (Below.refl _ _).alloc (Nat.le_refl _) _⟩
theorem OutAt.go {w w' : World} {p : Nat} {a b c : Value} (h : OutAt w p a b c) (hb : Below w.heap.size w w') : OutAt w' p a b c := (hb.block p (Array.getElem?_eq_some_iff.1 h).1).trans h
theorem RowAt.go {B : Nat} {w w' : World} {e : TypeId} {k : Nat} {v : Value} {n : Nat} {xs : List Value} (h : RowAt B w e k v n xs) (hb : Below w.heap.size w w') : RowAt B w' e k v n xs := h.kept (r := none) (rw_none hb) (fun b _ => by simp)
theorem take_filter {α : Type} (f : α → Bool) {l : List α} {q : Nat} {x : α} (h : l[q]? = some x) : (l.take (q + 1)).filter f = (l.take q).filter f ++ if f x then [x] else [] := by
 rw [List.take_add_one, h, List.filter_append]
 cases hf : f x <;> simp [hf]
theorem bulkE_filter (p : Ino → Bool) : ∀ l : List Ino, bulkE (l.filter p) ≤ bulkE l
 | [] => by simp
 | x :: l => by
  have ih := bulkE_filter p l
  have h0 : bulkE (x :: l) = x.ents.length + bulkE l := rfl
  cases h : p x
  ·rw [List.filter_cons_of_neg (by rw [h]; decide)]
   omega
  ·rw [List.filter_cons_of_pos h]
   have h1 : bulkE (x :: l.filter p) = x.ents.length + bulkE (l.filter p) := rfl
   omega
theorem sized_bare {s : St} (h : Sized s) : Sized (bareV s) := by
 have h1 := bulkE_filter (stays s) s.inos
 have h2 := List.length_filter_le (stays s) s.inos
 have h3 := h.big
 refine ⟨?_, fun x hx => h.text x (List.mem_filter.1 hx).1, ⟨fun x hx => h.nums.1 x (List.mem_filter.1 hx).1, h.nums.2⟩⟩
 show (s.inos.filter (stays s)).length + bulkE (s.inos.filter (stays s)) + 0 + s.made.length ≤ _
 omega
theorem RowAt.keepL {B : Nat} {w w' : World} {e : TypeId} {k : Nat} {v : Value} {n : Nat} {xs : List Value} (h : RowAt B w e k v n xs) (hk : KeepT e w w') : RowAt B w' e k v n xs := by
 refine ⟨h.1, ?_⟩
 rcases h.2 with h0 | ⟨g, cap, cur, rfl, hc, hB, hg, rest⟩
 ·exact .inl h0
 ·exact .inr ⟨g, cap, cur, rfl, hc, hB, (hk.same g cur hg).trans hg, rest⟩
set_option maxRecDepth 100000 in
set_option maxHeartbeats 8000000 in
theorem bare_any (v : Value) (s : St) (w : World) (h : StAt none w v s) :
  Calls Try.prog 12 #[v] w fun e w' => ∃ v', e = .returned v' ∧ StAt none w' v' (bareV s) ∧ Below w.heap.size w w' := by
 obtain ⟨⟨A, n, c, B, m, d, D, k, e, rfl, hI, hD, hM, h5, h6, h7⟩, hz⟩ := h
 have hbig := hz.big
 have hn := hI.1
 have hn2 : n ≤ 1099511627776 := by omega
 obtain ⟨W, hW, hzW, hoW, hal⟩ := boxS w (.slice A n c) (.slice B m d) (.slice D k e)
 obtain ⟨W1, hW1, hzW1, hoW1, hal1⟩ := boxS W (.slice none 0 0) (.slice none 0 0) (.slice none 0 0)
 have hb01 := Cv.next hal hal1
 have hst1 : StAt none W1 (.agg #[.slice A n c, .slice B m d, .slice D k e]) s := ⟨⟨A, n, c, B, m, d, D, k, e, rfl, hI.below hb01, hD.below hb01, hM.below hb01, h5, h6, h7⟩, hz⟩
 have HI := Lib.hid hI
 have HST := Lib.hid hst1
 have HO := Lib.hid (hoW.go hal1)
 have HO1 := Lib.hid hoW1
 have HB := Lib.hid hb01
 have HN := Lib.hid hn
 have HZ := Lib.hid hz
 obtain ⟨b0, b1, b2, _⟩ := HO.out.get
 clear hI hD hM h5 h6 h7 hz hst1 hoW hoW1 hal hal1 hb01 hbig hn
 go_enter Try.func12, Try.ntmps12
 go_wp2_with fail
 refine (copy_any _ s W1 HST.out).mono ?_
 rintro e2 x2 ⟨v', rfl, hst2, hb2⟩
 obtain ⟨A2, n2, c2, B2, m2, d2, D2, k2, e2, rfl, _, _, hM2, _, _, hok2⟩ := hst2.at_
 obtain ⟨V, hV, hzV, hoV, halV⟩ := boxS x2 (.slice A2 n2 c2) (.slice B2 m2 d2) (.slice D2 k2 e2)
 obtain ⟨P, hP⟩ : ∃ P, x2.heap.size = P := ⟨_, rfl⟩
 rw [hP] at hoV hzV
 have hoS1 : OutAt (V.setCell ⟨P, 1, none⟩ (.slice none 0 0)) P (.slice A2 n2 c2) (.slice none 0 0) (.slice D2 k2 e2) := heap_setCell_same V P 1 _ _ _ hoV
 have hoS : OutAt ((V.setCell ⟨P, 1, none⟩ (.slice none 0 0)).setCell ⟨P, 0, none⟩ (.slice none 0 0)) P (.slice none 0 0) (.slice none 0 0) (.slice D2 k2 e2) := heap_setCell_same _ P 0 _ _ _ hoS1
 obtain ⟨S, hS⟩ : ∃ S, (V.setCell ⟨P, 1, none⟩ (.slice none 0 0)).setCell ⟨P, 0, none⟩ (.slice none 0 0) = S := ⟨_, rfl⟩
 have hbS : Below P x2 S := by rw [← hS]; exact ((show Below P x2 V by rw [← hP]; exact halV).setCell (Nat.le_refl _) _).setCell (Nat.le_refl _) _
 rw [hS] at hoS
 have hb2' : Below W1.heap.size W1 x2 := hb2
 have hbs : Below W1.heap.size W1 S := hb2'.trans (hbS.mono (by rw [← hP]; exact hb2'.size))
 have hzS : S.heap.size = P + 1 := by rw [← hS]; simp [World.setCell, hzV]
 have hW1P : W1.heap.size ≤ P := by rw [← hP]; exact hb2'.size
 have HM2 := Lib.hid hM2
 have HXS := Lib.hid (show Below x2.heap.size x2 S by rw [hP]; exact hbS)
 have HOK2 := Lib.hid hok2
 have HOS := Lib.hid hoS
 have HBS := Lib.hid hbs
 obtain ⟨g0, g1, g2, gf⟩ := hoV.get
 obtain ⟨s0, s1, s2, sf⟩ := hoS1.get
 obtain ⟨ii, hi, hz0, hz1, hz2⟩ := info_parts infoIno
 clear hst2 hM2 hok2 hb2 hb2' halV hoV hoS1 hoS hbS hbs
 go_wp2_with fail
 go_loopw [4] (fun j wr => ∃ (q : Nat) (U : Value) (zs : List (Ino × Value)), j = .int .i64 q ∧ q ≤ n ∧ Below P S wr ∧ P + 1 ≤ wr.heap.size ∧ OutAt wr P U (.slice none 0 0) (.slice D2 k2 e2) ∧ RowAt (P + 1) wr 72 4 U zs.length (zs.flatMap inoV) ∧ zs.map Prod.fst = (s.inos.take q).filter (stays s) ∧ ∀ z ∈ zs, ∃ A m c, z.2 = .slice A m c ∧ SlOk A m c ∧ EntsAt none w A m z.1.ents) (fun j _ => n - (intOf j).toNat)
 case atStart => exact ⟨0, _, [], rfl, by omega, Below.refl _ _, by omega, HOS.out, ⟨rfl, .inl ⟨none, rfl, rfl⟩⟩, rfl, by simp⟩
 case round =>
  obtain ⟨q, U, zs, rfl, hq, hbel, hsz, hout, hrow, htk, hents⟩ := hrel
  have hbw : Below W1.heap.size W1 wr := HBS.out.trans (hbel.mono hW1P)
  have HBEL := Lib.hid hbel
  have HBW := Lib.hid hbw
  have HOUT := Lib.hid hout
  have HROW := Lib.hid hrow
  have HTK := Lib.hid htk
  have HENTS := Lib.hid hents
  have HSTr := Lib.hid (HST.out.below hbw)
  have HBV := Lib.hid (Cv.next HB.out hbw)
  obtain ⟨y0, y1, y2, _⟩ := (HO.out.go hbw).get
  clear hbel hbw hout hrow htk hents
  by_cases hlt : q < n
  ·obtain ⟨g, off, x, E, m3, d3, rfl, hg, hx, hd, hmem, c0', c1', c2', hmd, hE, c3'⟩ := HI.out.get q hlt
   have c0 := (HBV.out.cell (p := ⟨g, _, none⟩) hg).trans c0'
   have c1 := (HBV.out.cell (p := ⟨g, _, none⟩) hg).trans c1'
   have c2 := (HBV.out.cell (p := ⟨g, _, none⟩) hg).trans c2'
   have c3 := (HBV.out.cell (p := ⟨g, _, none⟩) hg).trans c3'
   have k0 : (0 : Int) ≤ (q : Int) := by omega
   have k1 : (q : Int) < (n : Int) := by omega
   have htf := take_filter (stays s) hx
   have HTF := Lib.hid htf
   have HMD := Lib.hid hmd
   have HE := Lib.hid hE
   clear hx hd hmem hmd hE htf c0' c1' c2' c3'
   go_wp2_with fail
   refine wp_region_quiet_tail 6 (by kernel_rfl) (by kernel_rfl) ?_
   simp only [List.take_succ_cons, List.take_zero, List.drop_succ_cons, List.drop_zero]
   repeat (go_big_quiet_step (fail))
   refine wpQuiet_nil ?_
   go_wp2_with fail
   refine (kept_any _ s x E m3 d3 wr.drew (HSTr.out.below (Cv.drewN_below (Below.refl _ _) 1))).mono ?_
   rintro e5 w5 ⟨rfl, hb5⟩
   have hb5' : Below wr.heap.size wr w5 := Cv.next (Cv.drewN_below (Below.refl _ _) 1) hb5
   have HB5 := Lib.hid hb5'
   have hs5 := hb5'.size
   clear hb5 hb5'
   have hPw : P ≤ wr.heap.size := by omega
   have hB6 := HBEL.out.trans (HB5.out.mono hPw)
   have HB6 := Lib.hid hB6
   have hzl : zs.length ≤ q := by
    have h1 := congrArg List.length HTK.out
    have h2 := List.length_filter_le (stays s) (s.inos.take q)
    rw [List.length_map] at h1
    rw [List.length_take] at h2
    omega
   obtain ⟨bb, hbb⟩ : ∃ bb, stays s x = bb := ⟨_, rfl⟩
   have htf := HTF.out
   rw [hbb] at htf ⊢
   have HTF2 := Lib.hid htf
   clear hB6 hbb htf
   cases bb
   ·go_wp2_with fail
    go_roundw
    case rel => exact ⟨q + 1, U, zs, by go_num, by omega, HB6.out, by omega, HOUT.out.go HB5.out, HROW.out.go HB5.out, by rw [HTK.out, HTF2.out]; simp, HENTS.out⟩
    case measure => simp [intOf]; omega
   ·obtain ⟨A9, cp9, rfl, _⟩ := HROW.out.slice
    have hO5 := HOUT.out.go HB5.out
    obtain ⟨p0, p1, p2, pf⟩ := hO5.get
    obtain ⟨z0, z1, z2, _⟩ := ((HO.out.go HBW.out).go HB5.out).get
    have hgw : g < wr.heap.size := Nat.lt_of_lt_of_le hg HBV.out.size
    have d0 := (HB5.out.cell (p := ⟨g, _, none⟩) hgw).trans c0
    have d1 := (HB5.out.cell (p := ⟨g, _, none⟩) hgw).trans c1
    have d2 := (HB5.out.cell (p := ⟨g, _, none⟩) hgw).trans c2
    have d3' := (HB5.out.cell (p := ⟨g, _, none⟩) hgw).trans c3
    obtain ⟨W6, hW6⟩ : ∃ W6, w5.drew.alloc (.cells #[.int .i64 x.num, .bool x.dir, .slice E m3 d3, .string x.data] 72) = W6 := ⟨_, rfl⟩
    have h56 : Below w5.heap.size w5 W6 := by rw [← hW6]; exact (Cv.drewN_below (Below.refl _ _) 1).alloc (Nat.le_refl _) _
    have hz6 : W6.heap.size = w5.heap.size + 1 := by rw [← hW6]; simp
    have hnb : W6.heap[w5.heap.size]? = some (.cells #[.int .i64 x.num, .bool x.dir, .slice E m3 d3, .string x.data] 72 (0, 0)) := by rw [← hW6]; exact Go.heap_alloc_new w5.drew _
    have hrow6 := (HROW.out.go HB5.out).go h56
    obtain ⟨v', w7, happ, hrow7, hgr, hbl⟩ := row_append (P := Try.prog) hrow6 (by omega) 22 Try.underlying22 ii hi _ hz0 hz1 rfl (by rw [hz2]; omega) (by omega) ⟨w5.heap.size, 0, none⟩ [.int .i64 x.num, .bool x.dir, .slice E m3 d3, .string x.data] rfl (row_cells hnb 0 _ (fun j u hj => by
     rw [Nat.zero_add]
     match j, hj with
     | 0, hj => simpa using hj
     | 1, hj => simpa using hj
     | 2, hj => simpa using hj
     | 3, hj => simpa using hj)) (by intro u hu; simp at hu; rcases hu with rfl | rfl | rfl | rfl <;> rfl) 1
    obtain ⟨A8, cp8, rfl, _⟩ := hrow7.slice
    have hnP : some P ≠ rowBlk (.slice A9 zs.length cp9) := fun h9 => by
     obtain ⟨h1, _, _⟩ := hrow6.blk P h9.symm
     omega
    have hO7 : OutAt w7 P (.slice A9 zs.length cp9) (.slice none 0 0) (.slice D2 k2 e2) := (hgr.block P (by omega) hnP).trans (hO5.go h56)
    obtain ⟨q0, q1, q2, qf⟩ := hO7.get
    have hb7 : Below P S w7 := (HB6.out.trans (h56.mono (by omega))).trans (rw_below hgr (by omega) (fun b hb => by have := (hrow6.blk b hb).1; omega))
    have hs7 : P + 1 ≤ w7.heap.size := by have := hgr.size; omega
    have hflat : zs.flatMap inoV ++ [.int .i64 x.num, .bool x.dir, .slice E m3 d3, .string x.data] = (zs ++ [((x, Value.slice E m3 d3) : Ino × Value)]).flatMap inoV := by rw [List.flatMap_append]; rfl
    rw [hflat] at hrow7
    have hO8 : OutAt (w7.setCell ⟨P, 0, none⟩ (Value.slice A8 (zs.length + 1) cp8)) P (Value.slice A8 (zs.length + 1) cp8) (.slice none 0 0) (.slice D2 k2 e2) := heap_setCell_same w7 P 0 _ _ _ hO7
    have hb8 : Below P S (w7.setCell ⟨P, 0, none⟩ (Value.slice A8 (zs.length + 1) cp8)) := hb7.setCell (Nat.le_refl _) _
    have hrow8 : RowAt (P + 1) (w7.setCell ⟨P, 0, none⟩ (Value.slice A8 (zs.length + 1) cp8)) 72 4 (Value.slice A8 (zs.length + 1) cp8) (zs.length + 1) ((zs ++ [((x, Value.slice E m3 d3) : Ino × Value)]).flatMap inoV) := hrow7.kept grown_set (fun b hb h9 => by
     obtain ⟨h1, _, _⟩ := hrow7.blk b hb
     injection h9 with h9
     omega)
    have hs8 : P + 1 ≤ (w7.setCell ⟨P, 0, none⟩ (Value.slice A8 (zs.length + 1) cp8)).heap.size := by simpa [World.setCell] using hs7
    have qf0 := qf 0
    have p0a := (hO5.go h56).get.1
    rw [← hW6] at happ p0a
    have hPne : P ≠ w5.heap.size := by omega
    have hPlt : P < w5.heap.size := by omega
    have HAP := Lib.hid happ
    have HO8 := Lib.hid hO8
    have HB8 := Lib.hid hb8
    have HR8 := Lib.hid hrow8
    have HS8 := Lib.hid hs8
    clear happ hO8 hb8 hrow8 hs8 hrow7 hrow6 hgr hbl hnb h56 hz6 hO5 hO7 hb7 hs7 hflat hnP hW6
    go_wp2_with fail
    go_region_law (refine step_append_runI rfl (.tmp 24) (.tmp 30) 22 rfl (.slice A9 zs.length cp9) (.slice (some ⟨w5.heap.size, 0, none⟩) 1 1) (by simp [Act.eval, Act.put]) (by simp [Act.eval, Act.put]) (HAP.out 22) ?_)
    all_goals (
     go_wp2_with fail
     go_roundw
     case rel => exact ⟨q + 1, _, zs ++ [((x, Value.slice E m3 d3) : Ino × Value)], by go_num, by omega, HB8.out, HS8.out, HO8.out, by rw [List.length_append]; exact HR8.out, by rw [List.map_append, HTK.out, HTF2.out]; simp, fun z hz => by
      rcases List.mem_append.1 hz with h | h
      ·exact HENTS.out z h
      ·have : z = ((x, Value.slice E m3 d3) : Ino × Value) := by simpa using h
       subst this
       exact ⟨E, m3, d3, rfl, HMD.out, HE.out⟩⟩
     case measure => simp [intOf]; omega)
  ·have q9 : decide ((q : Int) < (n : Int)) = false := by rw [decide_eq_false_iff_not]; omega
   have hqn : s.inos.length ≤ q := by have := HN.out; omega
   have hks : zs.map Prod.fst = keptV s := by rw [HTK.out, List.take_of_length_le hqn]; rfl
   obtain ⟨A9, cp9, rfl, hok9⟩ := HROW.out.slice
   obtain ⟨p0, p1, p2, _⟩ := HOUT.out.get
   have hR := HO1.out.go HBW.out
   rw [hzW] at hR
   obtain ⟨r0, r1, r2, rf⟩ := hR.get
   have rf0 := rf 0
   have rf1 := rf 1
   have rf2 := rf 2
   obtain ⟨W9, hW9, hR9, kC, hbC⟩ := hR.three (.slice A9 zs.length cp9) (.slice none 0 0) (.slice D2 k2 e2)
   have hb9 : Below w.heap.size w W9 := hbC _ _ (by omega) (Cv.next HB.out HBW.out)
   have hi : InosAt none W9 A9 zs.length (keptV s) := by
    have hrI := HROW.out.keepL (kC _ (by decide))
    have hl : (keptV s).length = zs.length := by rw [← hks, List.length_map]
    refine ⟨hl, fun h0 => ?_⟩
    obtain ⟨g, c', cur, hv', _, _, hlt9, _, _, hc⟩ := hrI.open_ h0
    injection hv' with e1 _ _
    refine ⟨g, 0, e1, hlt9, Mine.any _ _ _, fun j x hx => ?_⟩
    rw [← hks, List.getElem?_map] at hx
    obtain ⟨z, hz, rfl⟩ := Option.map_eq_some_iff.1 hx
    have f := flat_get inoV 4 (fun x => rfl) zs j z hz
    obtain ⟨E, m, c3, he, hmd, hE⟩ := HENTS.out z (List.mem_of_getElem? hz)
    rw [Nat.zero_add]
    refine ⟨hc _ _ (f 0 (by omega)), hc _ _ (f 1 (by omega)), ⟨E, m, c3, ?_, hmd, hE.below hb9⟩, hc _ _ (f 3 (by omega))⟩
    rw [← he]
    exact hc _ _ (f 2 (by omega))
   have hS9 : Sized (bareV s) := sized_bare HZ.out
   have hM9 : IntsAt none W9 D2 k2 s.made := ((HM2.out.below (w' := wr) (HXS.out.trans (HBEL.out.mono (by omega)))).keep (kC _ (by decide))).weak
   have HF := Lib.hid (show StAt none W9 (.agg #[.slice A9 zs.length cp9, .slice none 0 0, .slice D2 k2 e2]) (bareV s) from ⟨⟨A9, zs.length, cp9, none, 0, 0, D2, k2, e2, rfl, hi, ⟨rfl, fun h => absurd h (by omega)⟩, hM9, hok9, ⟨by omega, fun _ => rfl⟩, HOK2.out⟩, hS9⟩)
   have HB9 := Lib.hid hb9
   clear hi hS9 hM9 hb9 hks hqn hok9 hbC kC
   have HR9 := Lib.hid hR9
   clear hR9
   go_wp2_with fail
   (try simp only [Exit.inBlock, Exit.then])
   refine bodyPost_ret (results_cell_row rfl _ _ (w.heap.size + 1) 26 _ (0, 0) _ rfl HR9.out Try.underlying26 rfl (by kernel_rfl)) rfl ?_
   exact ⟨_, rfl, HF.out, HB9.out⟩
end Go.Proofs.Ytghlgnklnbcppaa

set_option linter.unusedVariables false
set_option linter.unusedSimpArgs false
namespace Go.Proofs.Ytghlgnklnbcppaa
open Go.RowKit
set_option maxRecDepth 100000 in
set_option maxHeartbeats 16000000 in
theorem do_bad (v : Value) (s : St) (c : Ca) (want : Int) (w : World) (h : StAt none w v s) (hbad : mayV s = false ∨ c.core < 0 ∨ (s.made.length : Int) ≤ c.core ∨ c.kind < 0 ∨ 16 < c.kind) :
  Calls Try.prog 33 #[v, caV c, .int .i64 want] w fun e w' => ∃ v' rv, e = .returned (.tuple #[v', rv, .bool true]) ∧ StAt (some w.heap.size) w' v' s ∧ ResIs (some w.heap.size) w' rv { code := 9 } ∧ Below w.heap.size w w' := by
 obtain ⟨A, n, cp, E, m, d, D, k, e, rfl, _, _, hM, _⟩ := h.at_
 have hkl : s.made.length = k := hM.1
 obtain ⟨W, W2, W3, W4, hW, hW2, hW3, hW4, hs1, hs2, hs3, hdk⟩ := Dk.start h c
 obtain ⟨x0, x1, x2, k0, k1, _⟩ := hdk.vals
 have HD := Lib.hid hdk
 obtain ⟨MV, hMV⟩ : ∃ MV, mayV s = MV := ⟨_, rfl⟩
 have HM := Lib.hid hMV
 rw [hMV, hkl] at hbad
 have hcase : MV = false ∨ (MV = true ∧ decide (c.core < 0) = true) ∨ (MV = true ∧ decide (c.core < 0) = false ∧ decide ((k : Int) ≤ c.core) = true) ∨ (MV = true ∧ decide (c.core < 0) = false ∧ decide ((k : Int) ≤ c.core) = false ∧ decide (c.kind < 0) = true) ∨ (MV = true ∧ decide (c.core < 0) = false ∧ decide ((k : Int) ≤ c.core) = false ∧ decide (c.kind < 0) = false ∧ decide ((16 : Int) < c.kind) = true) := by
  simp only [decide_eq_true_eq, decide_eq_false_iff_not]
  cases MV
  ·exact .inl rfl
  ·rcases hbad with h | h | h | h | h
   ·cases h
   all_goals (right; simp only [true_and]; omega)
 have hsz := hdk.size
 clear hM hdk hMV h hbad
 unfold caV
 rcases hcase with hmv | ⟨hmv, g1⟩ | ⟨hmv, g1, g2⟩ | ⟨hmv, g1, g2, g3⟩ | ⟨hmv, g1, g2, g3, g4⟩
 all_goals
  subst hmv
  go_enter Try.func33, Try.ntmps33
  go_wp2_with fail
  clear hW hW2 hW3 hW4
  refine (may_doc _ s W4 HD.out.st).mono ?_
  rintro e5 w5 ⟨rfl, hb5⟩
  rw [HM.out]
  have HD5 := Lib.hid (HD.out.below hb5)
  have hsz5 := HD5.out.size
  clear hb5 x0 x1 x2 k0 k1
  obtain ⟨x0, x1, x2, k0, k1, _⟩ := HD5.out.vals
  go_wp2_with fail
  refine (copy_any _ s w5 HD5.out.st).mono ?_
  rintro e6 w6 ⟨v6, rfl, hst6, hb6⟩
  obtain ⟨A6, n6, c6, E6, m6, d6, D6, k6, e6, rfl, _⟩ := hst6.at_
  have HD6 := Lib.hid (HD5.out.below hb6)
  have HST6 := Lib.hid hst6
  clear hst6 hb6 x0 x1 x2 k0 k1
  go_wp2_with fail
  refine (fail_any 9 _).mono ?_
  rintro e7 w7 ⟨rfl, hb7⟩
  have HD7 := Lib.hid (HD6.out.below hb7)
  have HST7 := Lib.hid (HST6.out.below hb7)
  obtain ⟨t0, t1, t2, uf⟩ := HD7.out.outS.get
  obtain ⟨v0, v1, v2, v3, v4, v5, vf⟩ := HD7.out.outR.get
  obtain ⟨U5, hU5, ho5, k5, b5⟩ := HD7.out.outS.three (.slice A6 n6 c6) (.slice E6 m6 d6) (.slice D6 k6 e6)
  have hr5 : ResAt U5 (w.heap.size + 3) _ _ _ _ _ _ := ((k5 _ (by decide)).same (w.heap.size + 3) _ HD7.out.outR).trans HD7.out.outR
  obtain ⟨z0, z1, z2, z3, z4, z5, zf⟩ := hr5.get
  obtain ⟨U6, hU6, hr6, k6', b6, a6, s6⟩ := hr5.six (.int .i64 9) (.int .i64 0) (.int .i64 0) (.bool false) (.string ⟨#[]⟩) (.slice none 0 0)
  have ho6 : OutAt U6 (w.heap.size + 2) _ _ _ := (a6 (w.heap.size + 2) (by omega)).trans ho5
  have hst8 := (HST7.out.keep3 (k5 _ (by decide)) (k5 _ (by decide)) (k5 _ (by decide)) (k5 _ (by decide))).keep3 (k6' _ (by decide)) (k6' _ (by decide)) (k6' _ (by decide)) (k6' _ (by decide))
  have hbf := b6 w.heap.size w (by omega) (b5 w.heap.size w (by omega) HD7.out.bel)
  have HO6f := Lib.hid ho6
  have HR6f := Lib.hid hr6
  have HSTf := Lib.hid (hst8.lower (B' := w.heap.size) (by omega))
  have HBF := Lib.hid hbf
  clear hb7 ho5 k5 b5 hr5 hr6 k6' b6 a6 s6 ho6 hst8 hbf
  go_wp2_with fail
  (try simp only [Exit.inBlock, Exit.then])
  refine bodyPost_ret (v := .tuple #[.agg #[.slice A6 n6 c6, .slice E6 m6 d6, .slice D6 k6 e6], .agg #[.int .i64 9, .int .i64 0, .int .i64 0, .bool false, .string ⟨#[]⟩, .slice none 0 0], .bool true]) ?_ rfl ?_
  ·rw [results_cells_tmp rfl]
   have hl1 := run_loadVar_row (P := Try.prog) U6 (w.heap.size + 2) _ 26 _ (0, 0) _ HO6f.out Try.underlying26 rfl (by kernel_rfl)
   have hl2 := run_loadVar_row (P := Try.prog) U6 (w.heap.size + 3) _ 37 _ (0, 0) _ HR6f.out Try.underlying37 rfl (by kernel_rfl)
   simp [asAddr, hl1, hl2, Result.andThen]
  ·exact ⟨_, _, rfl, HSTf.out, ResIs.of_resV _ _ { code := 9 } rfl, HBF.out⟩
theorem do_any (v : Value) (s : St) (c : Ca) (want : Int) (w : World) (h : StAt none w v s) (hok : mayV s = true → 0 ≤ c.core → c.core < (s.made.length : Int) → 0 ≤ c.kind → c.kind ≤ 16 → DoOk s c want) :
  Calls Try.prog 33 #[v, caV c, .int .i64 want] w fun e w' => ∃ v' rv, e = .returned (.tuple #[v', rv, .bool (doF s c want).2.2]) ∧ StAt (some w.heap.size) w' v' (doF s c want).1 ∧ ResIs (some w.heap.size) w' rv (doF s c want).2.1 ∧ Below w.heap.size w w' := by
 by_cases hb : mayV s = false ∨ c.core < 0 ∨ (s.made.length : Int) ≤ c.core ∨ c.kind < 0 ∨ 16 < c.kind
 ·have e : doF s c want = (s, { code := 9 }, true) := by unfold doF; rw [if_pos hb]
  rw [e]
  exact do_bad v s c want w h hb
 ·have h1 : mayV s = true := by cases hm : mayV s; exact absurd (.inl hm) hb; rfl
  have h2 : 0 ≤ c.core := by omega
  have h3 : c.core < (s.made.length : Int) := by omega
  have h4 : 0 ≤ c.kind := by omega
  have h5 : c.kind ≤ 16 := by omega
  exact do_any0 v s c want w h h1 h2 h3 h4 h5 (hok h1 h2 h3 h4 h5)
end Go.Proofs.Ytghlgnklnbcppaa

set_option linter.unusedVariables false
set_option linter.unusedSimpArgs false
namespace Go.Proofs.Ytghlgnklnbcppaa
open Go.RowKit
theorem results_cells {fn : Func} {p q : Tmp} {ty tz : TypeId} (h : fn.results = #[.cell p ty, .cell q tz]) (tmps : Array Value) (P : Program) (w : World) :
  (results fn tmps).run P w =
   ((asAddr (tmps.getD p undef)).run P w).andThen fun a w₁ => ((loadVar ty a).run P w₁).andThen fun v w₂ => ((asAddr (tmps.getD q undef)).run P w₂).andThen fun b w₃ => ((loadVar tz b).run P w₃).andThen fun z w₄ => .ok (.tuple #[v, z]) w₄ := by
 simp only [results, h]
 simp [Sem.run_bind, Result.andThen]
set_option maxRecDepth 100000 in
set_option maxHeartbeats 2000000 in
theorem Do_of (v : Value) (s : St) (c : Ca) (s' : St) (r : Re) (w : World) (h : StAt none w v s)
  (hd : ∀ u, StAt none u v s → Calls Try.prog 33 #[v, caV c, .int .i64 (-1)] u fun e w' => ∃ v', e = .returned (.tuple #[v', resV r, .bool true]) ∧ StAt (some u.heap.size) w' v' s' ∧ Below u.heap.size u w') :
  Calls Try.prog 10 #[v, caV c] w fun e w' => ∃ v', e = .returned (.tuple #[v', resV r]) ∧ StAt (some w.heap.size) w' v' s' ∧ Below w.heap.size w w' := by
 obtain ⟨⟨A, n, cp, Bz, m, d, D, k, e, rfl, hI, hD, hM, h5, h6, h7⟩, hz⟩ := h
 obtain ⟨W, hW, b0, b1, b2, hal, hlt0⟩ := box_st w A n cp Bz m d D k e
 obtain ⟨W2, hW2, hbc, hal2, hsz2⟩ := box_ca W c
 obtain ⟨W3, hW3⟩ : ∃ W3, W2.alloc (.cells #[.slice none 0 0, .slice none 0 0, .slice none 0 0] 26) = W3 := ⟨_, rfl⟩
 have hal3 : Below W2.heap.size W2 W3 := by rw [← hW3]; exact (Below.refl _ _).alloc (Nat.le_refl _) _
 have hsz3 : W3.heap.size = W2.heap.size + 1 := by rw [← hW3]; simp
 have ho3 : OutAt W3 W2.heap.size (.slice none 0 0) (.slice none 0 0) (.slice none 0 0) := by rw [← hW3]; exact heap_alloc_new W2 _
 obtain ⟨W4, hW4⟩ : ∃ W4, W3.alloc (.cells #[.int .i64 0, .int .i64 0, .int .i64 0, .bool false, .string ⟨#[]⟩, .slice none 0 0] 37) = W4 := ⟨_, rfl⟩
 have hal4 : Below W3.heap.size W3 W4 := by rw [← hW4]; exact (Below.refl _ _).alloc (Nat.le_refl _) _
 have hr4 : ResAt W4 W3.heap.size (.int .i64 0) (.int .i64 0) (.int .i64 0) (.bool false) (.string ⟨#[]⟩) (.slice none 0 0) := by rw [← hW4]; exact heap_alloc_new W3 _
 have hst0 : StAt none W (.agg #[.slice A n cp, .slice Bz m d, .slice D k e]) s := ⟨⟨A, n, cp, Bz, m, d, D, k, e, rfl, hI.below hal, hD.below hal, hM.below hal, h5, h6, h7⟩, hz⟩
 have hb24 : Below W2.heap.size W2 W4 := Cv.next hal3 hal4
 have hb14 : Below W.heap.size W W4 := Cv.next hal2 hb24
 have hb4 : Below w.heap.size w W4 := Cv.next hal hb14
 have hst := hst0.below hb14
 have x0 := (hb14.cell (p := ⟨w.heap.size, 0, .none⟩) hlt0).trans b0
 have x1 := (hb14.cell (p := ⟨w.heap.size, 1, .none⟩) hlt0).trans b1
 have x2 := (hb14.cell (p := ⟨w.heap.size, 2, .none⟩) hlt0).trans b2
 have hbc4 := (hb24.block W.heap.size (by omega)).trans hbc
 have k0 : W4.cell? ⟨W.heap.size, 0, none⟩ = some (.int .i64 c.kind) := by rw [cell_of_row W4 W.heap.size _ _ _ (0, 0) hbc4]; rfl
 have k1 : W4.cell? ⟨W.heap.size, 1, none⟩ = some (.int .i64 c.core) := by rw [cell_of_row W4 W.heap.size _ _ _ (0, 0) hbc4]; rfl
 have k2 : W4.cell? ⟨W.heap.size, 2, none⟩ = some (.int .i64 c.fd) := by rw [cell_of_row W4 W.heap.size _ _ _ (0, 0) hbc4]; rfl
 have k3 : W4.cell? ⟨W.heap.size, 3, none⟩ = some (.int .i64 c.off) := by rw [cell_of_row W4 W.heap.size _ _ _ (0, 0) hbc4]; rfl
 have k4 : W4.cell? ⟨W.heap.size, 4, none⟩ = some (.int .i64 c.num) := by rw [cell_of_row W4 W.heap.size _ _ _ (0, 0) hbc4]; rfl
 have k5 : W4.cell? ⟨W.heap.size, 5, none⟩ = some (.string c.path) := by rw [cell_of_row W4 W.heap.size _ _ _ (0, 0) hbc4]; rfl
 have k6 : W4.cell? ⟨W.heap.size, 6, none⟩ = some (.string c.path2) := by rw [cell_of_row W4 W.heap.size _ _ _ (0, 0) hbc4]; rfl
 have k7 : W4.cell? ⟨W.heap.size, 7, none⟩ = some (.string c.data) := by rw [cell_of_row W4 W.heap.size _ _ _ (0, 0) hbc4]; rfl
 have hcall := hd W4 hst
 have HCALL := Lib.hid hcall
 have HB4 := Lib.hid hb4
 have hb4s := hb4.size
 have HO3 := Lib.hid ((hal4.block W2.heap.size (by omega)).trans ho3)
 have HR4 := Lib.hid hr4
 have hs1 : w.heap.size < W.heap.size := hlt0
 have hs4 : W4.heap.size = W3.heap.size + 1 := by rw [← hW4]; simp
 unfold caV
 clear hI hD hM hz hst0 hst hbc hbc4 hb4 hb14 hb24 ho3 hr4 hal hal2 hal3 hal4 b0 b1 b2 h5 h6 h7 hlt0 hd hcall
 go_enter Try.func10, Try.ntmps10
 go_wp2_with fail
 clear hW hW2 hW3 hW4
 refine HCALL.out.mono ?_
 rintro e5 w5 ⟨v5, rfl, hst5, hb5⟩
 obtain ⟨A6, n6, c6, E6, m6, d6, D6, k6', e6, rfl, _⟩ := hst5.at_
 have HST5 := Lib.hid hst5
 have HB5 := Lib.hid (Cv.next HB4.out hb5)
 have HO5 : Hid (OutAt w5 W2.heap.size _ _ _) := Lib.hid ((hb5.block W2.heap.size (by omega)).trans HO3.out)
 have HR5 : Hid (ResAt w5 W3.heap.size _ _ _ _ _ _) := Lib.hid ((hb5.block W3.heap.size (by omega)).trans HR4.out)
 have hs5 : W4.heap.size ≤ w5.heap.size := hb5.size
 clear hst5 hb5 x0 x1 x2 k0 k1 k2 k3 k4 k5 k6 k7
 unfold resV
 go_wp2_with fail
 obtain ⟨U1, hU1⟩ : ∃ U1, w5.alloc (.cells #[.slice A6 n6 c6, .slice E6 m6 d6, .slice D6 k6' e6] 26) = U1 := ⟨_, rfl⟩
 obtain ⟨U2, hU2⟩ : ∃ U2, U1.alloc (.cells #[.int .i64 r.code, .int .i64 r.fd, .int .i64 r.num, .bool r.dir, .string r.data, .slice none 0 0] 37) = U2 := ⟨_, rfl⟩
 rw [hU1, hU2]
 have hau1 : Below w5.heap.size w5 U1 := by rw [← hU1]; exact (Below.refl _ _).alloc (Nat.le_refl _) _
 have hau2 : Below U1.heap.size U1 U2 := by rw [← hU2]; exact (Below.refl _ _).alloc (Nat.le_refl _) _
 have hsu1 : U1.heap.size = w5.heap.size + 1 := by rw [← hU1]; simp
 have hau := Cv.next hau1 hau2
 have hru : ResAt U2 (w5.heap.size + 1) (.int .i64 r.code) (.int .i64 r.fd) (.int .i64 r.num) (.bool r.dir) (.string r.data) (.slice none 0 0) := by rw [← hsu1, ← hU2]; exact heap_alloc_new U1 _
 have hou : OutAt U2 w5.heap.size (.slice A6 n6 c6) (.slice E6 m6 d6) (.slice D6 k6' e6) := by
  have h1 : U1.heap[w5.heap.size]? = some (.cells #[.slice A6 n6 c6, .slice E6 m6 d6, .slice D6 k6' e6] 26 (0, 0)) := by rw [← hU1]; exact heap_alloc_new w5 _
  exact (hau2.block w5.heap.size (by omega)).trans h1
 have hst8 := HST5.out.below hau
 have hO8 : OutAt U2 (W.heap.size + 1) (.slice none 0 0) (.slice none 0 0) (.slice none 0 0) := by rw [← hsz2]; exact (hau.block W2.heap.size (by omega)).trans HO5.out
 have hR8 : ResAt U2 (W.heap.size + 1 + 1) (.int .i64 0) (.int .i64 0) (.int .i64 0) (.bool false) (.string ⟨#[]⟩) (.slice none 0 0) := by rw [show W.heap.size + 1 + 1 = W3.heap.size by omega]; exact (hau.block W3.heap.size (by omega)).trans HR5.out
 have HB8 := Lib.hid (Cv.next HB5.out hau)
 have HST8 := Lib.hid hst8
 obtain ⟨q0, q1, q2, _⟩ := hou.get
 obtain ⟨j0, j1, j2, j3, j4, j5, _⟩ := hru.get
 have uf : ∀ j, U2.frozen? ⟨W.heap.size + 1, j, none⟩ = false := hO8.get.2.2.2
 have vf : ∀ j, U2.frozen? ⟨W.heap.size + 1 + 1, j, none⟩ = false := hR8.get.2.2.2.2.2.2
 have n1 : w5.heap.size ≠ W.heap.size + 1 := by omega
 have n2 : w5.heap.size ≠ W.heap.size + 1 + 1 := by omega
 have n3 : w5.heap.size + 1 ≠ W.heap.size + 1 := by omega
 have n4 : w5.heap.size + 1 ≠ W.heap.size + 1 + 1 := by omega
 have n1' := Ne.symm n1
 have n2' := Ne.symm n2
 have n3' := Ne.symm n3
 have n4' := Ne.symm n4
 have n5 : W.heap.size ≠ w5.heap.size := by omega
 have n6' : w5.heap.size ≠ W.heap.size := by omega
 obtain ⟨t0, t1, t2, _⟩ := hO8.get
 obtain ⟨v0, v1, v2, v3, v4, v5, _⟩ := hR8.get
 have uf0 := uf 0
 have uf1 := uf 1
 have uf2 := uf 2
 clear hU1 hU2 hau1 hau2 hau hru hou hst8
 go_region_held3 (fun w' => w'.cell? ⟨w5.heap.size, 0, none⟩ = some (.slice A6 n6 c6) ∧ w'.cell? ⟨w5.heap.size, 1, none⟩ = some (.slice E6 m6 d6) ∧ w'.cell? ⟨w5.heap.size, 2, none⟩ = some (.slice D6 k6' e6) ∧
   w'.cell? ⟨w5.heap.size + 1, 0, none⟩ = some (.int .i64 r.code) ∧ w'.cell? ⟨w5.heap.size + 1, 1, none⟩ = some (.int .i64 r.fd) ∧ w'.cell? ⟨w5.heap.size + 1, 2, none⟩ = some (.int .i64 r.num) ∧ w'.cell? ⟨w5.heap.size + 1, 3, none⟩ = some (.bool r.dir) ∧ w'.cell? ⟨w5.heap.size + 1, 4, none⟩ = some (.string r.data) ∧ w'.cell? ⟨w5.heap.size + 1, 5, none⟩ = some (.slice none 0 0))
  (go_keep) (fail)
 obtain ⟨U5, hU5, ho5, k5, b5⟩ := hO8.three (.slice A6 n6 c6) (.slice E6 m6 d6) (.slice D6 k6' e6)
 have hr5 : ResAt U5 (W.heap.size + 1 + 1) _ _ _ _ _ _ := ((k5 _ (by decide)).same (W.heap.size + 1 + 1) _ hR8).trans hR8
 obtain ⟨U6, hU6, hr6, k6, b6, a6, s6⟩ := hr5.six (.int .i64 r.code) (.int .i64 r.fd) (.int .i64 r.num) (.bool r.dir) (.string r.data) (.slice none 0 0)
 have ho6 : OutAt U6 (W.heap.size + 1) _ _ _ := (a6 (W.heap.size + 1) (by omega)).trans ho5
 have hbw : Below w.heap.size w U6 := b6 w.heap.size w (by omega) (b5 w.heap.size w (by omega) HB8.out)
 have hst6 := (HST8.out.keep3 (k5 _ (by decide)) (k5 _ (by decide)) (k5 _ (by decide)) (k5 _ (by decide))).keep3 (k6 _ (by decide)) (k6 _ (by decide)) (k6 _ (by decide)) (k6 _ (by decide))
 rw [hU5, hU6]
 have HO6f := Lib.hid ho6
 have HR6f := Lib.hid hr6
 have HSTf := Lib.hid ((hst6.lower (by have := hb4s; omega)).below (Below.drew (Below.refl _ _)))
 have HBF := Lib.hid (Below.drew hbw)
 clear hU5 hU6 ho5 k5 b5 hr5 hr6 k6 b6 a6 s6 ho6 hst6 hbw t0 t1 t2 v0 v1 v2 v3 v4 v5 uf0 uf1 uf2 uf vf j0 j1 j2 j3 j4 j5 q0 q1 q2
 go_wp2_with fail
 (try simp only [Exit.inBlock, Exit.then])
 refine bodyPost_ret (v := .tuple #[.agg #[.slice A6 n6 c6, .slice E6 m6 d6, .slice D6 k6' e6], .agg #[.int .i64 r.code, .int .i64 r.fd, .int .i64 r.num, .bool r.dir, .string r.data, .slice none 0 0]]) ?_ rfl ?_
 ·rw [results_cells rfl]
  have hl1 := run_loadVar_row (P := Try.prog) U6.drew (W.heap.size + 1) _ 26 _ (0, 0) _ HO6f.out Try.underlying26 rfl (by kernel_rfl)
  have hl2 := run_loadVar_row (P := Try.prog) U6.drew (W.heap.size + 1 + 1) _ 37 _ (0, 0) _ HR6f.out Try.underlying37 rfl (by kernel_rfl)
  simp [asAddr, hl1, hl2, Result.andThen]
 ·exact ⟨_, rfl, HSTf.out, HBF.out⟩
end Go.Proofs.Ytghlgnklnbcppaa
