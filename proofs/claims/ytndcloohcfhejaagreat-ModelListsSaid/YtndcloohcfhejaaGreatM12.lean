/- Parts of the proof, side by side: FsLink, FsLooks, LaBuild, FsSized, FsSized2, FsByFd. -/
import Derived.Test.YtndcloohcfhejaaGreatM10
import Derived.Test.YtndcloohcfhejaaGreatFsOpened
import Derived.Deep.RegionHeld3
import Derived.Test.YtndcloohcfhejaaGreatM02
import Derived.Lib.Builder
import Derived.Lib.FrozenHead2
import Derived.Lib.UnsafeStr
import Derived.Shelf.RegionOpenPlain
import Derived.Test.YtndcloohcfhejaaGreatFsMake
import Derived.Lib.BufferWrite
import Derived.Deep.WholeRow
import Derived.Deep.RegionWith
import Derived.Lib.MinMax
import Derived.Lib.LazyBuf
set_option linter.unusedVariables false
set_option linter.unusedSimpArgs false
namespace Go.Proofs.YtndcloohcfhejaaGreat
open Go.RowKit
set_option maxRecDepth 100000 in
set_option maxHeartbeats 16000000 in
theorem link_any (B p : Nat) (s : St) (c : Ca) (w : World) (h : Own B w p s) (hB : B ≤ w.heap.size) (hw : Whole s.inos) (hpz : c.path.size ≤ 140737488355328) (hpz2 : c.path2.size ≤ 140737488355328) (hns : (parentV s.inos c.path2).2.1.size ≤ 140737488355328)
  (hz : Sized (linkV s c).1) :
  Calls Tryz.prog 129 #[.pointer (some ⟨p,0,.none⟩),caV c] w fun e w' => e = .returned (resV (linkV s c).2) ∧ Own B w' p (linkV s c).1 ∧ Below B w w' ∧ Aside p w w':=by
 obtain ⟨LV,hLV⟩ : ∃ LV,linkV s c = LV:=⟨_,rfl⟩
 obtain ⟨⟨N1,C1⟩,hFI⟩ : ∃ x,findV s.inos c.path = x:=⟨_,rfl⟩
 obtain ⟨⟨DR,NM,C2⟩,hPA⟩ : ∃ x,parentV s.inos c.path2 = x:=⟨_,rfl⟩
 have hat0:=findV_at hw c.path
 have hdr0:=parentV_dir s.inos c.path2
 rw [hLV] at hz ⊢
 unfold linkV at hLV
 rw [hFI] at hLV hat0
 rw [hPA] at hLV hns hdr0
 dsimp only at hLV hns hat0 hdr0
 obtain ⟨W,W2,hW,hW2,hsz1,hfr⟩:=Fr.start h hB c
 have HF:=Lib.hid hfr
 clear h hfr
 obtain ⟨A,n,cp,E,m,d,D,k,e,hp,hcl,p0,p1,p2,pf,hst,hI,hn,c0,c1,c2,c3,c4,c5,c6,c7⟩:=HF.out.vals
 have HST:=Lib.hid hst
 have HI:=Lib.hid hI
 clear hst hI pf
 have HLV:=Lib.hid hLV
 have HFI:=Lib.hid hFI
 have HPA:=Lib.hid hPA
 have HW:=Lib.hid hw
 have HZ:=Lib.hid hz
 have HAT0:=Lib.hid hat0
 have HDR0:=Lib.hid hdr0
 clear hLV hFI hPA hw hz hat0 hdr0
 unfold caV
 go_enter Tryz.func129,Tryz.ntmps129
 go_wp2_with fail
 clear hW hW2
 have hX : ∀ (X : Ext W2) (p : Addr),(W2.cell? p).isSome = true → X.w.cell? p = W2.cell? p:=fun X p h => X.cell p h
 refine wp_region_ext (by kernel_rfl) (by kernel_rfl) ?_
 repeat (go_big_quiet_step (first | (go_at_call 123;rename_i X;exact Calls.ext_of (by have:=find_any _ s c.path _ (HST.out.below X.bel) HW.out hpz;rw [HFI.out] at this;dsimp only at this;exact this))))
 refine wpQuiet_nil ?_
 rintro w7 ⟨X,rfl⟩
 generalize hZe : X.w = Z1
 have hZ2 : Below W2.heap.size W2 Z1:=by rw [← hZe];exact X.bel
 have HF1:=Lib.hid (HF.out.below hZ2)
 clear hZe X hX hZ2
 clear p0 p1 p2 c0 c1 c2 c3 c4 c5 c6 c7
 obtain ⟨A1,n1,cp1,E1,m1,d1,D1,k1,e1,hp1,hcl1,p01,p11,p21,pf1,hst1,hI1,hn1,c01,c11,c21,c31,c41,c51,c61,c71⟩:=HF1.out.vals
 have HST1:=Lib.hid hst1
 have HI1:=Lib.hid hI1
 clear hst1 hI1 pf1
 by_cases hcd : C1 = 0
 rotate_left
 ·have q0 : (C1 == 0) = false:=by rw [beq_eq_false_iff_ne];exact hcd
  have q1 : (C1 != 0) = true:=by rw [bne_iff_ne];exact hcd
  have hr:=HLV.out
  rw [if_pos hcd] at hr
  have HR9:=Lib.hid hr
  clear hr hcd
  go_wp2_with fail
  have hX : ∀ (X : Ext Z1) (p : Addr),(Z1.cell? p).isSome = true → X.w.cell? p = Z1.cell? p:=fun X p h => X.cell p h
  refine wp_region_ext (by kernel_rfl) (by kernel_rfl) ?_
  repeat (go_big_quiet_step (fail))
  refine wpQuiet_nil ?_
  rintro w7 ⟨X,rfl⟩
  generalize hZe : X.w = Z2
  have hZ2 : Below Z1.heap.size Z1 Z2:=by rw [← hZe];exact X.bel
  have HF2:=Lib.hid (HF1.out.below hZ2)
  clear hZe X hX hZ2
  clear p01 p11 p21 c01 c11 c21 c31 c41 c51 c61 c71
  go_wp2_with fail
  refine (fail_any C1 _).mono ?_
  rintro e10 w10 ⟨rfl,hb10⟩
  have F10:=HF2.out.below hb10
  obtain ⟨g0,g1',g2',g3,g4,g5,gf⟩:=F10.res.get
  obtain ⟨W9,hW9,hr9,ho9,hB9,hA9⟩:=F10.six (.int .i64 C1) (.int .i64 0) (.int .i64 0) (.bool false) (.string ⟨#[]⟩) (.slice none 0 0)
  have HR5:=Lib.hid hr9
  have HOF:=Lib.hid ho9
  have HBF:=Lib.hid hB9
  have HAS:=Lib.hid hA9
  clear F10 hr9 ho9 hB9 hA9 hb10
  go_wp2_with fail
  (try simp only [Exit.inBlock,Exit.then])
  refine bodyPost_ret (results_cell_row rfl _ _ (w.heap.size + 1) 31 _ (0,0) _ rfl HR5.out Tryz.underlying31 rfl (by kernel_rfl)) rfl ?_
  exact ⟨by rw [← HR9.out];rfl,by rw [← HR9.out];exact HOF.out,HBF.out,HAS.out⟩
 ·subst hcd
  have hlv:=HLV.out
  rw [if_neg (by decide)] at hlv
  obtain ⟨i,x,hat,hx,hxn⟩:=atV_some (HAT0.out rfl)
  have hda : dirAt s.inos N1 = x.dir:=by unfold dirAt;rw [hat,inoAt_nat,hx]
  rw [hda] at hlv
  have hin : i < n1:=by have:=(List.getElem?_eq_some_iff.1 hx).1;have:=HI1.out.1;omega
  obtain ⟨g,og,x',E3,m3,d3,hA1,hg,hx',_,hmem,e0,e1,e2,_,_,e3⟩:=HI1.out.get i hin
  subst hA1
  have ex : x' = x:=by rw [hx] at hx';exact (Option.some.inj hx').symm
  subst ex
  have i0 : (0 : Int) ≤ (i : Int):=by omega
  have i1 : (i : Int) < (n1 : Int):=by omega
  have HLV2:=Lib.hid hlv
  have HAT:=Lib.hid hat
  obtain ⟨DX,hDX⟩ : ∃ DX,x'.dir = DX:=⟨_,rfl⟩
  rw [hDX] at e1 HLV2
  clear hlv hat hx hx' hmem hda hDX
  cases DX
  ·have hr:=HLV2.out
   rw [if_neg (by decide)] at hr
   have HR9:=Lib.hid hr
   clear hr
   go_wp2_with fail
   have hX : ∀ (X : Ext Z1) (p : Addr),(Z1.cell? p).isSome = true → X.w.cell? p = Z1.cell? p:=fun X p h => X.cell p h
   refine wp_region_ext (by kernel_rfl) (by kernel_rfl) ?_
   repeat (go_big_quiet_step (first | (go_at_call 124;rename_i X;exact Calls.ext_of (by have:=at_any _ s N1 _ (HST1.out.below X.bel);rw [HAT.out] at this;exact this))))
   refine wpQuiet_nil ?_
   rintro w7 ⟨X,rfl⟩
   generalize hZe : X.w = Z2
   have hZ2 : Below Z1.heap.size Z1 Z2:=by rw [← hZe];exact X.bel
   have HF2:=Lib.hid (HF1.out.below hZ2)
   clear hZe X hX hZ2
   clear p01 p11 p21 c01 c11 c21 c31 c41 c51 c61 c71
   clear e0 e1 e2 e3
   obtain ⟨A2,n2,cp2,E2,m2,d2,D2,k2,e2,hp2,hcl2,p02,p12,p22,pf2,hst2,hI2,hn2,c02,c12,c22,c32,c42,c52,c62,c72⟩:=HF2.out.vals
   have HST2:=Lib.hid hst2
   have HI2:=Lib.hid hI2
   clear hst2 hI2 pf2
   go_wp2_with fail
   have hX : ∀ (X : Ext Z2) (p : Addr),(Z2.cell? p).isSome = true → X.w.cell? p = Z2.cell? p:=fun X p h => X.cell p h
   refine wp_region_ext (by kernel_rfl) (by kernel_rfl) ?_
   repeat (go_big_quiet_step (first | (go_at_call 119;rename_i X;exact Calls.ext_of (by have:=parent_any _ s c.path2 _ (HST2.out.below X.bel) HW.out hpz2;rw [HPA.out] at this;dsimp only at this;exact this))))
   refine wpQuiet_nil ?_
   rintro w7 ⟨X,rfl⟩
   generalize hZe : X.w = Z3
   have hZ2 : Below Z2.heap.size Z2 Z3:=by rw [← hZe];exact X.bel
   have HF3:=Lib.hid (HF2.out.below hZ2)
   clear hZe X hX hZ2
   clear p02 p12 p22 c02 c12 c22 c32 c42 c52 c62 c72
   obtain ⟨A3,n3,cp3,E3,m3,d3,D3,k3,e3,hp3,hcl3,p03,p13,p23,pf3,hst3,hI3,hn3,c03,c13,c23,c33,c43,c53,c63,c73⟩:=HF3.out.vals
   have HST3:=Lib.hid hst3
   have HI3:=Lib.hid hI3
   clear hst3 hI3 pf3
   by_cases hc2 : C2 = 0
   rotate_left
   ·have q1 : (C2 != 0) = true:=by rw [bne_iff_ne];exact hc2
    have hr:=HR9.out
    rw [if_pos hc2] at hr
    have HR8:=Lib.hid hr
    clear hr hc2
    go_wp2_with fail
    refine (fail_any C2 _).mono ?_
    rintro e10 w10 ⟨rfl,hb10⟩
    have F10:=HF3.out.below hb10
    obtain ⟨g0,g1',g2',g3,g4,g5,gf⟩:=F10.res.get
    obtain ⟨W9,hW9,hr9,ho9,hB9,hA9⟩:=F10.six (.int .i64 C2) (.int .i64 0) (.int .i64 0) (.bool false) (.string ⟨#[]⟩) (.slice none 0 0)
    have HR5:=Lib.hid hr9
    have HOF:=Lib.hid ho9
    have HBF:=Lib.hid hB9
    have HAS:=Lib.hid hA9
    clear F10 hr9 ho9 hB9 hA9 hb10
    go_wp2_with fail
    (try simp only [Exit.inBlock,Exit.then])
    refine bodyPost_ret (results_cell_row rfl _ _ (w.heap.size + 1) 31 _ (0,0) _ rfl HR5.out Tryz.underlying31 rfl (by kernel_rfl)) rfl ?_
    exact ⟨by rw [← HR8.out];rfl,by rw [← HR8.out];exact HOF.out,HBF.out,HAS.out⟩
   ·subst hc2
    have hdr:=HDR0.out rfl
    have hr:=HR9.out
    rw [if_neg (by decide)] at hr
    obtain ⟨EV,hEV⟩ : ∃ EV,entV s.inos DR NM = EV:=⟨_,rfl⟩
    obtain ⟨FV,hFV⟩ : ∃ FV,fullV s.inos DR NM (txt []) = FV:=⟨_,rfl⟩
    rw [hEV,hFV] at hr
    have HR8:=Lib.hid hr
    have HEV:=Lib.hid hEV
    have HFV : Hid (fullV s.inos DR NM ⟨#[]⟩ = FV):=Lib.hid hFV
    clear hr hEV hFV
    go_wp2_with fail
    refine (entry_any _ s DR NM _ HST3.out).mono ?_
    rintro ex Z4 ⟨rfl,hbx⟩
    have HF4:=Lib.hid (HF3.out.below hbx)
    clear hbx
    clear p03 p13 p23 c03 c13 c23 c33 c43 c53 c63 c73
    obtain ⟨A4,n4,cp4,E4,m4,d4,D4,k4,e4,hp4,hcl4,p04,p14,p24,pf4,hst4,hI4,hn4,c04,c14,c24,c34,c44,c54,c64,c74⟩:=HF4.out.vals
    have HST4:=Lib.hid hst4
    have HI4:=Lib.hid hI4
    clear hst4 hI4 pf4
    rw [HEV.out]
    by_cases hev : EV = 0
    rotate_left
    ·have q1 : (EV != 0) = true:=by rw [bne_iff_ne];exact hev
     have hr:=HR8.out
     rw [if_pos hev] at hr
     have HR7:=Lib.hid hr
     clear hr hev
     go_wp2_with fail
     refine (fail_any 2 _).mono ?_
     rintro e10 w10 ⟨rfl,hb10⟩
     have F10:=HF4.out.below hb10
     obtain ⟨g0,g1',g2',g3,g4,g5,gf⟩:=F10.res.get
     obtain ⟨W9,hW9,hr9,ho9,hB9,hA9⟩:=F10.six (.int .i64 2) (.int .i64 0) (.int .i64 0) (.bool false) (.string ⟨#[]⟩) (.slice none 0 0)
     have HR5:=Lib.hid hr9
     have HOF:=Lib.hid ho9
     have HBF:=Lib.hid hB9
     have HAS:=Lib.hid hA9
     clear F10 hr9 ho9 hB9 hA9 hb10
     go_wp2_with fail
     (try simp only [Exit.inBlock,Exit.then])
     refine bodyPost_ret (results_cell_row rfl _ _ (w.heap.size + 1) 31 _ (0,0) _ rfl HR5.out Tryz.underlying31 rfl (by kernel_rfl)) rfl ?_
     exact ⟨by rw [← HR7.out];rfl,by rw [← HR7.out];exact HOF.out,HBF.out,HAS.out⟩
    ·subst hev
     have hr:=HR8.out
     rw [if_neg (by simp)] at hr
     have HR7:=Lib.hid hr
     clear hr
     go_wp2_with fail
     refine (full_any _ s DR NM ⟨#[]⟩ _ HST4.out hdr hns).mono ?_
     rintro ex Z5 ⟨rfl,hbx⟩
     have HF5:=Lib.hid (HF4.out.below hbx)
     clear hbx
     clear p04 p14 p24 c04 c14 c24 c34 c44 c54 c64 c74
     obtain ⟨A5,n5,cp5,E5,m5,d5,D5,k5,e5,hp5,hcl5,p05,p15,p25,pf5,hst5,hI5,hn5,c05,c15,c25,c35,c45,c55,c65,c75⟩:=HF5.out.vals
     have HST5:=Lib.hid hst5
     have HI5:=Lib.hid hI5
     clear hst5 hI5 pf5
     rw [HFV.out]
     cases FV
     ·have hr:=HR7.out
      rw [if_neg (by decide)] at hr
      have HR6:=Lib.hid hr
      have hzz:=HZ.out
      rw [← hr] at hzz
      have HZZ:=Lib.hid hzz
      clear hr hzz
      go_wp2_with fail
      refine (put_any B p s DR NM N1 Z5 HF5.out.own (by have:=HF5.out.size;omega) hdr hns HZZ.out).mono ?_
      rintro ex Z6 ⟨rfl,hox,hbx,hax⟩
      have HF6:=Lib.hid (HF5.out.step hox hbx hax)
      clear hox hbx hax
      clear p05 p15 p25 c05 c15 c25 c35 c45 c55 c65 c75
      go_wp2_with fail
      refine (fail_any 0 _).mono ?_
      rintro e10 w10 ⟨rfl,hb10⟩
      have F10:=HF6.out.below hb10
      obtain ⟨g0,g1',g2',g3,g4,g5,gf⟩:=F10.res.get
      obtain ⟨W9,hW9,hr9,ho9,hB9,hA9⟩:=F10.six (.int .i64 0) (.int .i64 0) (.int .i64 0) (.bool false) (.string ⟨#[]⟩) (.slice none 0 0)
      have HR5:=Lib.hid hr9
      have HOF:=Lib.hid ho9
      have HBF:=Lib.hid hB9
      have HAS:=Lib.hid hA9
      clear F10 hr9 ho9 hB9 hA9 hb10
      go_wp2_with fail
      (try simp only [Exit.inBlock,Exit.then])
      refine bodyPost_ret (results_cell_row rfl _ _ (w.heap.size + 1) 31 _ (0,0) _ rfl HR5.out Tryz.underlying31 rfl (by kernel_rfl)) rfl ?_
      exact ⟨by rw [← HR6.out];rfl,by rw [← HR6.out];exact HOF.out,HBF.out,HAS.out⟩
     ·have hr:=HR7.out
      rw [if_pos rfl] at hr
      have HR6:=Lib.hid hr
      clear hr
      go_wp2_with fail
      refine (fail_any 5 _).mono ?_
      rintro e10 w10 ⟨rfl,hb10⟩
      have F10:=HF5.out.below hb10
      obtain ⟨g0,g1',g2',g3,g4,g5,gf⟩:=F10.res.get
      obtain ⟨W9,hW9,hr9,ho9,hB9,hA9⟩:=F10.six (.int .i64 5) (.int .i64 0) (.int .i64 0) (.bool false) (.string ⟨#[]⟩) (.slice none 0 0)
      have HR5:=Lib.hid hr9
      have HOF:=Lib.hid ho9
      have HBF:=Lib.hid hB9
      have HAS:=Lib.hid hA9
      clear F10 hr9 ho9 hB9 hA9 hb10
      go_wp2_with fail
      (try simp only [Exit.inBlock,Exit.then])
      refine bodyPost_ret (results_cell_row rfl _ _ (w.heap.size + 1) 31 _ (0,0) _ rfl HR5.out Tryz.underlying31 rfl (by kernel_rfl)) rfl ?_
      exact ⟨by rw [← HR6.out];rfl,by rw [← HR6.out];exact HOF.out,HBF.out,HAS.out⟩
  ·have hr:=HLV2.out
   rw [if_pos rfl] at hr
   have HR9:=Lib.hid hr
   clear hr
   go_wp2_with fail
   have hX : ∀ (X : Ext Z1) (p : Addr),(Z1.cell? p).isSome = true → X.w.cell? p = Z1.cell? p:=fun X p h => X.cell p h
   refine wp_region_ext (by kernel_rfl) (by kernel_rfl) ?_
   repeat (go_big_quiet_step (first | (go_at_call 124;rename_i X;exact Calls.ext_of (by have:=at_any _ s N1 _ (HST1.out.below X.bel);rw [HAT.out] at this;exact this))))
   refine wpQuiet_nil ?_
   rintro w7 ⟨X,rfl⟩
   generalize hZe : X.w = Z2
   have hZ2 : Below Z1.heap.size Z1 Z2:=by rw [← hZe];exact X.bel
   have HF2:=Lib.hid (HF1.out.below hZ2)
   clear hZe X hX hZ2
   clear p01 p11 p21 c01 c11 c21 c31 c41 c51 c61 c71
   clear e0 e1 e2 e3
   go_wp2_with fail
   refine (fail_any 8 _).mono ?_
   rintro e10 w10 ⟨rfl,hb10⟩
   have F10:=HF2.out.below hb10
   obtain ⟨g0,g1',g2',g3,g4,g5,gf⟩:=F10.res.get
   obtain ⟨W9,hW9,hr9,ho9,hB9,hA9⟩:=F10.six (.int .i64 8) (.int .i64 0) (.int .i64 0) (.bool false) (.string ⟨#[]⟩) (.slice none 0 0)
   have HR5:=Lib.hid hr9
   have HOF:=Lib.hid ho9
   have HBF:=Lib.hid hB9
   have HAS:=Lib.hid hA9
   clear F10 hr9 ho9 hB9 hA9 hb10
   go_wp2_with fail
   (try simp only [Exit.inBlock,Exit.then])
   refine bodyPost_ret (results_cell_row rfl _ _ (w.heap.size + 1) 31 _ (0,0) _ rfl HR5.out Tryz.underlying31 rfl (by kernel_rfl)) rfl ?_
   exact ⟨by rw [← HR9.out];rfl,by rw [← HR9.out];exact HOF.out,HBF.out,HAS.out⟩
end Go.Proofs.YtndcloohcfhejaaGreat
namespace Go.Proofs.YtndcloohcfhejaaGreat
open Go.RowKit
def NmsAt (lo : Option Nat) (w : World) (A : Option Addr) (n : Nat) (ns : List ByteArray) : Prop:=
 ns.length = n ∧ (0 < n → ∃ g off,A = some ⟨g,off,none⟩ ∧ g < w.heap.size ∧ Mine lo 9 w g ∧ ∀ j x,ns[j]? = some x → w.cell? ⟨g,off + j,none⟩ = some (.string x))
theorem NmsAt.below {lo : Option Nat} {w w' : World} {A : Option Addr} {n : Nat} {ns : List ByteArray} (h : NmsAt lo w A n ns) (hb : Below w.heap.size w w') : NmsAt lo w' A n ns:=
 ⟨h.1, fun hn => by
  obtain ⟨g,off,hA,hg,hm,hc⟩:=h.2 hn
  exact ⟨g,off,hA,Nat.lt_of_lt_of_le hg hb.size,hm.below hb,fun j x hx => (hb.cell (p:=⟨g,_,none⟩) hg).trans (hc j x hx)⟩⟩
theorem NmsAt.weak {lo : Option Nat} {w : World} {A : Option Addr} {n : Nat} {ns : List ByteArray} (h : NmsAt lo w A n ns) : NmsAt none w A n ns:=
 ⟨h.1, fun hn => by
  obtain ⟨g,off,hA,hg,hm,hc⟩:=h.2 hn
  exact ⟨g,off,hA,hg,Mine.any _ _ _,hc⟩⟩
theorem NmsAt.keep {B : Nat} {w w' : World} {A : Option Addr} {n : Nat} {ns : List ByteArray} (h : NmsAt (some B) w A n ns) (hk : KeepT 9 w w') : NmsAt (some B) w' A n ns:=
 ⟨h.1, fun hn => by
  obtain ⟨g,off,hA,hg,hm,hc⟩:=h.2 hn
  obtain ⟨m1,m2⟩:=hk.mine hm
  exact ⟨g,off,hA,Nat.lt_of_lt_of_le hg hk.size,m1,fun j x hx => (cell_same m2 _).trans (hc j x hx)⟩⟩
theorem NmsAt.lower {B B' : Nat} {w : World} {A : Option Addr} {n : Nat} {ns : List ByteArray} (h : NmsAt (some B) w A n ns) (hb : B' ≤ B) : NmsAt (some B') w A n ns:=
 ⟨h.1, fun hn => by
  obtain ⟨g,off,hA,hg,hm,hc⟩:=h.2 hn
  exact ⟨g,off,hA,hg,hm.mono hb,hc⟩⟩
def ResIs (lo : Option Nat) (w : World) (v : Value) (r : Re) : Prop:=
 ∃ A n c,v = .agg #[.int .i64 r.code,.int .i64 r.fd,.int .i64 r.num,.bool r.dir,.string r.data,.slice A n c] ∧ SlOk A n c ∧ NmsAt lo w A n r.names
theorem infoByte : (Tryz.prog.info? 5).map (fun i => (i.zero,i.size,i.bytes)) = some (some (.int .u8 0),1,1):=by kernel_rfl
theorem sizedL_long (l : List UInt8) (k : Nat) (h : l.length ≤ k) : sizedL l k = l ++ List.replicate (k - l.length) 0:=by
 unfold sizedL
 rw [List.take_append,List.take_of_length_le h]
 congr 1
 rw [List.take_replicate]
 congr 1
 omega
set_option maxRecDepth 100000 in
set_option maxHeartbeats 4000000 in
theorem sized_any (s : ByteArray) (k : Nat) (w : World) (hs : s.size ≤ k) (hk : k ≤ 65536) :
  Calls Tryz.prog 128 #[.string s,.int .i64 (k : Int)] w fun e w' => ∃ g,e = .returned (.slice (some ⟨g,0,.none⟩) k k) ∧ Cv.ByteRow w' g (sizedL s.data.toList k) ∧ w.heap.size ≤ g ∧ Below w.heap.size w w':=by
 have hl : s.data.toList.length = s.size:=Array.length_toList
 have hmk:=run_make_row' (P:=Tryz.prog) 85 5 (.int .u8 0) 1 Tryz.underlying85 infoByte rfl .i64 .i64 k (by omega) (by omega) w
 have hg0:=heap_alloc_new w (.cells (madeCells #[.int .u8 0] k) 5)
 have hcs : (madeCells #[Value.int .u8 0] k).size = k:=by simp [madeCells]
 have hcp:=fun ty => Lib.run_copy_row_string (P:=Tryz.prog) (ty:=ty) (w.alloc (.cells (madeCells #[.int .u8 0] k) 5)) 85 9 5 w.heap.size 0 k k s _ _ Tryz.underlying85 (by kernel_rfl) hg0 hs (by rw [hcs];omega)
 obtain ⟨NC,hNC⟩ : ∃ NC : Array Value,(((madeCells #[Value.int .u8 0] k).toList.take 0) ++ Lib.byteCells s.data.toList ++ (madeCells #[Value.int .u8 0] k).toList.drop (0 + s.size)).toArray = NC:=⟨_,rfl⟩
 have hnc : NC = (Lib.byteCells (sizedL s.data.toList k)).toArray:=by
  rw [← hNC,sizedL_long _ _ (by omega),Lib.byteCells_append]
  congr 1
  have e1 : (madeCells #[Value.int .u8 0] k).toList = List.replicate k (Value.int .u8 0):=by
   apply List.ext_getElem
   ·simp [madeCells]
   ·intro i h1 h2
    simp [madeCells,Nat.mod_one]
  rw [e1,hl]
  simp [Lib.byteCells]
 rw [hNC,hnc] at hcp
 obtain ⟨W2,hW2⟩ : ∃ W2,w.alloc (.cells (Lib.byteCells (sizedL s.data.toList k)).toArray 5) = W2:=⟨_,rfl⟩
 have hcp2 : ∀ ty,(Builtin.copy_ #[85,9] ty #[.slice (some ⟨w.heap.size,0,none⟩) k k,.string s]).run Tryz.prog (w.alloc (.cells (madeCells #[.int .u8 0] k) 5)) = .ok (goInt s.size) W2:=by
  intro ty
  rw [hcp ty,World.setRow_alloc_new,hW2]
 have hrow : Cv.ByteRow W2 w.heap.size (sizedL s.data.toList k):=by
  have hh : W2.heap[w.heap.size]? = some (.cells (Lib.byteCells (sizedL s.data.toList k)).toArray 5 (0,0)):=by rw [← hW2];exact heap_alloc_new w _
  refine ⟨(Array.getElem?_eq_some_iff.1 hh).1,fun j hj => ⟨?_,frozen_of_row W2 w.heap.size j _ _ hh⟩⟩
  rw [cell_of_row W2 w.heap.size j _ _ (0,0) hh]
  simp [Lib.byteCells,hj]
 have hb : Below w.heap.size w W2:=by rw [← hW2];exact (Below.refl _ _).alloc (Nat.le_refl _) _
 have HR:=Lib.hid hrow
 have HB:=Lib.hid hb
 clear hg0 hcs hcp hNC hnc hW2 hrow hb hl
 go_enter Tryz.func128,Tryz.ntmps128
 go_wp2_with fail
 go_ret
 exact ⟨w.heap.size,rfl,HR.out,Nat.le_refl _,HB.out⟩
theorem run_copy_row_cut {P : Program} (w : World) (dT sT ty elem : TypeId) (g dLen dCap : Nat) (s : ByteArray) (cur : Array Value) (t : TypeId)
  (hu : P.underlying dT = some (.slice elem)) (hs : (P.info? elem).map (·.size) = some 1) (hg : w.heap[g]? = some (.cells cur t (0,0))) (hle : dLen ≤ s.size) (hfit : dLen ≤ cur.size) :
  (Builtin.copy_ #[dT, sT] ty #[.slice (some ⟨g, 0, none⟩) dLen dCap, .string s]).run P w =
   .ok (goInt dLen) (w.setRow g (Lib.byteCells (s.data.toList.take dLen) ++ cur.toList.drop dLen).toArray):=by
 have hlen : (Lib.byteCells (s.data.toList.take dLen)).length = dLen:=by rw [Lib.byteCells_length,List.length_take,Array.length_toList];exact Nat.min_eq_left hle
 have hst:=run_storeCells_at P g 0 t (Lib.byteCells (s.data.toList.take dLen)) 0 cur w hg (by rw [hlen];simpa using hfit) (Lib.byteCells_one _)
 have hmin : Nat.min s.size dLen = dLen:=Nat.min_eq_right hle
 have htk : List.take dLen (List.map (fun b : UInt8 => Value.int IntKind.u8 (b.toNat : Int)) s.data.toList) = Lib.byteCells (s.data.toList.take dLen):=by
  rw [List.map_take.symm]
  rfl
 rw [hlen] at hst
 simp only [Nat.add_zero,Nat.zero_add,List.take_zero,List.nil_append] at hst
 cases hq : P.info? elem with
 | none => simp [hq] at hs
 | some i =>
  simp [Builtin.copy_,run_underlying hu,Builtin.lenOf,Builtin.firstCells,sizeOf,typeInfo,hq,hmin]
  rw [htk,hst]
  simp [Result.andThen]
theorem sizedL_short (l : List UInt8) (k : Nat) (h : k ≤ l.length) : sizedL l k = l.take k:=by
 unfold sizedL
 rw [List.take_append,show k - l.length = 0 by omega]
 simp
set_option maxRecDepth 100000 in
set_option maxHeartbeats 4000000 in
theorem sized_cut (s : ByteArray) (k : Nat) (w : World) (hs : k ≤ s.size) (hk : k ≤ 65536) :
  Calls Tryz.prog 128 #[.string s,.int .i64 (k : Int)] w fun e w' => ∃ g,e = .returned (.slice (some ⟨g,0,.none⟩) k k) ∧ Cv.ByteRow w' g (sizedL s.data.toList k) ∧ w.heap.size ≤ g ∧ Below w.heap.size w w':=by
 have hl : s.data.toList.length = s.size:=Array.length_toList
 have hmk:=run_make_row' (P:=Tryz.prog) 85 5 (.int .u8 0) 1 Tryz.underlying85 infoByte rfl .i64 .i64 k (by omega) (by omega) w
 have hg0:=heap_alloc_new w (.cells (madeCells #[.int .u8 0] k) 5)
 have hcs : (madeCells #[Value.int .u8 0] k).size = k:=by simp [madeCells]
 have hcp:=fun ty => run_copy_row_cut (P:=Tryz.prog) (ty:=ty) (w.alloc (.cells (madeCells #[.int .u8 0] k) 5)) 85 9 5 w.heap.size k k s _ _ Tryz.underlying85 (by kernel_rfl) hg0 hs (by rw [hcs];omega)
 obtain ⟨NC,hNC⟩ : ∃ NC : Array Value,(Lib.byteCells (s.data.toList.take k) ++ (madeCells #[Value.int .u8 0] k).toList.drop k).toArray = NC:=⟨_,rfl⟩
 have hnc : NC = (Lib.byteCells (sizedL s.data.toList k)).toArray:=by
  rw [← hNC,sizedL_short _ _ (by omega),List.drop_of_length_le (by rw [Array.length_toList,hcs];omega),List.append_nil]
 rw [hNC,hnc] at hcp
 obtain ⟨W2,hW2⟩ : ∃ W2,w.alloc (.cells (Lib.byteCells (sizedL s.data.toList k)).toArray 5) = W2:=⟨_,rfl⟩
 have hcp2 : ∀ ty,(Builtin.copy_ #[85,9] ty #[.slice (some ⟨w.heap.size,0,none⟩) k k,.string s]).run Tryz.prog (w.alloc (.cells (madeCells #[.int .u8 0] k) 5)) = .ok (goInt k) W2:=by
  intro ty
  rw [hcp ty,World.setRow_alloc_new,hW2]
 have hrow : Cv.ByteRow W2 w.heap.size (sizedL s.data.toList k):=by
  have hh : W2.heap[w.heap.size]? = some (.cells (Lib.byteCells (sizedL s.data.toList k)).toArray 5 (0,0)):=by rw [← hW2];exact heap_alloc_new w _
  refine ⟨(Array.getElem?_eq_some_iff.1 hh).1,fun j hj => ⟨?_,frozen_of_row W2 w.heap.size j _ _ hh⟩⟩
  rw [cell_of_row W2 w.heap.size j _ _ (0,0) hh]
  simp [Lib.byteCells,hj]
 have hb : Below w.heap.size w W2:=by rw [← hW2];exact (Below.refl _ _).alloc (Nat.le_refl _) _
 have HR:=Lib.hid hrow
 have HB:=Lib.hid hb
 clear hg0 hcs hcp hNC hnc hW2 hrow hb hl
 go_enter Tryz.func128,Tryz.ntmps128
 go_wp2_with fail
 go_ret
 exact ⟨w.heap.size,rfl,HR.out,Nat.le_refl _,HB.out⟩
theorem sized_all (s : ByteArray) (k : Nat) (w : World) (hk : k ≤ 65536) :
  Calls Tryz.prog 128 #[.string s,.int .i64 (k : Int)] w fun e w' => ∃ g,e = .returned (.slice (some ⟨g,0,.none⟩) k k) ∧ Cv.ByteRow w' g (sizedL s.data.toList k) ∧ w.heap.size ≤ g ∧ Below w.heap.size w w':=by
 by_cases h : s.size ≤ k
 ·exact sized_any s k w h hk
 ·exact sized_cut s k w (by omega) hk
theorem sizedL_len (l : List UInt8) (k : Nat) : (sizedL l k).length = k:=by
 unfold sizedL
 rw [List.length_take,List.length_append,List.length_replicate]
 omega
theorem Sized.setData {s : St} (h : Sized s) {i : Nat} {x : Ino} (hx : s.inos[i]? = some x) (d : ByteArray) (hd : d.size ≤ 140737488355328) : Sized { s with inos:=s.inos.set i { x with data:=d } }:=by
 have hmem : x ∈ s.inos:=List.mem_of_getElem? hx
 have hb : ∀ (is : List Ino) (i : Nat),is[i]? = some x → bulkE (is.set i { x with data:=d }) = bulkE is:=by
  intro is
  induction is with
  | nil => intro i h;simp at h
  | cons y ys ih =>
   intro i h
   cases i with
   | zero =>
    have : y = x:=by simpa using h
    subst this
    rfl
   | succ i =>
    have:=ih i (by simpa using h)
    show y.ents.length + bulkE (ys.set i _) = y.ents.length + bulkE ys
    rw [this]
 refine ⟨?_,fun y hy => ?_,⟨fun y hy => ?_,h.nums.2⟩⟩
 ·show (s.inos.set i _).length + bulkE (s.inos.set i _) + _ + _ ≤ _
  rw [List.length_set,hb _ _ hx]
  exact h.big
 ·rcases List.mem_or_eq_of_mem_set hy with hy | rfl
  ·exact h.text y hy
  ·exact ⟨hd,(h.text x hmem).2⟩
 ·rcases List.mem_or_eq_of_mem_set hy with hy | rfl
  ·exact h.nums.1 y hy
  ·exact h.nums.1 x hmem
theorem dropD_len : ∀ (ds : List Ds) (core fd : Int),(dropD ds core fd).length ≤ ds.length
 | [],_,_ => Nat.le_refl _
 | d :: ds,core,fd => by
  unfold dropD
  have:=dropD_len ds core fd
  split <;> simp <;> omega
theorem piece_eq (d : ByteArray) (o k : Nat) (hd : d.size ≤ 140737488355328) (ho : o ≤ 256) (hk : k ≤ 256) : d.extract (min o d.size) (min (min o d.size + k) d.size) = txt ((d.data.toList.drop o).take k):=by
 have hl : d.data.toList.length = d.size:=Array.length_toList
 apply ByteArray.ext
 apply Array.toList_inj.1
 rw [ByteArray.data_extract,Array.toList_extract]
 show _ = ((d.data.toList.drop o).take k)
 rw [List.extract_eq_take_drop]
 by_cases h : o ≤ d.size
 ·rw [Nat.min_eq_left h]
  by_cases h2 : o + k ≤ d.size
  ·rw [Nat.min_eq_left h2,show o + k - o = k by omega]
  ·rw [Nat.min_eq_right (by omega),List.take_of_length_le (by rw [List.length_drop];omega),List.take_of_length_le (by rw [List.length_drop];omega)]
 ·rw [Nat.min_eq_right (by omega),List.drop_of_length_le (by omega),List.drop_of_length_le (by omega)]
  simp only [List.take_nil]
end Go.Proofs.YtndcloohcfhejaaGreat
