/- Parts of the proof, side by side: FsLink, FsNames. -/
import Derived.Test.YtmmpkfcdfcldlaaGreatM09
import Derived.Test.YtmmpkfcdfcldlaaGreatM11
import Derived.Test.YtmmpkfcdfcldlaaGreatM10
import Derived.Deep.RegionHeld3
set_option linter.unusedVariables false
set_option linter.unusedSimpArgs false
namespace Go.Proofs.YtmmpkfcdfcldlaaGreat
open Lib (hid)
open Go.RowKit
set_option maxRecDepth 100000 in
set_option maxHeartbeats 16000000 in
theorem zjm (B p:Nat) (s:St) (c:Ca) (w:World) (h:Own B w p s) (hB:B≤w.heap.size) (hw:Whole s.inos) (hpz:c.path.size≤140737488355328) (hpz2:c.path2.size≤140737488355328) (hns:(parentV s.inos c.path2).2.1.size≤140737488355328)
  (hz:Sized (linkV s c).1):
  Calls Tryz.prog 128 #[.pointer (some ⟨p,0,.none⟩),caV c] w fun e w'=>e=.returned (resV (linkV s c).2)∧Own B w' p (linkV s c).1∧Below B w w'∧Aside p w w':=by
 obtain⟨LV,hLV⟩:∃LV,linkV s c=LV:=⟨_,rfl⟩;obtain⟨⟨N1,C1⟩,hFI⟩:∃x,findV s.inos c.path=x:=⟨_,rfl⟩;obtain⟨⟨DR,NM,C2⟩,hPA⟩:∃x,parentV s.inos c.path2=x:=⟨_,rfl⟩;have hat0:=z7s hw c.path;have hdr0:=z3i s.inos c.path2;rw[hLV] at hz ⊢;unfold linkV at hLV;rw[hFI] at hLV hat0;rw[hPA] at hLV hns hdr0;dsimp only at hLV hns hat0 hdr0;obtain⟨W,W2,hW,hW2,hsz1,hfr⟩:=Fr.start h hB c;have HF:=hid hfr;clear h hfr;obtain⟨A,n,cp,E,m,d,D,k,e,hp,hcl,p0,p1,p2,pf,hst,hI,hn,c0,c1,c2,c3,c4,c5,c6,c7⟩:=HF.out.vals;have HST:=hid hst;have HI:=hid hI;clear hst hI pf;have HLV:=hid hLV;have HFI:=hid hFI;have HPA:=hid hPA;have HW:=hid hw;have HZ:=hid hz;have HAT0:=hid hat0;have HDR0:=hid hdr0;clear hLV hFI hPA hw hz hat0 hdr0;unfold caV
 go_enter Tryz.func128,Tryz.ntmps128
 go_wp2_with fail;clear hW hW2;have hX:=@Ext.cell W2;refine wre ?_
 repeat (go_big_quiet_step (first|(go_at_call 22;rename_i X;exact Calls.ext_of (by have:=z4q _ s c.path _ (HST.out.below X.bel) HW.out hpz;rw[HFI.out] at this;dsimp only at this;exact this))))
 refine wpQuiet_nil ?_;rintro w7 ⟨X,rfl⟩;generalize hZe:X.w=Z1;have hZ2:=hZe▸X.bel;have HF1:=hid (HF.out.below hZ2);clear hZe X hX hZ2;clear p0 p1 p2 c0 c1 c2 c3 c4 c5 c6 c7;obtain⟨A1,n1,cp1,E1,m1,d1,D1,k1,e1,hp1,hcl1,p01,p11,p21,pf1,hst1,hI1,hn1,c01,c11,c21,c31,c41,c51,c61,c71⟩:=HF1.out.vals;have HST1:=hid hst1;have HI1:=hid hI1;clear hst1 hI1 pf1
 by_cases hcd:C1=0
 rotate_left
 ·have q0:(C1==0)=false:=by rw[beq_eq_false_iff_ne];exact hcd
  have q1:(C1 != 0)=true:=by rw[bne_iff_ne];exact hcd
  have hr:=HLV.out;rw[if_pos hcd] at hr;have HR9:=hid hr;clear hr hcd;go_wp2_with fail;have hX:=@Ext.cell Z1;refine wre ?_
  repeat (go_big_quiet_step (fail))
  refine wpQuiet_nil ?_;rintro w7 ⟨X,rfl⟩;generalize hZe:X.w=Z2;have hZ2:=hZe▸X.bel;have HF2:=hid (HF1.out.below hZ2);clear hZe X hX hZ2;clear p01 p11 p21 c01 c11 c21 c31 c41 c51 c61 c71;go_wp2_with fail;refine(z0d C1 _).mono ?_;rintro e10 w10 ⟨rfl,hb10⟩;obtain⟨g0,g1',g2',g3,g4,g5,gf,W9,hW9,HR5,HOF,HBF,HAS⟩:=HF2.out.fin hb10 (.int .i64 C1) (.int .i64 0) (.int .i64 0) (.bool false) (.string ⟨#[]⟩) (.slice none 0 0);clear hb10;go_wp2_with fail
  (try simp only[Exit.inBlock,Exit.then])
  refine z0e rfl HR5.out rfl rfl ?_;exact⟨by rw[←HR9.out];rfl,by rw[←HR9.out];exact HOF.out,HBF.out,HAS.out⟩
 ·subst hcd;have hlv:=HLV.out;rw[if_neg (by decide)] at hlv;obtain⟨i,x,hat,hx,hxn⟩:=z0r (HAT0.out rfl);have hda:dirAt s.inos N1=x.dir:=by unfold dirAt;rw[hat,z0c,hx]
  rw[hda] at hlv;have hin:i<n1:=by have:=(List.getElem?_eq_some_iff.1 hx).1;have:=HI1.out.1;omega
  obtain⟨g,og,x',E3,m3,d3,hA1,hg,hx',_,hmem,e0,e1,e2,_,_,e3⟩:=HI1.out.get i hin;subst hA1;have ex:x'=x:=by rw[hx] at hx';exact(Option.some.inj hx').symm
  subst ex;have i0:(0:Int)≤(i:Int):=by omega
  have i1:(i:Int)<(n1:Int):=by omega
  have HLV2:=hid hlv;have HAT:=hid hat;obtain⟨DX,hDX⟩:∃DX,x'.dir=DX:=⟨_,rfl⟩;rw[hDX] at e1 HLV2;clear hlv hat hx hx' hmem hda hDX;cases DX
  ·have hr:=HLV2.out;rw[if_neg (by decide)] at hr;have HR9:=hid hr;clear hr;go_wp2_with fail;have hX:=@Ext.cell Z1;refine wre ?_
   repeat (go_big_quiet_step (first|(go_at_call 94;rename_i X;exact Calls.ext_of (by have:=z0o _ s N1 _ (HST1.out.below X.bel);rw[HAT.out] at this;exact this))))
   refine wpQuiet_nil ?_;rintro w7 ⟨X,rfl⟩;generalize hZe:X.w=Z2;have hZ2:=hZe▸X.bel;have HF2:=hid (HF1.out.below hZ2);clear hZe X hX hZ2;clear p01 p11 p21 c01 c11 c21 c31 c41 c51 c61 c71;clear e0 e1 e2 e3;obtain⟨A2,n2,cp2,E2,m2,d2,D2,k2,e2,hp2,hcl2,p02,p12,p22,pf2,hst2,hI2,hn2,c02,c12,c22,c32,c42,c52,c62,c72⟩:=HF2.out.vals;have HST2:=hid hst2;have HI2:=hid hI2;clear hst2 hI2 pf2;go_wp2_with fail;have hX:=@Ext.cell Z2;refine wre ?_
   repeat (go_big_quiet_step (first|(go_at_call 121;rename_i X;exact Calls.ext_of (by have:=z2n _ s c.path2 _ (HST2.out.below X.bel) HW.out hpz2;rw[HPA.out] at this;dsimp only at this;exact this))))
   refine wpQuiet_nil ?_;rintro w7 ⟨X,rfl⟩;generalize hZe:X.w=Z3;have hZ2:=hZe▸X.bel;have HF3:=hid (HF2.out.below hZ2);clear hZe X hX hZ2;clear p02 p12 p22 c02 c12 c22 c32 c42 c52 c62 c72;obtain⟨A3,n3,cp3,E3,m3,d3,D3,k3,e3,hp3,hcl3,p03,p13,p23,pf3,hst3,hI3,hn3,c03,c13,c23,c33,c43,c53,c63,c73⟩:=HF3.out.vals;have HST3:=hid hst3;have HI3:=hid hI3;clear hst3 hI3 pf3
   by_cases hc2:C2=0
   rotate_left
   ·have q1:(C2 != 0)=true:=by rw[bne_iff_ne];exact hc2
    have hr:=HR9.out;rw[if_pos hc2] at hr;have HR8:=hid hr;clear hr hc2;go_wp2_with fail;refine(z0d C2 _).mono ?_;rintro e10 w10 ⟨rfl,hb10⟩;obtain⟨g0,g1',g2',g3,g4,g5,gf,W9,hW9,HR5,HOF,HBF,HAS⟩:=HF3.out.fin hb10 (.int .i64 C2) (.int .i64 0) (.int .i64 0) (.bool false) (.string ⟨#[]⟩) (.slice none 0 0);clear hb10;go_wp2_with fail
    (try simp only[Exit.inBlock,Exit.then])
    refine z0e rfl HR5.out rfl rfl ?_;exact⟨by rw[←HR8.out];rfl,by rw[←HR8.out];exact HOF.out,HBF.out,HAS.out⟩
   ·subst hc2;have hdr:=HDR0.out rfl;have hr:=HR9.out;rw[if_neg (by decide)] at hr;obtain⟨EV,hEV⟩:∃EV,entV s.inos DR NM=EV:=⟨_,rfl⟩;obtain⟨FV,hFV⟩:∃FV,fullV s.inos DR NM (txt [])=FV:=⟨_,rfl⟩;rw[hEV,hFV] at hr;have HR8:=hid hr;have HEV:=hid hEV;have HFV:Hid (fullV s.inos DR NM ⟨#[]⟩=FV):=hid hFV;clear hr hEV hFV;go_wp2_with fail;refine(z1q _ s DR NM _ HST3.out).mono ?_;rintro ex Z4 ⟨rfl,hbx⟩;have HF4:=hid (HF3.out.below hbx);clear hbx;clear p03 p13 p23 c03 c13 c23 c33 c43 c53 c63 c73;obtain⟨A4,n4,cp4,E4,m4,d4,D4,k4,e4,hp4,hcl4,p04,p14,p24,pf4,hst4,hI4,hn4,c04,c14,c24,c34,c44,c54,c64,c74⟩:=HF4.out.vals;have HST4:=hid hst4;have HI4:=hid hI4;clear hst4 hI4 pf4;rw[HEV.out]
    by_cases hev:EV=0
    rotate_left
    ·have q1:(EV != 0)=true:=by rw[bne_iff_ne];exact hev
     have hr:=HR8.out;rw[if_pos hev] at hr;have HR7:=hid hr;clear hr hev;go_wp2_with fail;refine(z0d 2 _).mono ?_;rintro e10 w10 ⟨rfl,hb10⟩;obtain⟨g0,g1',g2',g3,g4,g5,gf,W9,hW9,HR5,HOF,HBF,HAS⟩:=HF4.out.fin hb10 (.int .i64 2) (.int .i64 0) (.int .i64 0) (.bool false) (.string ⟨#[]⟩) (.slice none 0 0);clear hb10;go_wp2_with fail
     (try simp only[Exit.inBlock,Exit.then])
     refine z0e rfl HR5.out rfl rfl ?_;exact⟨by rw[←HR7.out];rfl,by rw[←HR7.out];exact HOF.out,HBF.out,HAS.out⟩
    ·subst hev;have hr:=HR8.out;rw[if_neg (by simp)] at hr;have HR7:=hid hr;clear hr;go_wp2_with fail;refine(z4t _ s DR NM ⟨#[]⟩ _ HST4.out hdr hns).mono ?_;rintro ex Z5 ⟨rfl,hbx⟩;have HF5:=hid (HF4.out.below hbx);clear hbx;clear p04 p14 p24 c04 c14 c24 c34 c44 c54 c64 c74;obtain⟨A5,n5,cp5,E5,m5,d5,D5,k5,e5,hp5,hcl5,p05,p15,p25,pf5,hst5,hI5,hn5,c05,c15,c25,c35,c45,c55,c65,c75⟩:=HF5.out.vals;have HST5:=hid hst5;have HI5:=hid hI5;clear hst5 hI5 pf5;rw[HFV.out];cases FV
     ·have hr:=HR7.out;rw[if_neg (by decide)] at hr;have HR6:=hid hr;have hzz:=HZ.out;rw[←hr] at hzz;have HZZ:=hid hzz;clear hr hzz;go_wp2_with fail;refine(z6n B p s DR NM N1 Z5 HF5.out.own (by have:=HF5.out.size;omega) hdr hns HZZ.out).mono ?_;rintro ex Z6 ⟨rfl,hox,hbx,hax⟩;have HF6:=hid (HF5.out.step hox hbx hax);clear hox hbx hax;clear p05 p15 p25 c05 c15 c25 c35 c45 c55 c65 c75;go_wp2_with fail;refine(z0d 0 _).mono ?_;rintro e10 w10 ⟨rfl,hb10⟩;obtain⟨g0,g1',g2',g3,g4,g5,gf,W9,hW9,HR5,HOF,HBF,HAS⟩:=HF6.out.fin hb10 (.int .i64 0) (.int .i64 0) (.int .i64 0) (.bool false) (.string ⟨#[]⟩) (.slice none 0 0);clear hb10;go_wp2_with fail
      (try simp only[Exit.inBlock,Exit.then])
      refine z0e rfl HR5.out rfl rfl ?_;exact⟨by rw[←HR6.out];rfl,by rw[←HR6.out];exact HOF.out,HBF.out,HAS.out⟩
     ·have hr:=HR7.out;rw[if_pos rfl] at hr;have HR6:=hid hr;clear hr;go_wp2_with fail;refine(z0d 5 _).mono ?_;rintro e10 w10 ⟨rfl,hb10⟩;obtain⟨g0,g1',g2',g3,g4,g5,gf,W9,hW9,HR5,HOF,HBF,HAS⟩:=HF5.out.fin hb10 (.int .i64 5) (.int .i64 0) (.int .i64 0) (.bool false) (.string ⟨#[]⟩) (.slice none 0 0);clear hb10;go_wp2_with fail
      (try simp only[Exit.inBlock,Exit.then])
      refine z0e rfl HR5.out rfl rfl ?_;exact⟨by rw[←HR6.out];rfl,by rw[←HR6.out];exact HOF.out,HBF.out,HAS.out⟩
  ·have hr:=HLV2.out;rw[if_pos rfl] at hr;have HR9:=hid hr;clear hr;go_wp2_with fail;have hX:=@Ext.cell Z1;refine wre ?_
   repeat (go_big_quiet_step (first|(go_at_call 94;rename_i X;exact Calls.ext_of (by have:=z0o _ s N1 _ (HST1.out.below X.bel);rw[HAT.out] at this;exact this))))
   refine wpQuiet_nil ?_;rintro w7 ⟨X,rfl⟩;generalize hZe:X.w=Z2;have hZ2:=hZe▸X.bel;have HF2:=hid (HF1.out.below hZ2);clear hZe X hX hZ2;clear p01 p11 p21 c01 c11 c21 c31 c41 c51 c61 c71;clear e0 e1 e2 e3;go_wp2_with fail;refine(z0d 8 _).mono ?_;rintro e10 w10 ⟨rfl,hb10⟩;obtain⟨g0,g1',g2',g3,g4,g5,gf,W9,hW9,HR5,HOF,HBF,HAS⟩:=HF2.out.fin hb10 (.int .i64 8) (.int .i64 0) (.int .i64 0) (.bool false) (.string ⟨#[]⟩) (.slice none 0 0);clear hb10;go_wp2_with fail
   (try simp only[Exit.inBlock,Exit.then])
   refine z0e rfl HR5.out rfl rfl ?_;exact⟨by rw[←HR9.out];rfl,by rw[←HR9.out];exact HOF.out,HBF.out,HAS.out⟩
end Go.Proofs.YtmmpkfcdfcldlaaGreat
namespace Go.Proofs.YtmmpkfcdfcldlaaGreat
open Lib (hid)
open Go.RowKit
set_option maxRecDepth 100000 in
set_option maxHeartbeats 16000000 in
theorem zhv (B p:Nat) (s:St) (c:Ca) (w:World) (h:Own B w p s) (hB:B≤w.heap.size) (hw:Whole s.inos) (hpz:c.path.size≤140737488355328) (hpz2:c.path2.size≤140737488355328) (hns:(parentV s.inos c.path2).2.1.size≤140737488355328)
  (hdeep:∀num,dirAt s.inos num=true→Deep s.inos (1+s.inos.length) num) (hz:Sized (namesV s c).1) (hk:c.kind=8∨c.kind=9∨c.kind=10∨c.kind=11):
  Calls Tryz.prog 83 #[.pointer (some ⟨p,0,.none⟩),caV c] w fun e w'=>e=.returned (resV (namesV s c).2)∧Own B w' p (namesV s c).1∧Below B w w'∧Aside p w w':=by
 obtain⟨LV,hLV⟩:∃LV,namesV s c=LV:=⟨_,rfl⟩;obtain⟨⟨DR,NM,C2⟩,hPA⟩:∃x,parentV s.inos c.path=x:=⟨_,rfl⟩;have hdr0:=z3i s.inos c.path;rw[hLV] at hz ⊢;unfold namesV at hLV;rw[hPA] at hLV hdr0;dsimp only at hLV hdr0;obtain⟨W,W2,hW,hW2,hsz1,hfr⟩:=Fr.start h hB c;have HF:=hid hfr;clear h hfr;obtain⟨A,n,cp,E,m,d,D,k,e,hp,hcl,p0,p1,p2,pf,hst,hI,hn,c0,c1,c2,c3,c4,c5,c6,c7⟩:=HF.out.vals;have HST:=hid hst;have HI:=hid hI;clear hst hI pf;have HLV:=hid hLV;have HPA:=hid hPA;have HW:=hid hw;have HZ:=hid hz;have HDR0:=hid hdr0;have HDEEP:=hid hdeep;have hps:p<w.heap.size:=HF.out.hp;have hwsz:w.heap.size+2≤W2.heap.size:=HF.out.size;clear hLV hPA hw hz hdr0 hdeep;obtain⟨KD,hKD⟩:∃KD,c.kind=KD:=⟨_,rfl⟩;have HKD:=hid hKD;rw[hKD] at c0 hk;unfold caV;rw[hKD];rw[hKD] at hW;clear hKD
 rcases hk with hk|hk|hk|hk
 ·subst hk;have hr:=HLV.out;rw[if_pos HKD.out] at hr;have HR:=hid hr;have hzz:=HZ.out;rw[←hr] at hzz;have HZZ:=hid hzz;clear hr hzz
  go_enter Tryz.func83,Tryz.ntmps83
  go_wp2_with fail;clear hW hW2;have hlk:=zjm B p s c W2 HF.out.own (by have:=HF.out.hB;omega) HW.out hpz hpz2 hns HZZ.out;unfold caV at hlk;rw[HKD.out] at hlk;refine hlk.mono ?_;clear hlk;rintro ex Z3 ⟨rfl,hox,hbx,hax⟩;have HF3:=hid (HF.out.step hox hbx hax);unfold resV;clear hox hbx hax p0 p1 p2 c0 c1 c2 c3 c4 c5 c6 c7;obtain⟨g0,g1',g2',g3,g4,g5,gf,W9,hW9,HR5,HOF,HBF,HAS⟩:=HF3.out.fin (Below.refl _ _) (.int .i64 (linkV s c).2.code) (.int .i64 (linkV s c).2.fd) (.int .i64 (linkV s c).2.num) (.bool (linkV s c).2.dir) (.string (linkV s c).2.data) (.slice none 0 0);go_wp2_with fail
  (try simp only[Exit.inBlock,Exit.then])
  refine z0e rfl HR5.out rfl rfl ?_;exact⟨by rw[←HR.out];rfl,by rw[←HR.out];exact HOF.out,HBF.out,HAS.out⟩
 ·subst hk;have hr:=HLV.out;rw[if_neg (by rw[HKD.out];decide)] at hr;have HR:=hid hr;clear hr
  go_enter Tryz.func83,Tryz.ntmps83
  go_wp2_with fail;clear hW hW2;have hX:=@Ext.cell W2;refine wre ?_
  repeat (go_big_quiet_step (first|(go_at_call 121;rename_i X;exact Calls.ext_of (by have:=z2n _ s c.path _ (HST.out.below X.bel) HW.out hpz;rw[HPA.out] at this;dsimp only at this;exact this))))
  refine wpQuiet_nil ?_;rintro w7 ⟨X,rfl⟩;generalize hZe:X.w=Z1;have hZ2:=hZe▸X.bel;have HF1:=hid (HF.out.below hZ2);clear hZe X hX hZ2;clear p0 p1 p2 c0 c1 c2 c3 c4 c5 c6 c7;obtain⟨A1,n1,cp1,E1,m1,d1,D1,k1,e1,hp1,hcl1,p01,p11,p21,pf1,hst1,hI1,hn1,c01,c11,c21,c31,c41,c51,c61,c71⟩:=HF1.out.vals;have HST1:=hid hst1;have HI1:=hid hI1;clear hst1 hI1 pf1;rw[HKD.out] at c01
  by_cases hc2:C2=0
  rotate_left
  ·have q1:(C2 != 0)=true:=by rw[bne_iff_ne];exact hc2
   have hr:=HR.out;rw[if_pos hc2] at hr;have HR8:=hid hr;clear hr hc2;go_wp2_with fail;refine(z0d C2 _).mono ?_;rintro e10 w10 ⟨rfl,hb10⟩;obtain⟨g0,g1',g2',g3,g4,g5,gf,W9,hW9,HR5,HOF,HBF,HAS⟩:=HF1.out.fin hb10 (.int .i64 C2) (.int .i64 0) (.int .i64 0) (.bool false) (.string ⟨#[]⟩) (.slice none 0 0);clear hb10;go_wp2_with fail
   (try simp only[Exit.inBlock,Exit.then])
   refine z0e rfl HR5.out rfl rfl ?_;exact⟨by rw[←HR8.out];rfl,by rw[←HR8.out];exact HOF.out,HBF.out,HAS.out⟩
  ·subst hc2;have hdr:=HDR0.out rfl;have hr:=HR.out;rw[if_neg (by decide)] at hr;obtain⟨EV,hEV⟩:∃EV,entV s.inos DR NM=EV:=⟨_,rfl⟩;rw[hEV] at hr;have HR8:=hid hr;have HEV:=hid hEV;have hew:EV≠0→0≤atV s.inos EV:=by rw[←hEV];exact fun h=>z2i HW.out h
   have HEW:=hid hew;clear hr hEV hew;go_wp2_with fail;refine(z1q _ s DR NM _ HST1.out).mono ?_;rintro ex Z4 ⟨rfl,hbx⟩;have HF4:=hid (HF1.out.below hbx);clear hbx;clear p01 p11 p21 c01 c11 c21 c31 c41 c51 c61 c71;obtain⟨A4,n4,cp4,E4,m4,d4,D4,k4,e4,hp4,hcl4,p04,p14,p24,pf4,hst4,hI4,hn4,c04,c14,c24,c34,c44,c54,c64,c74⟩:=HF4.out.vals;have HST4:=hid hst4;have HI4:=hid hI4;clear hst4 hI4 pf4;rw[HKD.out] at c04;rw[HEV.out]
   by_cases hev:EV=0
   ·subst hev;have hr:=HR8.out;rw[if_pos rfl] at hr;have HR7:=hid hr;clear hr;go_wp2_with fail;refine(z0d 1 _).mono ?_;rintro e10 w10 ⟨rfl,hb10⟩;obtain⟨g0,g1',g2',g3,g4,g5,gf,W9,hW9,HR5,HOF,HBF,HAS⟩:=HF4.out.fin hb10 (.int .i64 1) (.int .i64 0) (.int .i64 0) (.bool false) (.string ⟨#[]⟩) (.slice none 0 0);clear hb10;go_wp2_with fail
    (try simp only[Exit.inBlock,Exit.then])
    refine z0e rfl HR5.out rfl rfl ?_;exact⟨by rw[←HR7.out];rfl,by rw[←HR7.out];exact HOF.out,HBF.out,HAS.out⟩
   ·have q1:(EV==0)=false:=by rw[beq_eq_false_iff_ne];exact hev
    obtain⟨i,x,hat,hx,hxn⟩:=z0r (HEW.out hev);have hda:dirAt s.inos EV=x.dir:=by unfold dirAt;rw[hat,z0c,hx]
    have hen:entsOf s.inos EV=x.ents:=by unfold entsOf;rw[hat,z0c,hx]
    have hr:=HR8.out;rw[if_neg hev,hda,hen] at hr;have HR7:=hid hr;have HAT:=hid hat;have hin:i<n4:=by have:=(List.getElem?_eq_some_iff.1 hx).1;have:=HI4.out.1;omega
    obtain⟨g,og,x',E3,m3,d3,hA1,hg,hx',_,hmem,e0,e1,e2,hok3,hE3,e3⟩:=HI4.out.get i hin;subst hA1;have ex:x'=x:=by rw[hx] at hx';exact(Option.some.inj hx').symm
    subst ex;have i0:(0:Int)≤(i:Int):=by omega
    have i1:(i:Int)<(n4:Int):=by omega
    have hml:=hE3.1;clear hr hat hx hx' hmem hda hen hok3 hE3 hev hxn;have hX:True:=trivial;go_upto_region 9 with fail
    go_cut [9] (fun pv wx=>∃b,pv=.pointer (some ⟨b,0,.none⟩)∧wx.heap[b]? =some (.cells #[.int .i64 x'.num,.bool x'.dir,.slice E3 m3 d3,.string x'.data] 59 (0,0))∧Below Z4.heap.size Z4 wx)
    case first=>
     have nA:Z4.heap.size≠p:=by omega
     have nB:Z4.heap.size≠g:=by omega
     go_region_held3 (fun w'=>w'.cell? ⟨p,0,none⟩=some (.slice (some ⟨g,og,none⟩) n4 cp4)∧w'.cell? ⟨p,1,none⟩=some (.slice E4 m4 d4)∧w'.cell? ⟨p,2,none⟩=some (.slice D4 k4 e4)∧w'.cell? ⟨g,og+i*4,none⟩=some (.int .i64 x'.num)∧w'.cell? ⟨g,og+i*4+1,none⟩=some (.bool x'.dir)∧w'.cell? ⟨g,og+i*4+2,none⟩=some (.slice E3 m3 d3)∧w'.cell? ⟨g,og+i*4+3,none⟩=some (.string x'.data))
      (go_keep)
      ((go_at_call 94;refine(z0o _ s EV _ (HST4.out.below (by first|exact Cv.drewN_below (Below.refl _ _) 1|exact(Cv.drewN_below (Below.refl _ _) 1).alloc (by simp) _))).mono ?_;rintro e5 w5 ⟨rfl,hb5⟩;rw[HAT.out];have hbw5:Below Z4.heap.size Z4 w5:=(by first|exact Cv.next (Cv.drewN_below (Below.refl _ _) 1) hb5|exact Cv.next ((Cv.drewN_below (Below.refl _ _) 1).alloc (by simp) _) hb5);have z0:=(hbw5.cell (p:=⟨p,0,none⟩) hp4).trans p04;have z1:=(hbw5.cell (p:=⟨p,1,none⟩) hp4).trans p14;have z2:=(hbw5.cell (p:=⟨p,2,none⟩) hp4).trans p24;have f0:=(hbw5.cell (p:=⟨g,og+i*4,none⟩) hg).trans e0;have f1:=(hbw5.cell (p:=⟨g,og+i*4+1,none⟩) hg).trans e1;have f2:=(hbw5.cell (p:=⟨g,og+i*4+2,none⟩) hg).trans e2;have f3:=(hbw5.cell (p:=⟨g,og+i*4+3,none⟩) hg).trans e3;have hz5:=hbw5.size;have nC:w5.heap.size≠p:=(by omega);have nD:w5.heap.size≠g:=(by omega);(first|(have am:=z2j hb5 (al1 Z4 (.cells #[.int .i64 0,.bool false,.slice none 0 0,.string ⟨#[]⟩] 59));obtain⟨m0,m1,m2',m3',mf⟩:=zh7 am;have HAM:=hid am;clear am)|skip)))
     all_goals (
      go_wp2_with fail;go_meet)
     ·exact⟨w5.heap.size,rfl,z6o w5 _ _ rfl,hbw5.alloc hz5 _⟩
     ·exact⟨Z4.heap.size,rfl,heap_setCell_same _ _ 3 _ _ _ (heap_setCell_same _ _ 2 _ _ _ (heap_setCell_same _ _ 1 _ _ _ (heap_setCell_same _ _ 0 _ _ _ HAM.out))),(((hbw5.setCell (Nat.le_refl _) _).setCell (Nat.le_refl _) _).setCell (Nat.le_refl _) _).setCell (Nat.le_refl _) _⟩
    case rest=>
     obtain⟨bx,rfl,hbx,hbb⟩:=hcut;obtain⟨b0,b1,b2,b3,_⟩:=zh7 hbx;generalize wc=Z5 at *;have HF5:=hid (HF4.out.below hbb);clear hX hbx hbb e0 e1 e2 e3;obtain⟨A5,n5,cp5,E5,m5,d5,D5,k5,e5,hp5,hcl5,p05,p15,p25,pf5,hst5,hI5,hn5,c05,c15,c25,c35,c45,c55,c65,c75⟩:=HF5.out.vals;have HST5:=hid hst5;have HI5:=hid hI5;clear hst5 hI5 pf5;rw[HKD.out] at c05;obtain⟨DXX,hDXX⟩:∃DXX,x'.dir=DXX:=⟨_,rfl⟩;rw[hDXX] at HR7 b1;clear hDXX;cases DXX
     ·have hr:=HR7.out;rw[if_neg (by rw[HKD.out];decide),if_neg (by simp),if_neg (fun h=>by rw[HKD.out] at h;exact absurd h.1 (by decide)),if_neg (fun h=>by rw[HKD.out] at h;exact absurd h.1 (by decide))] at hr;have HR6:=hid hr;clear hr;go_wp2_with fail;refine(z4s B p s DR NM Z5 HF5.out.own (by have:=HF5.out.hB;have:=HF5.out.size;omega) hdr (HF5.out.own.sized.dropE DR NM)).mono ?_;rintro ex Z6 ⟨rfl,hox,hbx,hax⟩;have HF6:=hid (HF5.out.step hox hbx hax);clear hox hbx hax;clear p05 p15 p25 c05 c15 c25 c35 c45 c55 c65 c75;go_wp2_with fail;refine(z8t B p _ EV Z6 HF6.out.own (by have:=HF6.out.hB;have:=HF6.out.size;omega)).mono ?_;rintro ex Z7 ⟨rfl,hox,hbx,hax⟩;have HF7:=hid (HF6.out.step hox hbx hax);clear hox hbx hax;go_wp2_with fail;refine(z0d 0 _).mono ?_;rintro e10 w10 ⟨rfl,hb10⟩;obtain⟨g0,g1',g2',g3,g4,g5,gf,W9,hW9,HR5,HOF,HBF,HAS⟩:=HF7.out.fin hb10 (.int .i64 0) (.int .i64 0) (.int .i64 0) (.bool false) (.string ⟨#[]⟩) (.slice none 0 0)
      clear hb10;go_wp2_with fail
      (try simp only[Exit.inBlock,Exit.then])
      refine z0e rfl HR5.out rfl rfl ?_;exact⟨by rw[←HR6.out];rfl,by rw[←HR6.out];exact HOF.out,HBF.out,HAS.out⟩
     ·have hr:=HR7.out;rw[if_neg (by rw[HKD.out];decide),if_pos ⟨HKD.out,rfl⟩] at hr;have HR6:=hid hr;clear hr;go_wp2_with fail;refine(z0d 8 _).mono ?_;rintro e10 w10 ⟨rfl,hb10⟩;obtain⟨g0,g1',g2',g3,g4,g5,gf,W9,hW9,HR5,HOF,HBF,HAS⟩:=HF5.out.fin hb10 (.int .i64 8) (.int .i64 0) (.int .i64 0) (.bool false) (.string ⟨#[]⟩) (.slice none 0 0);clear hb10;go_wp2_with fail
      (try simp only[Exit.inBlock,Exit.then])
      refine z0e rfl HR5.out rfl rfl ?_;exact⟨by rw[←HR6.out];rfl,by rw[←HR6.out];exact HOF.out,HBF.out,HAS.out⟩
 ·subst hk;have hr:=HLV.out;rw[if_neg (by rw[HKD.out];decide)] at hr;have HR:=hid hr;clear hr
  go_enter Tryz.func83,Tryz.ntmps83
  go_wp2_with fail;clear hW hW2;have hX:=@Ext.cell W2;refine wre ?_
  repeat (go_big_quiet_step (first|(go_at_call 121;rename_i X;exact Calls.ext_of (by have:=z2n _ s c.path _ (HST.out.below X.bel) HW.out hpz;rw[HPA.out] at this;dsimp only at this;exact this))))
  refine wpQuiet_nil ?_;rintro w7 ⟨X,rfl⟩;generalize hZe:X.w=Z1;have hZ2:=hZe▸X.bel;have HF1:=hid (HF.out.below hZ2);clear hZe X hX hZ2;clear p0 p1 p2 c0 c1 c2 c3 c4 c5 c6 c7;obtain⟨A1,n1,cp1,E1,m1,d1,D1,k1,e1,hp1,hcl1,p01,p11,p21,pf1,hst1,hI1,hn1,c01,c11,c21,c31,c41,c51,c61,c71⟩:=HF1.out.vals;have HST1:=hid hst1;have HI1:=hid hI1;clear hst1 hI1 pf1;rw[HKD.out] at c01
  by_cases hc2:C2=0
  rotate_left
  ·have q1:(C2 != 0)=true:=by rw[bne_iff_ne];exact hc2
   have hr:=HR.out;rw[if_pos hc2] at hr;have HR8:=hid hr;clear hr hc2;go_wp2_with fail;refine(z0d C2 _).mono ?_;rintro e10 w10 ⟨rfl,hb10⟩;obtain⟨g0,g1',g2',g3,g4,g5,gf,W9,hW9,HR5,HOF,HBF,HAS⟩:=HF1.out.fin hb10 (.int .i64 C2) (.int .i64 0) (.int .i64 0) (.bool false) (.string ⟨#[]⟩) (.slice none 0 0);clear hb10;go_wp2_with fail
   (try simp only[Exit.inBlock,Exit.then])
   refine z0e rfl HR5.out rfl rfl ?_;exact⟨by rw[←HR8.out];rfl,by rw[←HR8.out];exact HOF.out,HBF.out,HAS.out⟩
  ·subst hc2;have hdr:=HDR0.out rfl;have hr:=HR.out;rw[if_neg (by decide)] at hr;obtain⟨EV,hEV⟩:∃EV,entV s.inos DR NM=EV:=⟨_,rfl⟩;rw[hEV] at hr;have HR8:=hid hr;have HEV:=hid hEV;have hew:EV≠0→0≤atV s.inos EV:=by rw[←hEV];exact fun h=>z2i HW.out h
   have HEW:=hid hew;clear hr hEV hew;go_wp2_with fail;refine(z1q _ s DR NM _ HST1.out).mono ?_;rintro ex Z4 ⟨rfl,hbx⟩;have HF4:=hid (HF1.out.below hbx);clear hbx;clear p01 p11 p21 c01 c11 c21 c31 c41 c51 c61 c71;obtain⟨A4,n4,cp4,E4,m4,d4,D4,k4,e4,hp4,hcl4,p04,p14,p24,pf4,hst4,hI4,hn4,c04,c14,c24,c34,c44,c54,c64,c74⟩:=HF4.out.vals;have HST4:=hid hst4;have HI4:=hid hI4;clear hst4 hI4 pf4;rw[HKD.out] at c04;rw[HEV.out]
   by_cases hev:EV=0
   ·subst hev;have hr:=HR8.out;rw[if_pos rfl] at hr;have HR7:=hid hr;clear hr;go_wp2_with fail;refine(z0d 1 _).mono ?_;rintro e10 w10 ⟨rfl,hb10⟩;obtain⟨g0,g1',g2',g3,g4,g5,gf,W9,hW9,HR5,HOF,HBF,HAS⟩:=HF4.out.fin hb10 (.int .i64 1) (.int .i64 0) (.int .i64 0) (.bool false) (.string ⟨#[]⟩) (.slice none 0 0);clear hb10;go_wp2_with fail
    (try simp only[Exit.inBlock,Exit.then])
    refine z0e rfl HR5.out rfl rfl ?_;exact⟨by rw[←HR7.out];rfl,by rw[←HR7.out];exact HOF.out,HBF.out,HAS.out⟩
   ·have q1:(EV==0)=false:=by rw[beq_eq_false_iff_ne];exact hev
    obtain⟨i,x,hat,hx,hxn⟩:=z0r (HEW.out hev);have hda:dirAt s.inos EV=x.dir:=by unfold dirAt;rw[hat,z0c,hx]
    have hen:entsOf s.inos EV=x.ents:=by unfold entsOf;rw[hat,z0c,hx]
    have hr:=HR8.out;rw[if_neg hev,hda,hen] at hr;have HR7:=hid hr;have HAT:=hid hat;have hin:i<n4:=by have:=(List.getElem?_eq_some_iff.1 hx).1;have:=HI4.out.1;omega
    obtain⟨g,og,x',E3,m3,d3,hA1,hg,hx',_,hmem,e0,e1,e2,hok3,hE3,e3⟩:=HI4.out.get i hin;subst hA1;have ex:x'=x:=by rw[hx] at hx';exact(Option.some.inj hx').symm
    subst ex;have i0:(0:Int)≤(i:Int):=by omega
    have i1:(i:Int)<(n4:Int):=by omega
    have hml:=hE3.1;clear hr hat hx hx' hmem hda hen hok3 hE3 hev hxn;have hX:True:=trivial;go_upto_region 9 with fail
    go_cut [9] (fun pv wx=>∃b,pv=.pointer (some ⟨b,0,.none⟩)∧wx.heap[b]? =some (.cells #[.int .i64 x'.num,.bool x'.dir,.slice E3 m3 d3,.string x'.data] 59 (0,0))∧Below Z4.heap.size Z4 wx)
    case first=>
     have nA:Z4.heap.size≠p:=by omega
     have nB:Z4.heap.size≠g:=by omega
     go_region_held3 (fun w'=>w'.cell? ⟨p,0,none⟩=some (.slice (some ⟨g,og,none⟩) n4 cp4)∧w'.cell? ⟨p,1,none⟩=some (.slice E4 m4 d4)∧w'.cell? ⟨p,2,none⟩=some (.slice D4 k4 e4)∧w'.cell? ⟨g,og+i*4,none⟩=some (.int .i64 x'.num)∧w'.cell? ⟨g,og+i*4+1,none⟩=some (.bool x'.dir)∧w'.cell? ⟨g,og+i*4+2,none⟩=some (.slice E3 m3 d3)∧w'.cell? ⟨g,og+i*4+3,none⟩=some (.string x'.data))
      (go_keep)
      ((go_at_call 94;refine(z0o _ s EV _ (HST4.out.below (by first|exact Cv.drewN_below (Below.refl _ _) 1|exact(Cv.drewN_below (Below.refl _ _) 1).alloc (by simp) _))).mono ?_;rintro e5 w5 ⟨rfl,hb5⟩;rw[HAT.out];have hbw5:Below Z4.heap.size Z4 w5:=(by first|exact Cv.next (Cv.drewN_below (Below.refl _ _) 1) hb5|exact Cv.next ((Cv.drewN_below (Below.refl _ _) 1).alloc (by simp) _) hb5);have z0:=(hbw5.cell (p:=⟨p,0,none⟩) hp4).trans p04;have z1:=(hbw5.cell (p:=⟨p,1,none⟩) hp4).trans p14;have z2:=(hbw5.cell (p:=⟨p,2,none⟩) hp4).trans p24;have f0:=(hbw5.cell (p:=⟨g,og+i*4,none⟩) hg).trans e0;have f1:=(hbw5.cell (p:=⟨g,og+i*4+1,none⟩) hg).trans e1;have f2:=(hbw5.cell (p:=⟨g,og+i*4+2,none⟩) hg).trans e2;have f3:=(hbw5.cell (p:=⟨g,og+i*4+3,none⟩) hg).trans e3;have hz5:=hbw5.size;have nC:w5.heap.size≠p:=(by omega);have nD:w5.heap.size≠g:=(by omega);(first|(have am:=z2j hb5 (al1 Z4 (.cells #[.int .i64 0,.bool false,.slice none 0 0,.string ⟨#[]⟩] 59));obtain⟨m0,m1,m2',m3',mf⟩:=zh7 am;have HAM:=hid am;clear am)|skip)))
     all_goals (
      go_wp2_with fail;go_meet)
     ·exact⟨w5.heap.size,rfl,z6o w5 _ _ rfl,hbw5.alloc hz5 _⟩
     ·exact⟨Z4.heap.size,rfl,heap_setCell_same _ _ 3 _ _ _ (heap_setCell_same _ _ 2 _ _ _ (heap_setCell_same _ _ 1 _ _ _ (heap_setCell_same _ _ 0 _ _ _ HAM.out))),(((hbw5.setCell (Nat.le_refl _) _).setCell (Nat.le_refl _) _).setCell (Nat.le_refl _) _).setCell (Nat.le_refl _) _⟩
    case rest=>
     obtain⟨bx,rfl,hbx,hbb⟩:=hcut;obtain⟨b0,b1,b2,b3,_⟩:=zh7 hbx;generalize wc=Z5 at *;have HF5:=hid (HF4.out.below hbb);clear hX hbx hbb e0 e1 e2 e3;obtain⟨A5,n5,cp5,E5,m5,d5,D5,k5,e5,hp5,hcl5,p05,p15,p25,pf5,hst5,hI5,hn5,c05,c15,c25,c35,c45,c55,c65,c75⟩:=HF5.out.vals;have HST5:=hid hst5;have HI5:=hid hI5;clear hst5 hI5 pf5;rw[HKD.out] at c05;obtain⟨DXX,hDXX⟩:∃DXX,x'.dir=DXX:=⟨_,rfl⟩;rw[hDXX] at HR7 b1;clear hDXX;cases DXX
     ·have hr:=HR7.out;rw[if_neg (by rw[HKD.out];decide),if_neg (by simp),if_pos ⟨HKD.out,rfl⟩] at hr;have HR6:=hid hr;clear hr;go_wp2_with fail;refine(z0d 7 _).mono ?_;rintro e10 w10 ⟨rfl,hb10⟩;obtain⟨g0,g1',g2',g3,g4,g5,gf,W9,hW9,HR5,HOF,HBF,HAS⟩:=HF5.out.fin hb10 (.int .i64 7) (.int .i64 0) (.int .i64 0) (.bool false) (.string ⟨#[]⟩) (.slice none 0 0);clear hb10;go_wp2_with fail
      (try simp only[Exit.inBlock,Exit.then])
      refine z0e rfl HR5.out rfl rfl ?_;exact⟨by rw[←HR6.out];rfl,by rw[←HR6.out];exact HOF.out,HBF.out,HAS.out⟩
     ·by_cases hem:m3=0
      ·subst hem;have hr:=HR7.out;rw[if_neg (by rw[HKD.out];decide),if_neg (fun h=>by rw[HKD.out] at h;exact absurd h.1 (by decide)),if_neg (by simp),if_neg (fun h=>h.2 (List.eq_nil_of_length_eq_zero hml))] at hr;have HR6:=hid hr;clear hr;go_wp2_with fail;refine(z4s B p s DR NM Z5 HF5.out.own (by have:=HF5.out.hB;have:=HF5.out.size;omega) hdr (HF5.out.own.sized.dropE DR NM)).mono ?_;rintro ex Z6 ⟨rfl,hox,hbx,hax⟩;have HF6:=hid (HF5.out.step hox hbx hax);clear hox hbx hax;clear p05 p15 p25 c05 c15 c25 c35 c45 c55 c65 c75;go_wp2_with fail;refine(z8t B p _ EV Z6 HF6.out.own (by have:=HF6.out.hB;have:=HF6.out.size;omega)).mono ?_;rintro ex Z7 ⟨rfl,hox,hbx,hax⟩;have HF7:=hid (HF6.out.step hox hbx hax);clear hox hbx hax;go_wp2_with fail;refine(z0d 0 _).mono ?_;rintro e10 w10 ⟨rfl,hb10⟩;obtain⟨g0,g1',g2',g3,g4,g5,gf,W9,hW9,HR5,HOF,HBF,HAS⟩:=HF7.out.fin hb10 (.int .i64 0) (.int .i64 0) (.int .i64 0) (.bool false) (.string ⟨#[]⟩) (.slice none 0 0)
       clear hb10;go_wp2_with fail
       (try simp only[Exit.inBlock,Exit.then])
       refine z0e rfl HR5.out rfl rfl ?_;exact⟨by rw[←HR6.out];rfl,by rw[←HR6.out];exact HOF.out,HBF.out,HAS.out⟩
      ·have q5:decide ((0:Int)<(m3:Int))=true:=by rw[decide_eq_true_eq];omega
       have q6:decide (0<m3)=true:=by rw[decide_eq_true_eq];omega
       have hne:x'.ents≠[]:=fun h=>by rw[h] at hml;exact hem hml.symm
       have HNE:=hid hne;clear hem hne;have hr:=HR7.out;rw[if_neg (by rw[HKD.out];decide),if_neg (fun h=>by rw[HKD.out] at h;exact absurd h.1 (by decide)),if_neg (by simp),if_pos ⟨HKD.out,HNE.out⟩] at hr;have HR6:=hid hr;clear hr;go_wp2_with fail;refine(z0d 3 _).mono ?_;rintro e10 w10 ⟨rfl,hb10⟩;obtain⟨g0,g1',g2',g3,g4,g5,gf,W9,hW9,HR5,HOF,HBF,HAS⟩:=HF5.out.fin hb10 (.int .i64 3) (.int .i64 0) (.int .i64 0) (.bool false) (.string ⟨#[]⟩) (.slice none 0 0);clear hb10;go_wp2_with fail
       (try simp only[Exit.inBlock,Exit.then])
       refine z0e rfl HR5.out rfl rfl ?_;exact⟨by rw[←HR6.out];rfl,by rw[←HR6.out];exact HOF.out,HBF.out,HAS.out⟩
 ·subst hk;have hr:=HLV.out;rw[if_neg (by rw[HKD.out];decide)] at hr;have HR:=hid hr;clear hr
  go_enter Tryz.func83,Tryz.ntmps83
  go_wp2_with fail;clear hW hW2;have hX:=@Ext.cell W2;refine wre ?_
  repeat (go_big_quiet_step (first|(go_at_call 121;rename_i X;exact Calls.ext_of (by have:=z2n _ s c.path _ (HST.out.below X.bel) HW.out hpz;rw[HPA.out] at this;dsimp only at this;exact this))))
  refine wpQuiet_nil ?_;rintro w7 ⟨X,rfl⟩;generalize hZe:X.w=Z1;have hZ2:=hZe▸X.bel;have HF1:=hid (HF.out.below hZ2);clear hZe X hX hZ2;clear p0 p1 p2 c0 c1 c2 c3 c4 c5 c6 c7;obtain⟨A1,n1,cp1,E1,m1,d1,D1,k1,e1,hp1,hcl1,p01,p11,p21,pf1,hst1,hI1,hn1,c01,c11,c21,c31,c41,c51,c61,c71⟩:=HF1.out.vals;have HST1:=hid hst1;have HI1:=hid hI1;clear hst1 hI1 pf1;rw[HKD.out] at c01
  by_cases hc2:C2=0
  rotate_left
  ·have q1:(C2 != 0)=true:=by rw[bne_iff_ne];exact hc2
   have hr:=HR.out;rw[if_pos hc2] at hr;have HR8:=hid hr;clear hr hc2;go_wp2_with fail;refine(z0d C2 _).mono ?_;rintro e10 w10 ⟨rfl,hb10⟩;obtain⟨g0,g1',g2',g3,g4,g5,gf,W9,hW9,HR5,HOF,HBF,HAS⟩:=HF1.out.fin hb10 (.int .i64 C2) (.int .i64 0) (.int .i64 0) (.bool false) (.string ⟨#[]⟩) (.slice none 0 0);clear hb10;go_wp2_with fail
   (try simp only[Exit.inBlock,Exit.then])
   refine z0e rfl HR5.out rfl rfl ?_;exact⟨by rw[←HR8.out];rfl,by rw[←HR8.out];exact HOF.out,HBF.out,HAS.out⟩
  ·subst hc2;have hdr:=HDR0.out rfl;have hr:=HR.out;rw[if_neg (by decide)] at hr;obtain⟨EV,hEV⟩:∃EV,entV s.inos DR NM=EV:=⟨_,rfl⟩;rw[hEV] at hr;have HR8:=hid hr;have HEV:=hid hEV;have hew:EV≠0→0≤atV s.inos EV:=by rw[←hEV];exact fun h=>z2i HW.out h
   have HEW:=hid hew;clear hr hEV hew;go_wp2_with fail;refine(z1q _ s DR NM _ HST1.out).mono ?_;rintro ex Z4 ⟨rfl,hbx⟩;have HF4:=hid (HF1.out.below hbx);clear hbx;clear p01 p11 p21 c01 c11 c21 c31 c41 c51 c61 c71;obtain⟨A4,n4,cp4,E4,m4,d4,D4,k4,e4,hp4,hcl4,p04,p14,p24,pf4,hst4,hI4,hn4,c04,c14,c24,c34,c44,c54,c64,c74⟩:=HF4.out.vals;have HST4:=hid hst4;have HI4:=hid hI4;clear hst4 hI4 pf4;rw[HKD.out] at c04;rw[HEV.out]
   by_cases hev:EV=0
   ·subst hev;have hr:=HR8.out;rw[if_pos rfl] at hr;have HR7:=hid hr;clear hr;go_wp2_with fail;refine(z0d 1 _).mono ?_;rintro e10 w10 ⟨rfl,hb10⟩;obtain⟨g0,g1',g2',g3,g4,g5,gf,W9,hW9,HR5,HOF,HBF,HAS⟩:=HF4.out.fin hb10 (.int .i64 1) (.int .i64 0) (.int .i64 0) (.bool false) (.string ⟨#[]⟩) (.slice none 0 0);clear hb10;go_wp2_with fail
    (try simp only[Exit.inBlock,Exit.then])
    refine z0e rfl HR5.out rfl rfl ?_;exact⟨by rw[←HR7.out];rfl,by rw[←HR7.out];exact HOF.out,HBF.out,HAS.out⟩
   ·have q1:(EV==0)=false:=by rw[beq_eq_false_iff_ne];exact hev
    obtain⟨i,x,hat,hx,hxn⟩:=z0r (HEW.out hev);have hda:dirAt s.inos EV=x.dir:=by unfold dirAt;rw[hat,z0c,hx]
    have hen:entsOf s.inos EV=x.ents:=by unfold entsOf;rw[hat,z0c,hx]
    have hr:=HR8.out;rw[if_neg hev,hda,hen] at hr;have HR7:=hid hr;have HAT:=hid hat;have hin:i<n4:=by have:=(List.getElem?_eq_some_iff.1 hx).1;have:=HI4.out.1;omega
    obtain⟨g,og,x',E3,m3,d3,hA1,hg,hx',_,hmem,e0,e1,e2,hok3,hE3,e3⟩:=HI4.out.get i hin;subst hA1;have ex:x'=x:=by rw[hx] at hx';exact(Option.some.inj hx').symm
    subst ex;have i0:(0:Int)≤(i:Int):=by omega
    have i1:(i:Int)<(n4:Int):=by omega
    have hml:=hE3.1;clear hr hat hx hx' hmem hda hen hok3 hE3 hev hxn;have hX:True:=trivial;go_upto_region 9 with fail
    go_cut [9] (fun pv wx=>∃b,pv=.pointer (some ⟨b,0,.none⟩)∧wx.heap[b]? =some (.cells #[.int .i64 x'.num,.bool x'.dir,.slice E3 m3 d3,.string x'.data] 59 (0,0))∧Below Z4.heap.size Z4 wx)
    case first=>
     have nA:Z4.heap.size≠p:=by omega
     have nB:Z4.heap.size≠g:=by omega
     go_region_held3 (fun w'=>w'.cell? ⟨p,0,none⟩=some (.slice (some ⟨g,og,none⟩) n4 cp4)∧w'.cell? ⟨p,1,none⟩=some (.slice E4 m4 d4)∧w'.cell? ⟨p,2,none⟩=some (.slice D4 k4 e4)∧w'.cell? ⟨g,og+i*4,none⟩=some (.int .i64 x'.num)∧w'.cell? ⟨g,og+i*4+1,none⟩=some (.bool x'.dir)∧w'.cell? ⟨g,og+i*4+2,none⟩=some (.slice E3 m3 d3)∧w'.cell? ⟨g,og+i*4+3,none⟩=some (.string x'.data))
      (go_keep)
      ((go_at_call 94;refine(z0o _ s EV _ (HST4.out.below (by first|exact Cv.drewN_below (Below.refl _ _) 1|exact(Cv.drewN_below (Below.refl _ _) 1).alloc (by simp) _))).mono ?_;rintro e5 w5 ⟨rfl,hb5⟩;rw[HAT.out];have hbw5:Below Z4.heap.size Z4 w5:=(by first|exact Cv.next (Cv.drewN_below (Below.refl _ _) 1) hb5|exact Cv.next ((Cv.drewN_below (Below.refl _ _) 1).alloc (by simp) _) hb5);have z0:=(hbw5.cell (p:=⟨p,0,none⟩) hp4).trans p04;have z1:=(hbw5.cell (p:=⟨p,1,none⟩) hp4).trans p14;have z2:=(hbw5.cell (p:=⟨p,2,none⟩) hp4).trans p24;have f0:=(hbw5.cell (p:=⟨g,og+i*4,none⟩) hg).trans e0;have f1:=(hbw5.cell (p:=⟨g,og+i*4+1,none⟩) hg).trans e1;have f2:=(hbw5.cell (p:=⟨g,og+i*4+2,none⟩) hg).trans e2;have f3:=(hbw5.cell (p:=⟨g,og+i*4+3,none⟩) hg).trans e3;have hz5:=hbw5.size;have nC:w5.heap.size≠p:=(by omega);have nD:w5.heap.size≠g:=(by omega);(first|(have am:=z2j hb5 (al1 Z4 (.cells #[.int .i64 0,.bool false,.slice none 0 0,.string ⟨#[]⟩] 59));obtain⟨m0,m1,m2',m3',mf⟩:=zh7 am;have HAM:=hid am;clear am)|skip)))
     all_goals (
      go_wp2_with fail;go_meet)
     ·exact⟨w5.heap.size,rfl,z6o w5 _ _ rfl,hbw5.alloc hz5 _⟩
     ·exact⟨Z4.heap.size,rfl,heap_setCell_same _ _ 3 _ _ _ (heap_setCell_same _ _ 2 _ _ _ (heap_setCell_same _ _ 1 _ _ _ (heap_setCell_same _ _ 0 _ _ _ HAM.out))),(((hbw5.setCell (Nat.le_refl _) _).setCell (Nat.le_refl _) _).setCell (Nat.le_refl _) _).setCell (Nat.le_refl _) _⟩
    case rest=>
     obtain⟨bx,rfl,hbx,hbb⟩:=hcut;obtain⟨b0,b1,b2,b3,_⟩:=zh7 hbx;generalize wc=Z5 at *;have HF5:=hid (HF4.out.below hbb);clear hX hbx hbb e0 e1 e2 e3;obtain⟨A5,n5,cp5,E5,m5,d5,D5,k5,e5,hp5,hcl5,p05,p15,p25,pf5,hst5,hI5,hn5,c05,c15,c25,c35,c45,c55,c65,c75⟩:=HF5.out.vals;have HST5:=hid hst5;have HI5:=hid hI5;clear hst5 hI5 pf5;rw[HKD.out] at c05;obtain⟨DXX,hDXX⟩:∃DXX,x'.dir=DXX:=⟨_,rfl⟩;have hr:=HR7.out;rw[if_pos HKD.out] at hr;have HR6:=hid hr;have hzz:=HZ.out;rw[←hr] at hzz;have HZZ:=hid hzz;clear hr hzz hDXX;go_wp2_with fail;have hlk:=zg2 B p s c DR NM EV Z5 HF5.out.own (by have:=HF5.out.hB;have:=HF5.out.size;omega) HW.out hpz2 hns hdr (by rw[HAT.out];omega) (HDEEP.out EV) HZZ.out;unfold caV at hlk;rw[HKD.out] at hlk;refine hlk.mono ?_;clear hlk;rintro ex Z6 ⟨rfl,hox,hbx,hax⟩;have HF6:=hid (HF5.out.step hox hbx hax)
     unfold resV;clear hox hbx hax;clear p05 p15 p25 c05 c15 c25 c35 c45 c55 c65 c75;obtain⟨g0,g1',g2',g3,g4,g5,gf,W9,hW9,HR5,HOF,HBF,HAS⟩:=HF6.out.fin (Below.refl _ _) (.int .i64 (renameV s c DR NM EV).2.code) (.int .i64 (renameV s c DR NM EV).2.fd) (.int .i64 (renameV s c DR NM EV).2.num) (.bool (renameV s c DR NM EV).2.dir) (.string (renameV s c DR NM EV).2.data) (.slice none 0 0);go_wp2_with fail
     (try simp only[Exit.inBlock,Exit.then])
     refine z0e rfl HR5.out rfl rfl ?_;exact⟨by rw[←HR6.out];rfl,by rw[←HR6.out];exact HOF.out,HBF.out,HAS.out⟩
end Go.Proofs.YtmmpkfcdfcldlaaGreat
