/- Parts of the proof, side by side: FsNames, LaBuild, FsSized, FsSized2. -/
import Derived.Test.YtmmpkfcdfcldlaaGreatM10
import Derived.Test.YtmmpkfcdfcldlaaGreatM17
import Derived.Deep.RegionHeld3
import Derived.Test.YtmmpkfcdfcldlaaGreatM02
import Derived.Lib.Builder
import Derived.Lib.FrozenHead2
import Derived.Lib.UnsafeStr
import Derived.Shelf.RegionOpenPlain
import Derived.Test.YtmmpkfcdfcldlaaGreatFsMake
import Derived.Lib.BufferWrite
import Derived.Deep.WholeRow
import Derived.Deep.RegionWith
set_option linter.unusedVariables false
set_option linter.unusedSimpArgs false
namespace Go.Proofs.YtmmpkfcdfcldlaaGreat
open Lib (hid)
open Go.RowKit
set_option maxRecDepth 100000 in
set_option maxHeartbeats 16000000 in
theorem zhm (B p:Nat) (s:St) (c:Ca) (w:World) (h:Own B w p s) (hB:B≤w.heap.size) (hw:Whole s.inos) (hpz:c.path.size≤140737488355328) (hpz2:c.path2.size≤140737488355328) (hns:(parentV s.inos c.path2).2.1.size≤140737488355328)
  (hdeep:∀num,dirAt s.inos num=true→Deep s.inos (1+s.inos.length) num) (hz:Sized (namesV s c).1) (hk:c.kind=8∨c.kind=9∨c.kind=10∨c.kind=11):
  Calls Tryz.prog 83 #[.pointer (some ⟨p,0,.none⟩),caV c] w fun e w'=>e=.returned (resV (namesV s c).2)∧Own B w' p (namesV s c).1∧Below B w w'∧Aside p w w':=by
 obtain⟨LV,hLV⟩:∃LV,namesV s c=LV:=⟨_,rfl⟩;obtain⟨⟨DR,NM,C2⟩,hPA⟩:∃x,parentV s.inos c.path=x:=⟨_,rfl⟩;have hdr0:=z3d s.inos c.path;rw[hLV] at hz ⊢;unfold namesV at hLV;rw[hPA] at hLV hdr0;dsimp only at hLV hdr0;obtain⟨W,W2,hW,hW2,hsz1,hfr⟩:=Fr.start h hB c;have HF:=hid hfr;clear h hfr;obtain⟨A,n,cp,E,m,d,D,k,e,hp,hcl,p0,p1,p2,pf,hst,hI,hn,c0,c1,c2,c3,c4,c5,c6,c7⟩:=HF.out.vals;have HST:=hid hst;have HI:=hid hI;clear hst hI pf;have HLV:=hid hLV;have HPA:=hid hPA;have HW:=hid hw;have HZ:=hid hz;have HDR0:=hid hdr0;have HDEEP:=hid hdeep;have hps:p<w.heap.size:=HF.out.hp;have hwsz:w.heap.size+2≤W2.heap.size:=HF.out.size;clear hLV hPA hw hz hdr0 hdeep;obtain⟨KD,hKD⟩:∃KD,c.kind=KD:=⟨_,rfl⟩;have HKD:=hid hKD;rw[hKD] at c0 hk;unfold caV;rw[hKD];rw[hKD] at hW;clear hKD
 rcases hk with hk|hk|hk|hk
 ·subst hk;have hr:=HLV.out;rw[if_pos HKD.out] at hr;have HR:=hid hr;have hzz:=HZ.out;rw[←hr] at hzz;have HZZ:=hid hzz;clear hr hzz
  go_enter Tryz.func83,Tryz.ntmps83
  go_wp2_with fail;clear hW hW2;have hlk:=zjb B p s c W2 HF.out.own (by have:=HF.out.hB;omega) HW.out hpz hpz2 hns HZZ.out;unfold caV at hlk;rw[HKD.out] at hlk;refine hlk.mono ?_;clear hlk;rintro ex Z3 ⟨rfl,hox,hbx,hax⟩;have HF3:=hid (HF.out.step hox hbx hax);unfold resV;clear hox hbx hax p0 p1 p2 c0 c1 c2 c3 c4 c5 c6 c7;obtain⟨g0,g1',g2',g3,g4,g5,gf,W9,hW9,HR5,HOF,HBF,HAS⟩:=HF3.out.fin (Below.refl _ _) (.int .i64 (linkV s c).2.code) (.int .i64 (linkV s c).2.fd) (.int .i64 (linkV s c).2.num) (.bool (linkV s c).2.dir) (.string (linkV s c).2.data) (.slice none 0 0);go_wp2_with fail
  (try simp only[Exit.inBlock,Exit.then])
  refine z0e rfl HR5.out rfl rfl ?_;exact⟨by rw[←HR.out];rfl,by rw[←HR.out];exact HOF.out,HBF.out,HAS.out⟩
 ·subst hk;have hr:=HLV.out;rw[if_neg (by rw[HKD.out];decide)] at hr;have HR:=hid hr;clear hr
  go_enter Tryz.func83,Tryz.ntmps83
  go_wp2_with fail;clear hW hW2;have hX:=@Ext.cell W2;refine wre ?_
  repeat (go_big_quiet_step (first|(go_at_call 121;rename_i X;exact Calls.ext_of (by have:=z2k _ s c.path _ (HST.out.below X.bel) HW.out hpz;rw[HPA.out] at this;dsimp only at this;exact this))))
  refine wpQuiet_nil ?_;rintro w7 ⟨X,rfl⟩;generalize hZe:X.w=Z1;have hZ2:=hZe▸X.bel;have HF1:=hid (HF.out.below hZ2);clear hZe X hX hZ2;clear p0 p1 p2 c0 c1 c2 c3 c4 c5 c6 c7;obtain⟨A1,n1,cp1,E1,m1,d1,D1,k1,e1,hp1,hcl1,p01,p11,p21,pf1,hst1,hI1,hn1,c01,c11,c21,c31,c41,c51,c61,c71⟩:=HF1.out.vals;have HST1:=hid hst1;have HI1:=hid hI1;clear hst1 hI1 pf1;rw[HKD.out] at c01
  by_cases hc2:C2=0
  rotate_left
  ·have q1:(C2 != 0)=true:=by rw[bne_iff_ne];exact hc2
   have hr:=HR.out;rw[if_pos hc2] at hr;have HR8:=hid hr;clear hr hc2;go_wp2_with fail;refine(z0d C2 _).mono ?_;rintro e10 w10 ⟨rfl,hb10⟩;obtain⟨g0,g1',g2',g3,g4,g5,gf,W9,hW9,HR5,HOF,HBF,HAS⟩:=HF1.out.fin hb10 (.int .i64 C2) (.int .i64 0) (.int .i64 0) (.bool false) (.string ⟨#[]⟩) (.slice none 0 0);clear hb10;go_wp2_with fail
   (try simp only[Exit.inBlock,Exit.then])
   refine z0e rfl HR5.out rfl rfl ?_;exact⟨by rw[←HR8.out];rfl,by rw[←HR8.out];exact HOF.out,HBF.out,HAS.out⟩
  ·subst hc2;have hdr:=HDR0.out rfl;have hr:=HR.out;rw[if_neg (by decide)] at hr;obtain⟨EV,hEV⟩:∃EV,entV s.inos DR NM=EV:=⟨_,rfl⟩;rw[hEV] at hr;have HR8:=hid hr;have HEV:=hid hEV;have hew:EV≠0→0≤atV s.inos EV:=by rw[←hEV];exact fun h=>z2e HW.out h
   have HEW:=hid hew;clear hr hEV hew;go_wp2_with fail;refine(z1n _ s DR NM _ HST1.out).mono ?_;rintro ex Z4 ⟨rfl,hbx⟩;have HF4:=hid (HF1.out.below hbx);clear hbx;clear p01 p11 p21 c01 c11 c21 c31 c41 c51 c61 c71;obtain⟨A4,n4,cp4,E4,m4,d4,D4,k4,e4,hp4,hcl4,p04,p14,p24,pf4,hst4,hI4,hn4,c04,c14,c24,c34,c44,c54,c64,c74⟩:=HF4.out.vals;have HST4:=hid hst4;have HI4:=hid hI4;clear hst4 hI4 pf4;rw[HKD.out] at c04;rw[HEV.out]
   by_cases hev:EV=0
   ·subst hev;have hr:=HR8.out;rw[if_pos rfl] at hr;have HR7:=hid hr;clear hr;go_wp2_with fail;refine(z0d 1 _).mono ?_;rintro e10 w10 ⟨rfl,hb10⟩;obtain⟨g0,g1',g2',g3,g4,g5,gf,W9,hW9,HR5,HOF,HBF,HAS⟩:=HF4.out.fin hb10 (.int .i64 1) (.int .i64 0) (.int .i64 0) (.bool false) (.string ⟨#[]⟩) (.slice none 0 0);clear hb10;go_wp2_with fail
    (try simp only[Exit.inBlock,Exit.then])
    refine z0e rfl HR5.out rfl rfl ?_;exact⟨by rw[←HR7.out];rfl,by rw[←HR7.out];exact HOF.out,HBF.out,HAS.out⟩
   ·have q1:(EV==0)=false:=by rw[beq_eq_false_iff_ne];exact hev
    obtain⟨i,x,hat,hx,hxn⟩:=z0q (HEW.out hev);have hda:dirAt s.inos EV=x.dir:=by unfold dirAt;rw[hat,z0c,hx]
    have hen:entsOf s.inos EV=x.ents:=by unfold entsOf;rw[hat,z0c,hx]
    have hr:=HR8.out;rw[if_neg hev,hda,hen] at hr;have HR7:=hid hr;have HAT:=hid hat;have hin:i<n4:=by have:=(List.getElem?_eq_some_iff.1 hx).1;have:=HI4.out.1;omega
    obtain⟨g,og,x',E3,m3,d3,hA1,hg,hx',_,hmem,e0,e1,e2,hok3,hE3,e3⟩:=HI4.out.get i hin;subst hA1;have ex:x'=x:=by rw[hx] at hx';exact(Option.some.inj hx').symm
    subst ex;have i0:(0:Int)≤(i:Int):=by omega
    have i1:(i:Int)<(n4:Int):=by omega
    have hml:=hE3.1;clear hr hat hx hx' hmem hda hen hok3 hE3 hev hxn;have hX:True:=trivial;go_upto_region 9 with fail
    go_cut [9] (fun pv wx=>∃b,pv=.pointer (some ⟨b,0,.none⟩)∧wx.heap[b]? =some (.cells #[.int .i64 x'.num,.bool x'.dir,.slice E3 m3 d3,.string x'.data] 59 (0,0))∧Below Z4.heap.size Z4 wx)
    case first=>
     have nA:Z4.heap.size≠p:=by omega
     have nB:Z4.heap.size≠g:=by omega
     go_region_held3 (fun w'=>w'.cell? ⟨p,0,none⟩=some (.slice (some ⟨g,og,none⟩) n4 cp4)∧w'.cell? ⟨p,1,none⟩=some (.slice E4 m4 d4)∧w'.cell? ⟨p,2,none⟩=some (.slice D4 k4 e4)∧w'.cell? ⟨g,og+i*4,none⟩=some (.int .i64 x'.num)∧w'.cell? ⟨g,og+i*4+1,none⟩=some (.bool x'.dir)∧w'.cell? ⟨g,og+i*4+2,none⟩=some (.slice E3 m3 d3)∧w'.cell? ⟨g,og+i*4+3,none⟩=some (.string x'.data))
      (go_keep)
      ((go_at_call 94;refine(z0o _ s EV _ (HST4.out.below (by first|exact Cv.drewN_below (Below.refl _ _) 1|exact(Cv.drewN_below (Below.refl _ _) 1).alloc (by simp) _))).mono ?_;rintro e5 w5 ⟨rfl,hb5⟩;rw[HAT.out];have hbw5:Below Z4.heap.size Z4 w5:=(by first|exact Cv.next (Cv.drewN_below (Below.refl _ _) 1) hb5|exact Cv.next ((Cv.drewN_below (Below.refl _ _) 1).alloc (by simp) _) hb5);have z0:=(hbw5.cell (p:=⟨p,0,none⟩) hp4).trans p04;have z1:=(hbw5.cell (p:=⟨p,1,none⟩) hp4).trans p14;have z2:=(hbw5.cell (p:=⟨p,2,none⟩) hp4).trans p24;have f0:=(hbw5.cell (p:=⟨g,og+i*4,none⟩) hg).trans e0;have f1:=(hbw5.cell (p:=⟨g,og+i*4+1,none⟩) hg).trans e1;have f2:=(hbw5.cell (p:=⟨g,og+i*4+2,none⟩) hg).trans e2;have f3:=(hbw5.cell (p:=⟨g,og+i*4+3,none⟩) hg).trans e3;have hz5:=hbw5.size;have nC:w5.heap.size≠p:=(by omega);have nD:w5.heap.size≠g:=(by omega);(first|(have am:=z2a hb5 (al1 Z4 (.cells #[.int .i64 0,.bool false,.slice none 0 0,.string ⟨#[]⟩] 59));obtain⟨m0,m1,m2',m3',mf⟩:=zgx am;have HAM:=hid am;clear am)|skip)))
     all_goals (
      go_wp2_with fail;go_meet)
     ·exact⟨w5.heap.size,rfl,z6j w5 _ _ rfl,hbw5.alloc hz5 _⟩
     ·exact⟨Z4.heap.size,rfl,heap_setCell_same _ _ 3 _ _ _ (heap_setCell_same _ _ 2 _ _ _ (heap_setCell_same _ _ 1 _ _ _ (heap_setCell_same _ _ 0 _ _ _ HAM.out))),(((hbw5.setCell (Nat.le_refl _) _).setCell (Nat.le_refl _) _).setCell (Nat.le_refl _) _).setCell (Nat.le_refl _) _⟩
    case rest=>
     obtain⟨bx,rfl,hbx,hbb⟩:=hcut;obtain⟨b0,b1,b2,b3,_⟩:=zgx hbx;generalize wc=Z5 at *;have HF5:=hid (HF4.out.below hbb);clear hX hbx hbb e0 e1 e2 e3;obtain⟨A5,n5,cp5,E5,m5,d5,D5,k5,e5,hp5,hcl5,p05,p15,p25,pf5,hst5,hI5,hn5,c05,c15,c25,c35,c45,c55,c65,c75⟩:=HF5.out.vals;have HST5:=hid hst5;have HI5:=hid hI5;clear hst5 hI5 pf5;rw[HKD.out] at c05;obtain⟨DXX,hDXX⟩:∃DXX,x'.dir=DXX:=⟨_,rfl⟩;rw[hDXX] at HR7 b1;clear hDXX;cases DXX
     ·have hr:=HR7.out;rw[if_neg (by rw[HKD.out];decide),if_neg (by simp),if_neg (fun h=>by rw[HKD.out] at h;exact absurd h.1 (by decide)),if_neg (fun h=>by rw[HKD.out] at h;exact absurd h.1 (by decide))] at hr;have HR6:=hid hr;clear hr;go_wp2_with fail;refine(z4n B p s DR NM Z5 HF5.out.own (by have:=HF5.out.hB;have:=HF5.out.size;omega) hdr (HF5.out.own.sized.dropE DR NM)).mono ?_;rintro ex Z6 ⟨rfl,hox,hbx,hax⟩;have HF6:=hid (HF5.out.step hox hbx hax);clear hox hbx hax;clear p05 p15 p25 c05 c15 c25 c35 c45 c55 c65 c75;go_wp2_with fail;refine(z8p B p _ EV Z6 HF6.out.own (by have:=HF6.out.hB;have:=HF6.out.size;omega)).mono ?_;rintro ex Z7 ⟨rfl,hox,hbx,hax⟩;have HF7:=hid (HF6.out.step hox hbx hax);clear hox hbx hax;go_wp2_with fail;refine(z0d 0 _).mono ?_;rintro e10 w10 ⟨rfl,hb10⟩;obtain⟨g0,g1',g2',g3,g4,g5,gf,W9,hW9,HR5,HOF,HBF,HAS⟩:=HF7.out.fin hb10 (.int .i64 0) (.int .i64 0) (.int .i64 0) (.bool false) (.string ⟨#[]⟩) (.slice none 0 0)
      clear hb10;go_wp2_with fail
      (try simp only[Exit.inBlock,Exit.then])
      refine z0e rfl HR5.out rfl rfl ?_;exact⟨by rw[←HR6.out];rfl,by rw[←HR6.out];exact HOF.out,HBF.out,HAS.out⟩
     ·have hr:=HR7.out;rw[if_neg (by rw[HKD.out];decide),if_pos ⟨HKD.out,rfl⟩] at hr;have HR6:=hid hr;clear hr;go_wp2_with fail;refine(z0d 8 _).mono ?_;rintro e10 w10 ⟨rfl,hb10⟩;obtain⟨g0,g1',g2',g3,g4,g5,gf,W9,hW9,HR5,HOF,HBF,HAS⟩:=HF5.out.fin hb10 (.int .i64 8) (.int .i64 0) (.int .i64 0) (.bool false) (.string ⟨#[]⟩) (.slice none 0 0);clear hb10;go_wp2_with fail
      (try simp only[Exit.inBlock,Exit.then])
      refine z0e rfl HR5.out rfl rfl ?_;exact⟨by rw[←HR6.out];rfl,by rw[←HR6.out];exact HOF.out,HBF.out,HAS.out⟩
 ·subst hk;have hr:=HLV.out;rw[if_neg (by rw[HKD.out];decide)] at hr;have HR:=hid hr;clear hr
  go_enter Tryz.func83,Tryz.ntmps83
  go_wp2_with fail;clear hW hW2;have hX:=@Ext.cell W2;refine wre ?_
  repeat (go_big_quiet_step (first|(go_at_call 121;rename_i X;exact Calls.ext_of (by have:=z2k _ s c.path _ (HST.out.below X.bel) HW.out hpz;rw[HPA.out] at this;dsimp only at this;exact this))))
  refine wpQuiet_nil ?_;rintro w7 ⟨X,rfl⟩;generalize hZe:X.w=Z1;have hZ2:=hZe▸X.bel;have HF1:=hid (HF.out.below hZ2);clear hZe X hX hZ2;clear p0 p1 p2 c0 c1 c2 c3 c4 c5 c6 c7;obtain⟨A1,n1,cp1,E1,m1,d1,D1,k1,e1,hp1,hcl1,p01,p11,p21,pf1,hst1,hI1,hn1,c01,c11,c21,c31,c41,c51,c61,c71⟩:=HF1.out.vals;have HST1:=hid hst1;have HI1:=hid hI1;clear hst1 hI1 pf1;rw[HKD.out] at c01
  by_cases hc2:C2=0
  rotate_left
  ·have q1:(C2 != 0)=true:=by rw[bne_iff_ne];exact hc2
   have hr:=HR.out;rw[if_pos hc2] at hr;have HR8:=hid hr;clear hr hc2;go_wp2_with fail;refine(z0d C2 _).mono ?_;rintro e10 w10 ⟨rfl,hb10⟩;obtain⟨g0,g1',g2',g3,g4,g5,gf,W9,hW9,HR5,HOF,HBF,HAS⟩:=HF1.out.fin hb10 (.int .i64 C2) (.int .i64 0) (.int .i64 0) (.bool false) (.string ⟨#[]⟩) (.slice none 0 0);clear hb10;go_wp2_with fail
   (try simp only[Exit.inBlock,Exit.then])
   refine z0e rfl HR5.out rfl rfl ?_;exact⟨by rw[←HR8.out];rfl,by rw[←HR8.out];exact HOF.out,HBF.out,HAS.out⟩
  ·subst hc2;have hdr:=HDR0.out rfl;have hr:=HR.out;rw[if_neg (by decide)] at hr;obtain⟨EV,hEV⟩:∃EV,entV s.inos DR NM=EV:=⟨_,rfl⟩;rw[hEV] at hr;have HR8:=hid hr;have HEV:=hid hEV;have hew:EV≠0→0≤atV s.inos EV:=by rw[←hEV];exact fun h=>z2e HW.out h
   have HEW:=hid hew;clear hr hEV hew;go_wp2_with fail;refine(z1n _ s DR NM _ HST1.out).mono ?_;rintro ex Z4 ⟨rfl,hbx⟩;have HF4:=hid (HF1.out.below hbx);clear hbx;clear p01 p11 p21 c01 c11 c21 c31 c41 c51 c61 c71;obtain⟨A4,n4,cp4,E4,m4,d4,D4,k4,e4,hp4,hcl4,p04,p14,p24,pf4,hst4,hI4,hn4,c04,c14,c24,c34,c44,c54,c64,c74⟩:=HF4.out.vals;have HST4:=hid hst4;have HI4:=hid hI4;clear hst4 hI4 pf4;rw[HKD.out] at c04;rw[HEV.out]
   by_cases hev:EV=0
   ·subst hev;have hr:=HR8.out;rw[if_pos rfl] at hr;have HR7:=hid hr;clear hr;go_wp2_with fail;refine(z0d 1 _).mono ?_;rintro e10 w10 ⟨rfl,hb10⟩;obtain⟨g0,g1',g2',g3,g4,g5,gf,W9,hW9,HR5,HOF,HBF,HAS⟩:=HF4.out.fin hb10 (.int .i64 1) (.int .i64 0) (.int .i64 0) (.bool false) (.string ⟨#[]⟩) (.slice none 0 0);clear hb10;go_wp2_with fail
    (try simp only[Exit.inBlock,Exit.then])
    refine z0e rfl HR5.out rfl rfl ?_;exact⟨by rw[←HR7.out];rfl,by rw[←HR7.out];exact HOF.out,HBF.out,HAS.out⟩
   ·have q1:(EV==0)=false:=by rw[beq_eq_false_iff_ne];exact hev
    obtain⟨i,x,hat,hx,hxn⟩:=z0q (HEW.out hev);have hda:dirAt s.inos EV=x.dir:=by unfold dirAt;rw[hat,z0c,hx]
    have hen:entsOf s.inos EV=x.ents:=by unfold entsOf;rw[hat,z0c,hx]
    have hr:=HR8.out;rw[if_neg hev,hda,hen] at hr;have HR7:=hid hr;have HAT:=hid hat;have hin:i<n4:=by have:=(List.getElem?_eq_some_iff.1 hx).1;have:=HI4.out.1;omega
    obtain⟨g,og,x',E3,m3,d3,hA1,hg,hx',_,hmem,e0,e1,e2,hok3,hE3,e3⟩:=HI4.out.get i hin;subst hA1;have ex:x'=x:=by rw[hx] at hx';exact(Option.some.inj hx').symm
    subst ex;have i0:(0:Int)≤(i:Int):=by omega
    have i1:(i:Int)<(n4:Int):=by omega
    have hml:=hE3.1;clear hr hat hx hx' hmem hda hen hok3 hE3 hev hxn;have hX:True:=trivial;go_upto_region 9 with fail
    go_cut [9] (fun pv wx=>∃b,pv=.pointer (some ⟨b,0,.none⟩)∧wx.heap[b]? =some (.cells #[.int .i64 x'.num,.bool x'.dir,.slice E3 m3 d3,.string x'.data] 59 (0,0))∧Below Z4.heap.size Z4 wx)
    case first=>
     have nA:Z4.heap.size≠p:=by omega
     have nB:Z4.heap.size≠g:=by omega
     go_region_held3 (fun w'=>w'.cell? ⟨p,0,none⟩=some (.slice (some ⟨g,og,none⟩) n4 cp4)∧w'.cell? ⟨p,1,none⟩=some (.slice E4 m4 d4)∧w'.cell? ⟨p,2,none⟩=some (.slice D4 k4 e4)∧w'.cell? ⟨g,og+i*4,none⟩=some (.int .i64 x'.num)∧w'.cell? ⟨g,og+i*4+1,none⟩=some (.bool x'.dir)∧w'.cell? ⟨g,og+i*4+2,none⟩=some (.slice E3 m3 d3)∧w'.cell? ⟨g,og+i*4+3,none⟩=some (.string x'.data))
      (go_keep)
      ((go_at_call 94;refine(z0o _ s EV _ (HST4.out.below (by first|exact Cv.drewN_below (Below.refl _ _) 1|exact(Cv.drewN_below (Below.refl _ _) 1).alloc (by simp) _))).mono ?_;rintro e5 w5 ⟨rfl,hb5⟩;rw[HAT.out];have hbw5:Below Z4.heap.size Z4 w5:=(by first|exact Cv.next (Cv.drewN_below (Below.refl _ _) 1) hb5|exact Cv.next ((Cv.drewN_below (Below.refl _ _) 1).alloc (by simp) _) hb5);have z0:=(hbw5.cell (p:=⟨p,0,none⟩) hp4).trans p04;have z1:=(hbw5.cell (p:=⟨p,1,none⟩) hp4).trans p14;have z2:=(hbw5.cell (p:=⟨p,2,none⟩) hp4).trans p24;have f0:=(hbw5.cell (p:=⟨g,og+i*4,none⟩) hg).trans e0;have f1:=(hbw5.cell (p:=⟨g,og+i*4+1,none⟩) hg).trans e1;have f2:=(hbw5.cell (p:=⟨g,og+i*4+2,none⟩) hg).trans e2;have f3:=(hbw5.cell (p:=⟨g,og+i*4+3,none⟩) hg).trans e3;have hz5:=hbw5.size;have nC:w5.heap.size≠p:=(by omega);have nD:w5.heap.size≠g:=(by omega);(first|(have am:=z2a hb5 (al1 Z4 (.cells #[.int .i64 0,.bool false,.slice none 0 0,.string ⟨#[]⟩] 59));obtain⟨m0,m1,m2',m3',mf⟩:=zgx am;have HAM:=hid am;clear am)|skip)))
     all_goals (
      go_wp2_with fail;go_meet)
     ·exact⟨w5.heap.size,rfl,z6j w5 _ _ rfl,hbw5.alloc hz5 _⟩
     ·exact⟨Z4.heap.size,rfl,heap_setCell_same _ _ 3 _ _ _ (heap_setCell_same _ _ 2 _ _ _ (heap_setCell_same _ _ 1 _ _ _ (heap_setCell_same _ _ 0 _ _ _ HAM.out))),(((hbw5.setCell (Nat.le_refl _) _).setCell (Nat.le_refl _) _).setCell (Nat.le_refl _) _).setCell (Nat.le_refl _) _⟩
    case rest=>
     obtain⟨bx,rfl,hbx,hbb⟩:=hcut;obtain⟨b0,b1,b2,b3,_⟩:=zgx hbx;generalize wc=Z5 at *;have HF5:=hid (HF4.out.below hbb);clear hX hbx hbb e0 e1 e2 e3;obtain⟨A5,n5,cp5,E5,m5,d5,D5,k5,e5,hp5,hcl5,p05,p15,p25,pf5,hst5,hI5,hn5,c05,c15,c25,c35,c45,c55,c65,c75⟩:=HF5.out.vals;have HST5:=hid hst5;have HI5:=hid hI5;clear hst5 hI5 pf5;rw[HKD.out] at c05;obtain⟨DXX,hDXX⟩:∃DXX,x'.dir=DXX:=⟨_,rfl⟩;rw[hDXX] at HR7 b1;clear hDXX;cases DXX
     ·have hr:=HR7.out;rw[if_neg (by rw[HKD.out];decide),if_neg (by simp),if_pos ⟨HKD.out,rfl⟩] at hr;have HR6:=hid hr;clear hr;go_wp2_with fail;refine(z0d 7 _).mono ?_;rintro e10 w10 ⟨rfl,hb10⟩;obtain⟨g0,g1',g2',g3,g4,g5,gf,W9,hW9,HR5,HOF,HBF,HAS⟩:=HF5.out.fin hb10 (.int .i64 7) (.int .i64 0) (.int .i64 0) (.bool false) (.string ⟨#[]⟩) (.slice none 0 0);clear hb10;go_wp2_with fail
      (try simp only[Exit.inBlock,Exit.then])
      refine z0e rfl HR5.out rfl rfl ?_;exact⟨by rw[←HR6.out];rfl,by rw[←HR6.out];exact HOF.out,HBF.out,HAS.out⟩
     ·by_cases hem:m3=0
      ·subst hem;have hr:=HR7.out;rw[if_neg (by rw[HKD.out];decide),if_neg (fun h=>by rw[HKD.out] at h;exact absurd h.1 (by decide)),if_neg (by simp),if_neg (fun h=>h.2 (List.eq_nil_of_length_eq_zero hml))] at hr;have HR6:=hid hr;clear hr;go_wp2_with fail;refine(z4n B p s DR NM Z5 HF5.out.own (by have:=HF5.out.hB;have:=HF5.out.size;omega) hdr (HF5.out.own.sized.dropE DR NM)).mono ?_;rintro ex Z6 ⟨rfl,hox,hbx,hax⟩;have HF6:=hid (HF5.out.step hox hbx hax);clear hox hbx hax;clear p05 p15 p25 c05 c15 c25 c35 c45 c55 c65 c75;go_wp2_with fail;refine(z8p B p _ EV Z6 HF6.out.own (by have:=HF6.out.hB;have:=HF6.out.size;omega)).mono ?_;rintro ex Z7 ⟨rfl,hox,hbx,hax⟩;have HF7:=hid (HF6.out.step hox hbx hax);clear hox hbx hax;go_wp2_with fail;refine(z0d 0 _).mono ?_;rintro e10 w10 ⟨rfl,hb10⟩;obtain⟨g0,g1',g2',g3,g4,g5,gf,W9,hW9,HR5,HOF,HBF,HAS⟩:=HF7.out.fin hb10 (.int .i64 0) (.int .i64 0) (.int .i64 0) (.bool false) (.string ⟨#[]⟩) (.slice none 0 0)
       clear hb10;go_wp2_with fail
       (try simp only[Exit.inBlock,Exit.then])
       refine z0e rfl HR5.out rfl rfl ?_;exact⟨by rw[←HR6.out];rfl,by rw[←HR6.out];exact HOF.out,HBF.out,HAS.out⟩
      ·have q5:decide ((0:Int)<(m3:Int))=true:=by rw[decide_eq_true_eq];omega
       have q6:decide (0<m3)=true:=by rw[decide_eq_true_eq];omega
       have hne:x'.ents≠[]:=fun h=>by rw[h] at hml;exact hem hml.symm
       have HNE:=hid hne;clear hem hne;have hr:=HR7.out;rw[if_neg (by rw[HKD.out];decide),if_neg (fun h=>by rw[HKD.out] at h;exact absurd h.1 (by decide)),if_neg (by simp),if_pos ⟨HKD.out,HNE.out⟩] at hr;have HR6:=hid hr;clear hr;go_wp2_with fail;refine(z0d 3 _).mono ?_;rintro e10 w10 ⟨rfl,hb10⟩;obtain⟨g0,g1',g2',g3,g4,g5,gf,W9,hW9,HR5,HOF,HBF,HAS⟩:=HF5.out.fin hb10 (.int .i64 3) (.int .i64 0) (.int .i64 0) (.bool false) (.string ⟨#[]⟩) (.slice none 0 0);clear hb10;go_wp2_with fail
       (try simp only[Exit.inBlock,Exit.then])
       refine z0e rfl HR5.out rfl rfl ?_;exact⟨by rw[←HR6.out];rfl,by rw[←HR6.out];exact HOF.out,HBF.out,HAS.out⟩
 ·subst hk;have hr:=HLV.out;rw[if_neg (by rw[HKD.out];decide)] at hr;have HR:=hid hr;clear hr
  go_enter Tryz.func83,Tryz.ntmps83
  go_wp2_with fail;clear hW hW2;have hX:=@Ext.cell W2;refine wre ?_
  repeat (go_big_quiet_step (first|(go_at_call 121;rename_i X;exact Calls.ext_of (by have:=z2k _ s c.path _ (HST.out.below X.bel) HW.out hpz;rw[HPA.out] at this;dsimp only at this;exact this))))
  refine wpQuiet_nil ?_;rintro w7 ⟨X,rfl⟩;generalize hZe:X.w=Z1;have hZ2:=hZe▸X.bel;have HF1:=hid (HF.out.below hZ2);clear hZe X hX hZ2;clear p0 p1 p2 c0 c1 c2 c3 c4 c5 c6 c7;obtain⟨A1,n1,cp1,E1,m1,d1,D1,k1,e1,hp1,hcl1,p01,p11,p21,pf1,hst1,hI1,hn1,c01,c11,c21,c31,c41,c51,c61,c71⟩:=HF1.out.vals;have HST1:=hid hst1;have HI1:=hid hI1;clear hst1 hI1 pf1;rw[HKD.out] at c01
  by_cases hc2:C2=0
  rotate_left
  ·have q1:(C2 != 0)=true:=by rw[bne_iff_ne];exact hc2
   have hr:=HR.out;rw[if_pos hc2] at hr;have HR8:=hid hr;clear hr hc2;go_wp2_with fail;refine(z0d C2 _).mono ?_;rintro e10 w10 ⟨rfl,hb10⟩;obtain⟨g0,g1',g2',g3,g4,g5,gf,W9,hW9,HR5,HOF,HBF,HAS⟩:=HF1.out.fin hb10 (.int .i64 C2) (.int .i64 0) (.int .i64 0) (.bool false) (.string ⟨#[]⟩) (.slice none 0 0);clear hb10;go_wp2_with fail
   (try simp only[Exit.inBlock,Exit.then])
   refine z0e rfl HR5.out rfl rfl ?_;exact⟨by rw[←HR8.out];rfl,by rw[←HR8.out];exact HOF.out,HBF.out,HAS.out⟩
  ·subst hc2;have hdr:=HDR0.out rfl;have hr:=HR.out;rw[if_neg (by decide)] at hr;obtain⟨EV,hEV⟩:∃EV,entV s.inos DR NM=EV:=⟨_,rfl⟩;rw[hEV] at hr;have HR8:=hid hr;have HEV:=hid hEV;have hew:EV≠0→0≤atV s.inos EV:=by rw[←hEV];exact fun h=>z2e HW.out h
   have HEW:=hid hew;clear hr hEV hew;go_wp2_with fail;refine(z1n _ s DR NM _ HST1.out).mono ?_;rintro ex Z4 ⟨rfl,hbx⟩;have HF4:=hid (HF1.out.below hbx);clear hbx;clear p01 p11 p21 c01 c11 c21 c31 c41 c51 c61 c71;obtain⟨A4,n4,cp4,E4,m4,d4,D4,k4,e4,hp4,hcl4,p04,p14,p24,pf4,hst4,hI4,hn4,c04,c14,c24,c34,c44,c54,c64,c74⟩:=HF4.out.vals;have HST4:=hid hst4;have HI4:=hid hI4;clear hst4 hI4 pf4;rw[HKD.out] at c04;rw[HEV.out]
   by_cases hev:EV=0
   ·subst hev;have hr:=HR8.out;rw[if_pos rfl] at hr;have HR7:=hid hr;clear hr;go_wp2_with fail;refine(z0d 1 _).mono ?_;rintro e10 w10 ⟨rfl,hb10⟩;obtain⟨g0,g1',g2',g3,g4,g5,gf,W9,hW9,HR5,HOF,HBF,HAS⟩:=HF4.out.fin hb10 (.int .i64 1) (.int .i64 0) (.int .i64 0) (.bool false) (.string ⟨#[]⟩) (.slice none 0 0);clear hb10;go_wp2_with fail
    (try simp only[Exit.inBlock,Exit.then])
    refine z0e rfl HR5.out rfl rfl ?_;exact⟨by rw[←HR7.out];rfl,by rw[←HR7.out];exact HOF.out,HBF.out,HAS.out⟩
   ·have q1:(EV==0)=false:=by rw[beq_eq_false_iff_ne];exact hev
    obtain⟨i,x,hat,hx,hxn⟩:=z0q (HEW.out hev);have hda:dirAt s.inos EV=x.dir:=by unfold dirAt;rw[hat,z0c,hx]
    have hen:entsOf s.inos EV=x.ents:=by unfold entsOf;rw[hat,z0c,hx]
    have hr:=HR8.out;rw[if_neg hev,hda,hen] at hr;have HR7:=hid hr;have HAT:=hid hat;have hin:i<n4:=by have:=(List.getElem?_eq_some_iff.1 hx).1;have:=HI4.out.1;omega
    obtain⟨g,og,x',E3,m3,d3,hA1,hg,hx',_,hmem,e0,e1,e2,hok3,hE3,e3⟩:=HI4.out.get i hin;subst hA1;have ex:x'=x:=by rw[hx] at hx';exact(Option.some.inj hx').symm
    subst ex;have i0:(0:Int)≤(i:Int):=by omega
    have i1:(i:Int)<(n4:Int):=by omega
    have hml:=hE3.1;clear hr hat hx hx' hmem hda hen hok3 hE3 hev hxn;have hX:True:=trivial;go_upto_region 9 with fail
    go_cut [9] (fun pv wx=>∃b,pv=.pointer (some ⟨b,0,.none⟩)∧wx.heap[b]? =some (.cells #[.int .i64 x'.num,.bool x'.dir,.slice E3 m3 d3,.string x'.data] 59 (0,0))∧Below Z4.heap.size Z4 wx)
    case first=>
     have nA:Z4.heap.size≠p:=by omega
     have nB:Z4.heap.size≠g:=by omega
     go_region_held3 (fun w'=>w'.cell? ⟨p,0,none⟩=some (.slice (some ⟨g,og,none⟩) n4 cp4)∧w'.cell? ⟨p,1,none⟩=some (.slice E4 m4 d4)∧w'.cell? ⟨p,2,none⟩=some (.slice D4 k4 e4)∧w'.cell? ⟨g,og+i*4,none⟩=some (.int .i64 x'.num)∧w'.cell? ⟨g,og+i*4+1,none⟩=some (.bool x'.dir)∧w'.cell? ⟨g,og+i*4+2,none⟩=some (.slice E3 m3 d3)∧w'.cell? ⟨g,og+i*4+3,none⟩=some (.string x'.data))
      (go_keep)
      ((go_at_call 94;refine(z0o _ s EV _ (HST4.out.below (by first|exact Cv.drewN_below (Below.refl _ _) 1|exact(Cv.drewN_below (Below.refl _ _) 1).alloc (by simp) _))).mono ?_;rintro e5 w5 ⟨rfl,hb5⟩;rw[HAT.out];have hbw5:Below Z4.heap.size Z4 w5:=(by first|exact Cv.next (Cv.drewN_below (Below.refl _ _) 1) hb5|exact Cv.next ((Cv.drewN_below (Below.refl _ _) 1).alloc (by simp) _) hb5);have z0:=(hbw5.cell (p:=⟨p,0,none⟩) hp4).trans p04;have z1:=(hbw5.cell (p:=⟨p,1,none⟩) hp4).trans p14;have z2:=(hbw5.cell (p:=⟨p,2,none⟩) hp4).trans p24;have f0:=(hbw5.cell (p:=⟨g,og+i*4,none⟩) hg).trans e0;have f1:=(hbw5.cell (p:=⟨g,og+i*4+1,none⟩) hg).trans e1;have f2:=(hbw5.cell (p:=⟨g,og+i*4+2,none⟩) hg).trans e2;have f3:=(hbw5.cell (p:=⟨g,og+i*4+3,none⟩) hg).trans e3;have hz5:=hbw5.size;have nC:w5.heap.size≠p:=(by omega);have nD:w5.heap.size≠g:=(by omega);(first|(have am:=z2a hb5 (al1 Z4 (.cells #[.int .i64 0,.bool false,.slice none 0 0,.string ⟨#[]⟩] 59));obtain⟨m0,m1,m2',m3',mf⟩:=zgx am;have HAM:=hid am;clear am)|skip)))
     all_goals (
      go_wp2_with fail;go_meet)
     ·exact⟨w5.heap.size,rfl,z6j w5 _ _ rfl,hbw5.alloc hz5 _⟩
     ·exact⟨Z4.heap.size,rfl,heap_setCell_same _ _ 3 _ _ _ (heap_setCell_same _ _ 2 _ _ _ (heap_setCell_same _ _ 1 _ _ _ (heap_setCell_same _ _ 0 _ _ _ HAM.out))),(((hbw5.setCell (Nat.le_refl _) _).setCell (Nat.le_refl _) _).setCell (Nat.le_refl _) _).setCell (Nat.le_refl _) _⟩
    case rest=>
     obtain⟨bx,rfl,hbx,hbb⟩:=hcut;obtain⟨b0,b1,b2,b3,_⟩:=zgx hbx;generalize wc=Z5 at *;have HF5:=hid (HF4.out.below hbb);clear hX hbx hbb e0 e1 e2 e3;obtain⟨A5,n5,cp5,E5,m5,d5,D5,k5,e5,hp5,hcl5,p05,p15,p25,pf5,hst5,hI5,hn5,c05,c15,c25,c35,c45,c55,c65,c75⟩:=HF5.out.vals;have HST5:=hid hst5;have HI5:=hid hI5;clear hst5 hI5 pf5;rw[HKD.out] at c05;obtain⟨DXX,hDXX⟩:∃DXX,x'.dir=DXX:=⟨_,rfl⟩;have hr:=HR7.out;rw[if_pos HKD.out] at hr;have HR6:=hid hr;have hzz:=HZ.out;rw[←hr] at hzz;have HZZ:=hid hzz;clear hr hzz hDXX;go_wp2_with fail;have hlk:=zfr B p s c DR NM EV Z5 HF5.out.own (by have:=HF5.out.hB;have:=HF5.out.size;omega) HW.out hpz2 hns hdr (by rw[HAT.out];omega) (HDEEP.out EV) HZZ.out;unfold caV at hlk;rw[HKD.out] at hlk;refine hlk.mono ?_;clear hlk;rintro ex Z6 ⟨rfl,hox,hbx,hax⟩;have HF6:=hid (HF5.out.step hox hbx hax)
     unfold resV;clear hox hbx hax;clear p05 p15 p25 c05 c15 c25 c35 c45 c55 c65 c75;obtain⟨g0,g1',g2',g3,g4,g5,gf,W9,hW9,HR5,HOF,HBF,HAS⟩:=HF6.out.fin (Below.refl _ _) (.int .i64 (renameV s c DR NM EV).2.code) (.int .i64 (renameV s c DR NM EV).2.fd) (.int .i64 (renameV s c DR NM EV).2.num) (.bool (renameV s c DR NM EV).2.dir) (.string (renameV s c DR NM EV).2.data) (.slice none 0 0);go_wp2_with fail
     (try simp only[Exit.inBlock,Exit.then])
     refine z0e rfl HR5.out rfl rfl ?_;exact⟨by rw[←HR6.out];rfl,by rw[←HR6.out];exact HOF.out,HBF.out,HAS.out⟩
end Go.Proofs.YtmmpkfcdfcldlaaGreat
namespace Go.Proofs.YtmmpkfcdfcldlaaGreat
open Lib (hid)
open Go.RowKit
theorem z4q:(Tryz.prog.info? 5).map (fun i=>(i.zero,i.size,i.bytes))=some (some (.int .u8 0),1,1):=by kernel_rfl
structure Wr (B b:Nat) (w w':World):Prop where
 below:Below B w w'
 keep:∀k o,w.heap[k]? =some o→k≠b→(∀cs fr,o≠.cells cs 5 fr)→w'.heap[k]? =some o
theorem Wr.refl (B b:Nat) (w:World):Wr B b w w:=⟨Below.refl _ _,fun _ _ h _ _=>h⟩
theorem Wr.trans {B b:Nat} {w w' w'':World} (h:Wr B b w w') (h':Wr B b w' w''):Wr B b w w'':=⟨h.below.trans h'.below,fun k o h1 h2 h3=>h'.keep k o (h.keep k o h1 h2 h3) h2 h3⟩
theorem Wr.of_below {B b:Nat} {w w':World} (h:Below w.heap.size w w') (hB:B≤w.heap.size):Wr B b w w':=⟨h.mono hB,fun k o h1 _ _=>(h.block k (Array.getElem?_eq_some_iff.1 h1).1).trans h1⟩
theorem Wr.drew {B b:Nat} {w:World}:Wr B b w w.drew:=⟨Below.drew (Below.refl _ _),fun _ _ h _ _=>h⟩
theorem Wr.set {B b:Nat} {w:World} (hB:B≤b) (o:Nat) (v:Value):Wr B b w (w.setCell ⟨b,o,.none⟩ v):=
 ⟨(Below.refl _ _).setCell (p:=⟨b,o,.none⟩) hB v,fun k x h1 h2 _=>(Below.heap_setCell w ⟨b,o,.none⟩ v k h2).trans h1⟩
theorem Wr.grown {B b n:Nat} {v:Value} {xs:List Value} {w w':World} (hown:w.ownsRowF B 5 1 v n xs) (hg:w.grownBy w' v.ownBlock) (hBw:B≤w.heap.size):Wr B b w w':=by
 refine⟨(Below.refl _ _).grown hg hBw (fun k hk=>(hown.lt k hk).1),fun k o h1 _ h3=>(hg.block k (Array.getElem?_eq_some_iff.1 h1).1 ?_).trans h1⟩;intro e
 rcases hown.2 with⟨rfl,_⟩|⟨g,cap,cur,fz,rfl,_,hh,_⟩
 ·cases e
 ·have:k=g:=by simpa [Value.ownBlock] using e
  subst this;rw[hh] at h1;exact h3 cur fz (Option.some.inj h1).symm
theorem z5g (l:List UInt8) (k:Nat) (h:l.length≤k):sizedL l k=l++List.replicate (k-l.length) 0:=by
 unfold sizedL;rw[List.take_append,List.take_of_length_le h]
 congr 1
 rw[List.take_replicate]
 congr 1
 omega
set_option maxRecDepth 100000 in
set_option maxHeartbeats 4000000 in
theorem zhn (s:ByteArray) (k:Nat) (w:World) (hs:s.size≤k) (hk:k≤65536):
  Calls Tryz.prog 127 #[.string s,.int .i64 (k:Int)] w fun e w'=>∃g,e=.returned (.slice (some ⟨g,0,.none⟩) k k)∧Cv.ByteRow w' g (sizedL s.data.toList k)∧w.heap.size≤g∧Below w.heap.size w w':=by
 have hl:s.data.toList.length=s.size:=Array.length_toList;have hmk:=run_make_row' (P:=Tryz.prog) 148 5 (.int .u8 0) 1 Tryz.underlying148 z4q rfl .i64 .i64 k (by omega) (by omega) w;have hg0:=heap_alloc_new w (.cells (madeCells #[.int .u8 0] k) 5);have hcs:(madeCells #[Value.int .u8 0] k).size=k:=by simp[madeCells]
 have hcp:=fun ty=>Lib.run_copy_row_string (P:=Tryz.prog) (ty:=ty) (w.alloc (.cells (madeCells #[.int .u8 0] k) 5)) 148 9 5 w.heap.size 0 k k s _ _ Tryz.underlying148 (by kernel_rfl) hg0 hs (by rw[hcs];omega)
 obtain⟨NC,hNC⟩:∃NC:Array Value,(((madeCells #[Value.int .u8 0] k).toList.take 0)++Lib.byteCells s.data.toList++(madeCells #[Value.int .u8 0] k).toList.drop (0+s.size)).toArray=NC:=⟨_,rfl⟩
 have hnc:NC=(Lib.byteCells (sizedL s.data.toList k)).toArray:=by
  rw[←hNC,z5g _ _ (by omega),Lib.byteCells_append]
  congr 1
  have e1:(madeCells #[Value.int .u8 0] k).toList=List.replicate k (Value.int .u8 0):=by
   apply List.ext_getElem
   ·simp[madeCells]
   ·intro i h1 h2;simp[madeCells,Nat.mod_one]
  rw[e1,hl];simp[Lib.byteCells]
 rw[hNC,hnc] at hcp;obtain⟨W2,hW2⟩:∃W2,w.alloc (.cells (Lib.byteCells (sizedL s.data.toList k)).toArray 5)=W2:=⟨_,rfl⟩
 have hcp2:∀ty,(Builtin.copy_ #[148,9] ty #[.slice (some ⟨w.heap.size,0,none⟩) k k,.string s]).run Tryz.prog (w.alloc (.cells (madeCells #[.int .u8 0] k) 5))=.ok (goInt s.size) W2:=by
  intro ty;rw[hcp ty,World.setRow_alloc_new,hW2]
 have hrow:Cv.ByteRow W2 w.heap.size (sizedL s.data.toList k):=by
  have hh:W2.heap[w.heap.size]? =some (.cells (Lib.byteCells (sizedL s.data.toList k)).toArray 5 (0,0)):=by rw[←hW2];exact heap_alloc_new w _
  refine⟨(Array.getElem?_eq_some_iff.1 hh).1,fun j hj=>⟨?_,frozen_of_row W2 w.heap.size j _ _ hh⟩⟩;rw[cell_of_row W2 w.heap.size j _ _ (0,0) hh];simp[Lib.byteCells,hj]
 have hb:Below w.heap.size w W2:=by rw[←hW2];exact(Below.refl _ _).alloc (Nat.le_refl _) _
 have HR:=hid hrow;have HB:=hid hb;clear hg0 hcs hcp hNC hnc hW2 hrow hb hl
 go_enter Tryz.func127,Tryz.ntmps127
 go_wp2_with fail;go_ret;exact⟨w.heap.size,rfl,HR.out,Nat.le_refl _,HB.out⟩
theorem z3r {P:Program} (w:World) (dT sT ty elem:TypeId) (g dLen dCap:Nat) (s:ByteArray) (cur:Array Value) (t:TypeId)
  (hu:P.underlying dT=some (.slice elem)) (hs:(P.info? elem).map (·.size)=some 1) (hg:w.heap[g]? =some (.cells cur t (0,0))) (hle:dLen≤s.size) (hfit:dLen≤cur.size):
  (Builtin.copy_ #[dT, sT] ty #[.slice (some ⟨g, 0, none⟩) dLen dCap, .string s]).run P w =
   .ok (goInt dLen) (w.setRow g (Lib.byteCells (s.data.toList.take dLen)++cur.toList.drop dLen).toArray):=by
 have hlen:(Lib.byteCells (s.data.toList.take dLen)).length=dLen:=by rw[Lib.byteCells_length,List.length_take,Array.length_toList];exact Nat.min_eq_left hle
 have hst:=run_storeCells_at P g 0 t (Lib.byteCells (s.data.toList.take dLen)) 0 cur w hg (by rw[hlen];simpa using hfit) (Lib.byteCells_one _);have hmin:Nat.min s.size dLen=dLen:=Nat.min_eq_right hle
 have htk:List.take dLen (List.map (fun b:UInt8=>Value.int IntKind.u8 (b.toNat:Int)) s.data.toList)=Lib.byteCells (s.data.toList.take dLen):=by
  rw[List.map_take.symm]
  rfl
 rw[hlen] at hst;simp only[Nat.add_zero,Nat.zero_add,List.take_zero,List.nil_append] at hst;cases hq:P.info? elem with
 | none=>simp[hq] at hs
 | some i=>
  simp[Builtin.copy_,run_underlying hu,Builtin.lenOf,Builtin.firstCells,sizeOf,typeInfo,hq,hmin];rw[htk,hst];simp[Result.andThen]
theorem z7f (l:List UInt8) (k:Nat) (h:k≤l.length):sizedL l k=l.take k:=by
 unfold sizedL;rw[List.take_append,show k-l.length=0 by omega];simp
set_option maxRecDepth 100000 in
set_option maxHeartbeats 4000000 in
theorem zho (s:ByteArray) (k:Nat) (w:World) (hs:k≤s.size) (hk:k≤65536):
  Calls Tryz.prog 127 #[.string s,.int .i64 (k:Int)] w fun e w'=>∃g,e=.returned (.slice (some ⟨g,0,.none⟩) k k)∧Cv.ByteRow w' g (sizedL s.data.toList k)∧w.heap.size≤g∧Below w.heap.size w w':=by
 have hl:s.data.toList.length=s.size:=Array.length_toList;have hmk:=run_make_row' (P:=Tryz.prog) 148 5 (.int .u8 0) 1 Tryz.underlying148 z4q rfl .i64 .i64 k (by omega) (by omega) w;have hg0:=heap_alloc_new w (.cells (madeCells #[.int .u8 0] k) 5);have hcs:(madeCells #[Value.int .u8 0] k).size=k:=by simp[madeCells]
 have hcp:=fun ty=>z3r (P:=Tryz.prog) (ty:=ty) (w.alloc (.cells (madeCells #[.int .u8 0] k) 5)) 148 9 5 w.heap.size k k s _ _ Tryz.underlying148 (by kernel_rfl) hg0 hs (by rw[hcs];omega)
 obtain⟨NC,hNC⟩:∃NC:Array Value,(Lib.byteCells (s.data.toList.take k)++(madeCells #[Value.int .u8 0] k).toList.drop k).toArray=NC:=⟨_,rfl⟩
 have hnc:NC=(Lib.byteCells (sizedL s.data.toList k)).toArray:=by
  rw[←hNC,z7f _ _ (by omega),List.drop_of_length_le (by rw[Array.length_toList,hcs];omega),List.append_nil]
 rw[hNC,hnc] at hcp;obtain⟨W2,hW2⟩:∃W2,w.alloc (.cells (Lib.byteCells (sizedL s.data.toList k)).toArray 5)=W2:=⟨_,rfl⟩
 have hcp2:∀ty,(Builtin.copy_ #[148,9] ty #[.slice (some ⟨w.heap.size,0,none⟩) k k,.string s]).run Tryz.prog (w.alloc (.cells (madeCells #[.int .u8 0] k) 5))=.ok (goInt k) W2:=by
  intro ty;rw[hcp ty,World.setRow_alloc_new,hW2]
 have hrow:Cv.ByteRow W2 w.heap.size (sizedL s.data.toList k):=by
  have hh:W2.heap[w.heap.size]? =some (.cells (Lib.byteCells (sizedL s.data.toList k)).toArray 5 (0,0)):=by rw[←hW2];exact heap_alloc_new w _
  refine⟨(Array.getElem?_eq_some_iff.1 hh).1,fun j hj=>⟨?_,frozen_of_row W2 w.heap.size j _ _ hh⟩⟩;rw[cell_of_row W2 w.heap.size j _ _ (0,0) hh];simp[Lib.byteCells,hj]
 have hb:Below w.heap.size w W2:=by rw[←hW2];exact(Below.refl _ _).alloc (Nat.le_refl _) _
 have HR:=hid hrow;have HB:=hid hb;clear hg0 hcs hcp hNC hnc hW2 hrow hb hl
 go_enter Tryz.func127,Tryz.ntmps127
 go_wp2_with fail;go_ret;exact⟨w.heap.size,rfl,HR.out,Nat.le_refl _,HB.out⟩
theorem zc4 (s:ByteArray) (k:Nat) (w:World) (hk:k≤65536):
  Calls Tryz.prog 127 #[.string s,.int .i64 (k:Int)] w fun e w'=>∃g,e=.returned (.slice (some ⟨g,0,.none⟩) k k)∧Cv.ByteRow w' g (sizedL s.data.toList k)∧w.heap.size≤g∧Below w.heap.size w w':=by
 by_cases h:s.size≤k
 ·exact zhn s k w h hk
 ·exact zho s k w (by omega) hk
theorem z0u (l:List UInt8) (k:Nat):(sizedL l k).length=k:=by
 unfold sizedL;rw[List.length_take,List.length_append,List.length_replicate];omega
theorem Sized.setData {s:St} (h:Sized s) {i:Nat} {x:Ino} (hx:s.inos[i]? =some x) (d:ByteArray) (hd:d.size≤140737488355328):Sized { s with inos:=s.inos.set i { x with data:=d } }:=by
 have hmem:x∈s.inos:=List.mem_of_getElem? hx
 have hb:∀(is:List Ino) (i:Nat),is[i]? =some x→bulkE (is.set i { x with data:=d })=bulkE is:=by
  intro is
  induction is with
  | nil=>intro i h;simp at h
  | cons y ys ih =>
   intro i h;cases i with
   | zero=>
    have:y=x:=by simpa using h
    subst this
    rfl
   | succ i=>
    have:=ih i (by simpa using h)
    show y.ents.length+bulkE (ys.set i _)=y.ents.length+bulkE ys;rw[this]
 refine⟨?_,fun y hy=>?_,⟨fun y hy=>?_,h.nums.2⟩⟩
 ·show(s.inos.set i _).length+bulkE (s.inos.set i _)+_+_≤_;rw[List.length_set,hb _ _ hx];exact h.big
 ·rcases List.mem_or_eq_of_mem_set hy with hy|rfl
  ·exact h.text y hy
  ·exact⟨hd,(h.text x hmem).2⟩
 ·rcases List.mem_or_eq_of_mem_set hy with hy|rfl
  ·exact h.nums.1 y hy
  ·exact h.nums.1 x hmem
end Go.Proofs.YtmmpkfcdfcldlaaGreat
