/- Parts of the proof, side by side: FsRename, Rows0, FsBoxIno, FsOpen. -/
import Derived.Test.YtmmpkfcdfcldlaaGreatM09
import Derived.Test.YtmmpkfcdfcldlaaGreatM06
import Derived.Test.YtmmpkfcdfcldlaaGreatM01
import Derived.Deep.Cut
import Derived.Deep.DeepCutAuto
set_option linter.unusedVariables false
set_option linter.unusedSimpArgs false
namespace Go.Proofs.YtmmpkfcdfcldlaaGreat
open Lib (hid)
open Go.RowKit
theorem zhr (f:Ino→Ino) (hf:∀x,(f x).num=x.num) (num:Int):∀(is:List Ino) (i k:Nat),atG (is.modify i f) num k=atG is num k
 | [],i,k=>by simp
 | x::xs,0,k=>by
  show atG (f x::xs) num k=atG (x::xs) num k;unfold atG;rw[hf]
 | x::xs,i+1,k=>by
  show atG (x::xs.modify i f) num k=atG (x::xs) num k;unfold atG;rw[zhr f hf num xs i (k+1)]
theorem z3s (is:List Ino) (d:Int) (f:List En→List En) (num:Int):atV (setEnts is d f) num=atV is num:=zhr (fun x=>{ x with ents:=f x.ents }) (fun _=>rfl) num is _ 0
theorem z7h (f:List En→List En) (hf:∀es,(f es).length≤es.length):∀(is:List Ino) (i:Nat),bulkE (is.modify i fun x=>{ x with ents:=f x.ents })≤bulkE is
 | [],_=>by simp
 | x::xs,0=>by
  have:=hf x.ents
  show(f x.ents).length+bulkE xs≤x.ents.length+bulkE xs;omega
 | x::xs,i+1=>by
  have:=z7h f hf xs i
  show x.ents.length+bulkE (xs.modify i _)≤x.ents.length+bulkE xs;omega
theorem z3d {α:Type} (f:α→α):∀(l:List α) (i:Nat) (y:α),y∈l.modify i f→y∈l∨∃x∈l,y=f x
 | [],_,_,h=>by simp at h
 | x::xs,0,y,h=>by
  have h2:y∈f x::xs:=h
  rcases List.mem_cons.1 h2 with rfl|h2
  ·exact .inr ⟨x,List.mem_cons_self,rfl⟩
  ·exact .inl (List.mem_cons_of_mem _ h2)
 | x :: xs, i + 1, y, h => by
  have h2:y∈x::xs.modify i f:=h
  rcases List.mem_cons.1 h2 with rfl|h2
  ·exact .inl List.mem_cons_self
  ·rcases z3d f xs i y h2 with h3|⟨z,h3,h4⟩
   ·exact .inl (List.mem_cons_of_mem _ h3)
   ·exact .inr ⟨z,List.mem_cons_of_mem _ h3,h4⟩
theorem z4d:∀(es:List En) (name:ByteArray) (e:En),e∈dropE es name→e∈es
 | [],_,_,h=>by simp[dropE] at h
 | y :: es, name, e, h => by
  unfold dropE at h
  split at h
  ·exact List.mem_cons_of_mem _ (z4d es name e h)
  ·rcases List.mem_cons.1 h with rfl|h
   ·exact List.mem_cons_self
   ·exact List.mem_cons_of_mem _ (z4d es name e h)
theorem Sized.dropE {s:St} (h:Sized s) (dir:Int) (name:ByteArray):Sized { s with inos:=setEnts s.inos dir fun es=>Go.Proofs.YtmmpkfcdfcldlaaGreat.dropE es name }:=by
 refine⟨?_,fun x hx=>?_,⟨fun x hx=>?_,h.nums.2⟩⟩
 ·have h1:=z7h (fun es=>Go.Proofs.YtmmpkfcdfcldlaaGreat.dropE es name) (fun es=>z8r es name) s.inos (atV s.inos dir).toNat;have:=h.big;have h2:(setEnts s.inos dir fun es=>Go.Proofs.YtmmpkfcdfcldlaaGreat.dropE es name).length=s.inos.length:=by unfold setEnts;rw[List.length_modify]
  have h3:bulkE (setEnts s.inos dir fun es=>Go.Proofs.YtmmpkfcdfcldlaaGreat.dropE es name)≤bulkE s.inos:=h1
  show(setEnts s.inos dir fun es=>Go.Proofs.YtmmpkfcdfcldlaaGreat.dropE es name).length+bulkE (setEnts s.inos dir fun es=>Go.Proofs.YtmmpkfcdfcldlaaGreat.dropE es name)+s.opn.length+s.made.length≤_;omega
 ·rcases z3d _ _ _ _ hx with hx|⟨z,hz,rfl⟩
  ·exact h.text x hx
  ·exact⟨(h.text z hz).1,fun e he=>(h.text z hz).2 e (z4d _ _ _ he)⟩
 ·rcases z3d _ _ _ _ hx with hx|⟨z,hz,rfl⟩
  ·exact h.nums.1 x hx
  ·exact⟨(h.nums.1 z hz).1,(h.nums.1 z hz).2.1,fun e he=>(h.nums.1 z hz).2.2 e (z4d _ _ _ he)⟩
set_option maxRecDepth 100000 in
set_option maxHeartbeats 16000000 in
theorem zg2 (B p:Nat) (s:St) (c:Ca) (dir:Int) (name:ByteArray) (num:Int) (w:World) (h:Own B w p s) (hB:B≤w.heap.size) (hw:Whole s.inos) (hpz2:c.path2.size≤140737488355328) (hns:(parentV s.inos c.path2).2.1.size≤140737488355328)
  (hdir:0≤atV s.inos dir) (hnum:0≤atV s.inos num) (hdeep:dirAt s.inos num=true→Deep s.inos (1+s.inos.length) num) (hz:Sized (renameV s c dir name num).1):
  Calls Tryz.prog 129 #[.pointer (some ⟨p,0,.none⟩),caV c,.int .i64 dir,.string name,.int .i64 num] w fun e w'=>e=.returned (resV (renameV s c dir name num).2)∧Own B w' p (renameV s c dir name num).1∧Below B w w'∧Aside p w w':=by
 obtain⟨LV,hLV⟩:∃LV,renameV s c dir name num=LV:=⟨_,rfl⟩;obtain⟨⟨DR,NM,C2⟩,hPA⟩:∃x,parentV s.inos c.path2=x:=⟨_,rfl⟩;obtain⟨BT,hBT⟩:∃BT,(if DR=dir then name else txt [])=BT:=⟨_,rfl⟩;have hdr0:=z3i s.inos c.path2;rw[hLV] at hz ⊢;unfold renameV at hLV;rw[hPA] at hLV hns hdr0;dsimp only at hLV hns hdr0;rw[hBT] at hLV;obtain⟨i,x,hat,hx,hxn⟩:=z0r hnum;have hda:dirAt s.inos num=x.dir:=by unfold dirAt;rw[hat,z0c,hx]
 rw[hda] at hLV hdeep;obtain⟨DX,hDX⟩:∃DX,x.dir=DX:=⟨_,rfl⟩;rw[hDX] at hLV hdeep;obtain⟨W,W2,hW,hW2,hsz1,hfr⟩:=Fr.start h hB c;have HF:=hid hfr;clear h hfr;obtain⟨A,n,cp,E,m,d,D,k,e,hp,hcl,p0,p1,p2,pf,hst,hI,hn,c0,c1,c2,c3,c4,c5,c6,c7⟩:=HF.out.vals;have HST:=hid hst;have HI:=hid hI;clear hst hI pf;have HLV:=hid hLV;have HPA:=hid hPA;have HW:=hid hw;have HZ:=hid hz;have HDR0:=hid hdr0;have HDIR:=hid hdir;have HNUM:=hid hnum;have HAT:=hid hat;have HX:=hid hx;have HDX:=hid hDX;have HDEEP:=hid hdeep;have HBT:=hid hBT;clear hLV hPA hw hz hdr0 hdir hnum hat hx hDX hdeep hda hBT hxn;unfold caV
 go_enter Tryz.func129,Tryz.ntmps129
 go_wp2_with fail;clear hW hW2;have hX:=@Ext.cell W2;refine wre ?_
 repeat (go_big_quiet_step (first|(go_at_call 121;rename_i X;exact Calls.ext_of (by have:=z2n _ s c.path2 _ (HST.out.below X.bel) HW.out hpz2;rw[HPA.out] at this;dsimp only at this;exact this))))
 refine wpQuiet_nil ?_;rintro w7 ⟨X,rfl⟩;generalize hZe:X.w=Z1;have hZ2:=hZe▸X.bel;have HF1:=hid (HF.out.below hZ2);clear hZe X hX hZ2;clear p0 p1 p2 c0 c1 c2 c3 c4 c5 c6 c7;obtain⟨A1,n1,cp1,E1,m1,d1,D1,k1,e1,hp1,hcl1,p01,p11,p21,pf1,hst1,hI1,hn1,c01,c11,c21,c31,c41,c51,c61,c71⟩:=HF1.out.vals;have HST1:=hid hst1;have HI1:=hid hI1;clear hst1 hI1 pf1
 by_cases hdd:DR=dir
 ·have qd : (DR == dir) = true := by rw [beq_iff_eq]; exact hdd
  have hbt:name=BT:=by rw[←HBT.out,if_pos hdd]
  subst hbt;clear hdd
  by_cases hc2:C2=0
  rotate_left
  ·have q1:(C2 != 0)=true:=by rw[bne_iff_ne];exact hc2
   have hr:=HLV.out;rw[if_pos hc2] at hr;have HR8:=hid hr;clear hr hc2;go_wp2_with fail;refine(z0d C2 _).mono ?_;rintro e10 w10 ⟨rfl,hb10⟩;obtain⟨g0,g1',g2',g3,g4,g5,gf,W9,hW9,HR5,HOF,HBF,HAS⟩:=HF1.out.fin hb10 (.int .i64 C2) (.int .i64 0) (.int .i64 0) (.bool false) (.string ⟨#[]⟩) (.slice none 0 0);clear hb10;go_wp2_with fail
   (try simp only[Exit.inBlock,Exit.then])
   refine z0e rfl HR5.out rfl rfl ?_;exact⟨by rw[←HR8.out];rfl,by rw[←HR8.out];exact HOF.out,HBF.out,HAS.out⟩
  ·subst hc2;have hdr:=HDR0.out rfl;have hr:=HLV.out;rw[if_neg (by decide)] at hr;have hin:i<n1:=by have:=(List.getElem?_eq_some_iff.1 HX.out).1;have:=HI1.out.1;omega
   obtain⟨g,og,x',E3,m3,d3,hA1,hg,hx',_,hmem,e0,e1,e2,_,_,e3⟩:=HI1.out.get i hin;subst hA1;have ex:x'=x:=by have h1:=HX.out;rw[hx'] at h1;exact Option.some.inj h1
   subst ex;rw[HDX.out] at e1;have i0:(0:Int)≤(i:Int):=by omega
   have i1:(i:Int)<(n1:Int):=by omega
   obtain⟨EV,hEV⟩:∃EV,entV s.inos DR NM=EV:=⟨_,rfl⟩;obtain⟨FV,hFV⟩:∃FV,fullV s.inos DR NM name=FV:=⟨_,rfl⟩;obtain⟨WI,hWI⟩:∃WI,withinV s.inos DR num=WI:=⟨_,rfl⟩;rw[hEV,hFV,hWI] at hr;have HR:=hid hr;have HEV:=hid hEV;have HFV:=hid hFV;have HWI:Hid (withinF s.inos DR (1+s.inos.length) num=WI):=hid hWI;clear hr hEV hFV hWI hx' hmem;cases DX
   ·go_wp2_with fail;have hX:=@Ext.cell Z1;refine wre ?_
    repeat (go_big_quiet_step (first|(go_at_call 94;rename_i X;exact Calls.ext_of (by have:=z0o _ s num _ (HST1.out.below X.bel);rw[HAT.out] at this;exact this))))
    refine wpQuiet_nil ?_;rintro w7 ⟨X,rfl⟩;generalize hZe:X.w=Z2;have hZ2:=hZe▸X.bel;have HF2:=hid (HF1.out.below hZ2);clear hZe X hX hZ2;clear p01 p11 p21 c01 c11 c21 c31 c41 c51 c61 c71;clear e0 e1 e2 e3;obtain⟨A2,n2,cp2,E2,m2,d2,D2,k2,e2,hp2,hcl2,p02,p12,p22,pf2,hst2,hI2,hn2,c02,c12,c22,c32,c42,c52,c62,c72⟩:=HF2.out.vals;have HST2:=hid hst2;have HI2:=hid hI2;clear hst2 hI2 pf2;go_wp2_with fail;refine(z1q _ s DR NM _ HST2.out).mono ?_;rintro ex Z4 ⟨rfl,hbx⟩;have HF4:=hid (HF2.out.below hbx);clear hbx;clear p02 p12 p22 c02 c12 c22 c32 c42 c52 c62 c72;obtain⟨A4,n4,cp4,E4,m4,d4,D4,k4,e4,hp4,hcl4,p04,p14,p24,pf4,hst4,hI4,hn4,c04,c14,c24,c34,c44,c54,c64,c74⟩:=HF4.out.vals;have HST4:=hid hst4;have HI4:=hid hI4;clear hst4 hI4 pf4;rw[HEV.out]
    by_cases hev:EV=0
    rotate_left
    ·have q1:(EV != 0)=true:=by rw[bne_iff_ne];exact hev
     have hr:=HR.out;rw[if_neg (by simp),if_pos hev] at hr;have HR7:=hid hr;clear hr hev;go_wp2_with fail;refine(z0d 2 _).mono ?_;rintro e10 w10 ⟨rfl,hb10⟩;obtain⟨g0,g1',g2',g3,g4,g5,gf,W9,hW9,HR5,HOF,HBF,HAS⟩:=HF4.out.fin hb10 (.int .i64 2) (.int .i64 0) (.int .i64 0) (.bool false) (.string ⟨#[]⟩) (.slice none 0 0);clear hb10;go_wp2_with fail
     (try simp only[Exit.inBlock,Exit.then])
     refine z0e rfl HR5.out rfl rfl ?_;exact⟨by rw[←HR7.out];rfl,by rw[←HR7.out];exact HOF.out,HBF.out,HAS.out⟩
    ·subst hev;have hr:=HR.out;rw[if_neg (by simp),if_neg (by simp)] at hr;have HR7:=hid hr;clear hr;go_wp2_with fail;refine(z4t _ s DR NM _ _ HST4.out hdr hns).mono ?_;rintro ex Z5 ⟨rfl,hbx⟩;have HF5:=hid (HF4.out.below hbx);clear hbx;clear p04 p14 p24 c04 c14 c24 c34 c44 c54 c64 c74;obtain⟨A5,n5,cp5,E5,m5,d5,D5,k5,e5,hp5,hcl5,p05,p15,p25,pf5,hst5,hI5,hn5,c05,c15,c25,c35,c45,c55,c65,c75⟩:=HF5.out.vals;have HST5:=hid hst5;have HI5:=hid hI5;clear hst5 hI5 pf5;rw[show fullV s.inos DR NM name=FV from HFV.out];cases FV
     ·have hr:=HR7.out;rw[if_neg (by decide)] at hr;have HR6:=hid hr;have hzz:=HZ.out;rw[←hr] at hzz;have HZZ:=hid hzz;have hdr2:0≤atV (setEnts s.inos dir fun es=>dropE es name) DR:=by rw[z3s];exact hdr
      have HDR2:=hid hdr2;clear hr hzz hdr2;go_wp2_with fail;refine(z4s B p s dir name Z5 HF5.out.own (by have:=HF5.out.size;omega) HDIR.out (HF5.out.own.sized.dropE dir name)).mono ?_;rintro ex Z6 ⟨rfl,hox,hbx,hax⟩;have HF6:=hid (HF5.out.step hox hbx hax);clear hox hbx hax;clear p05 p15 p25 c05 c15 c25 c35 c45 c55 c65 c75;go_wp2_with fail;refine(z6n B p _ DR NM num Z6 HF6.out.own (by have:=HF6.out.size;omega) HDR2.out hns HZZ.out).mono ?_;rintro ex Z7 ⟨rfl,hox,hbx,hax⟩;have HF7:=hid (HF6.out.step hox hbx hax);clear hox hbx hax;go_wp2_with fail;refine(z0d 0 _).mono ?_;rintro e10 w10 ⟨rfl,hb10⟩;obtain⟨g0,g1',g2',g3,g4,g5,gf,W9,hW9,HR5,HOF,HBF,HAS⟩:=HF7.out.fin hb10 (.int .i64 0) (.int .i64 0) (.int .i64 0) (.bool false) (.string ⟨#[]⟩) (.slice none 0 0);clear hb10;go_wp2_with fail
      (try simp only[Exit.inBlock,Exit.then])
      refine z0e rfl HR5.out rfl rfl ?_;exact⟨by rw[←HR6.out];rfl,by rw[←HR6.out];exact HOF.out,HBF.out,HAS.out⟩
     ·have hr:=HR7.out;rw[if_pos rfl] at hr;have HR6:=hid hr;clear hr;go_wp2_with fail;refine(z0d 5 _).mono ?_;rintro e10 w10 ⟨rfl,hb10⟩;obtain⟨g0,g1',g2',g3,g4,g5,gf,W9,hW9,HR5,HOF,HBF,HAS⟩:=HF5.out.fin hb10 (.int .i64 5) (.int .i64 0) (.int .i64 0) (.bool false) (.string ⟨#[]⟩) (.slice none 0 0);clear hb10;go_wp2_with fail
      (try simp only[Exit.inBlock,Exit.then])
      refine z0e rfl HR5.out rfl rfl ?_;exact⟨by rw[←HR6.out];rfl,by rw[←HR6.out];exact HOF.out,HBF.out,HAS.out⟩
   ·have HDP:=hid (HDEEP.out rfl);clear HDEEP;go_wp2_with fail;have hX:=@Ext.cell Z1;refine wre ?_
    repeat (go_big_quiet_step (first|(go_at_call 94;rename_i X;exact Calls.ext_of (by have:=z0o _ s num _ (HST1.out.below X.bel);rw[HAT.out] at this;exact this))|(go_at_call 149;rename_i X;exact Calls.ext_of (by have:=z5l s HW.out DR _ num _ _ (HST1.out.below X.bel) HNUM.out HDP.out;rw[HWI.out] at this;exact this))))
    refine wpQuiet_nil ?_;rintro w7 ⟨X,rfl⟩;generalize hZe:X.w=Z2;have hZ2:=hZe▸X.bel;have HF2:=hid (HF1.out.below hZ2);clear hZe X hX hZ2;clear p01 p11 p21 c01 c11 c21 c31 c41 c51 c61 c71;cases WI
    ·clear e0 e1 e2 e3;obtain⟨A2,n2,cp2,E2,m2,d2,D2,k2,e2,hp2,hcl2,p02,p12,p22,pf2,hst2,hI2,hn2,c02,c12,c22,c32,c42,c52,c62,c72⟩:=HF2.out.vals;have HST2:=hid hst2;have HI2:=hid hI2;clear hst2 hI2 pf2;go_wp2_with fail;refine(z1q _ s DR NM _ HST2.out).mono ?_;rintro ex Z4 ⟨rfl,hbx⟩;have HF4:=hid (HF2.out.below hbx);clear hbx;clear p02 p12 p22 c02 c12 c22 c32 c42 c52 c62 c72;obtain⟨A4,n4,cp4,E4,m4,d4,D4,k4,e4,hp4,hcl4,p04,p14,p24,pf4,hst4,hI4,hn4,c04,c14,c24,c34,c44,c54,c64,c74⟩:=HF4.out.vals;have HST4:=hid hst4;have HI4:=hid hI4;clear hst4 hI4 pf4;rw[HEV.out]
     by_cases hev:EV=0
     rotate_left
     ·have q1:(EV != 0)=true:=by rw[bne_iff_ne];exact hev
      have hr:=HR.out;rw[if_neg (by simp),if_pos hev] at hr;have HR7:=hid hr;clear hr hev;go_wp2_with fail;refine(z0d 2 _).mono ?_;rintro e10 w10 ⟨rfl,hb10⟩;obtain⟨g0,g1',g2',g3,g4,g5,gf,W9,hW9,HR5,HOF,HBF,HAS⟩:=HF4.out.fin hb10 (.int .i64 2) (.int .i64 0) (.int .i64 0) (.bool false) (.string ⟨#[]⟩) (.slice none 0 0);clear hb10;go_wp2_with fail
      (try simp only[Exit.inBlock,Exit.then])
      refine z0e rfl HR5.out rfl rfl ?_;exact⟨by rw[←HR7.out];rfl,by rw[←HR7.out];exact HOF.out,HBF.out,HAS.out⟩
     ·subst hev;have hr:=HR.out;rw[if_neg (by simp),if_neg (by simp)] at hr;have HR7:=hid hr;clear hr;go_wp2_with fail;refine(z4t _ s DR NM _ _ HST4.out hdr hns).mono ?_;rintro ex Z5 ⟨rfl,hbx⟩;have HF5:=hid (HF4.out.below hbx);clear hbx;clear p04 p14 p24 c04 c14 c24 c34 c44 c54 c64 c74;obtain⟨A5,n5,cp5,E5,m5,d5,D5,k5,e5,hp5,hcl5,p05,p15,p25,pf5,hst5,hI5,hn5,c05,c15,c25,c35,c45,c55,c65,c75⟩:=HF5.out.vals;have HST5:=hid hst5;have HI5:=hid hI5;clear hst5 hI5 pf5;rw[show fullV s.inos DR NM name=FV from HFV.out];cases FV
      ·have hr:=HR7.out;rw[if_neg (by decide)] at hr;have HR6:=hid hr;have hzz:=HZ.out;rw[←hr] at hzz;have HZZ:=hid hzz;have hdr2:0≤atV (setEnts s.inos dir fun es=>dropE es name) DR:=by rw[z3s];exact hdr
       have HDR2:=hid hdr2;clear hr hzz hdr2;go_wp2_with fail;refine(z4s B p s dir name Z5 HF5.out.own (by have:=HF5.out.size;omega) HDIR.out (HF5.out.own.sized.dropE dir name)).mono ?_;rintro ex Z6 ⟨rfl,hox,hbx,hax⟩;have HF6:=hid (HF5.out.step hox hbx hax);clear hox hbx hax;clear p05 p15 p25 c05 c15 c25 c35 c45 c55 c65 c75;go_wp2_with fail;refine(z6n B p _ DR NM num Z6 HF6.out.own (by have:=HF6.out.size;omega) HDR2.out hns HZZ.out).mono ?_;rintro ex Z7 ⟨rfl,hox,hbx,hax⟩;have HF7:=hid (HF6.out.step hox hbx hax);clear hox hbx hax;go_wp2_with fail;refine(z0d 0 _).mono ?_;rintro e10 w10 ⟨rfl,hb10⟩;obtain⟨g0,g1',g2',g3,g4,g5,gf,W9,hW9,HR5,HOF,HBF,HAS⟩:=HF7.out.fin hb10 (.int .i64 0) (.int .i64 0) (.int .i64 0) (.bool false) (.string ⟨#[]⟩) (.slice none 0 0);clear hb10;go_wp2_with fail
       (try simp only[Exit.inBlock,Exit.then])
       refine z0e rfl HR5.out rfl rfl ?_;exact⟨by rw[←HR6.out];rfl,by rw[←HR6.out];exact HOF.out,HBF.out,HAS.out⟩
      ·have hr:=HR7.out;rw[if_pos rfl] at hr;have HR6:=hid hr;clear hr;go_wp2_with fail;refine(z0d 5 _).mono ?_;rintro e10 w10 ⟨rfl,hb10⟩;obtain⟨g0,g1',g2',g3,g4,g5,gf,W9,hW9,HR5,HOF,HBF,HAS⟩:=HF5.out.fin hb10 (.int .i64 5) (.int .i64 0) (.int .i64 0) (.bool false) (.string ⟨#[]⟩) (.slice none 0 0);clear hb10;go_wp2_with fail
       (try simp only[Exit.inBlock,Exit.then])
       refine z0e rfl HR5.out rfl rfl ?_;exact⟨by rw[←HR6.out];rfl,by rw[←HR6.out];exact HOF.out,HBF.out,HAS.out⟩
    ·have hr:=HR.out;rw[if_pos (by simp)] at hr;have HR7:=hid hr;clear hr e0 e1 e2 e3;go_wp2_with fail;refine(z0d 9 _).mono ?_;rintro e10 w10 ⟨rfl,hb10⟩;obtain⟨g0,g1',g2',g3,g4,g5,gf,W9,hW9,HR5,HOF,HBF,HAS⟩:=HF2.out.fin hb10 (.int .i64 9) (.int .i64 0) (.int .i64 0) (.bool false) (.string ⟨#[]⟩) (.slice none 0 0);clear hb10;go_wp2_with fail
     (try simp only[Exit.inBlock,Exit.then])
     refine z0e rfl HR5.out rfl rfl ?_;exact⟨by rw[←HR7.out];rfl,by rw[←HR7.out];exact HOF.out,HBF.out,HAS.out⟩
 ·have qd : (DR == dir) = false := by rw [beq_eq_false_iff_ne]; exact hdd
  have hbt:BT=⟨#[]⟩:=by rw[←HBT.out,if_neg hdd];rfl
  subst hbt;clear hdd
  by_cases hc2:C2=0
  rotate_left
  ·have q1:(C2 != 0)=true:=by rw[bne_iff_ne];exact hc2
   have hr:=HLV.out;rw[if_pos hc2] at hr;have HR8:=hid hr;clear hr hc2;go_wp2_with fail;refine(z0d C2 _).mono ?_;rintro e10 w10 ⟨rfl,hb10⟩;obtain⟨g0,g1',g2',g3,g4,g5,gf,W9,hW9,HR5,HOF,HBF,HAS⟩:=HF1.out.fin hb10 (.int .i64 C2) (.int .i64 0) (.int .i64 0) (.bool false) (.string ⟨#[]⟩) (.slice none 0 0);clear hb10;go_wp2_with fail
   (try simp only[Exit.inBlock,Exit.then])
   refine z0e rfl HR5.out rfl rfl ?_;exact⟨by rw[←HR8.out];rfl,by rw[←HR8.out];exact HOF.out,HBF.out,HAS.out⟩
  ·subst hc2;have hdr:=HDR0.out rfl;have hr:=HLV.out;rw[if_neg (by decide)] at hr;have hin:i<n1:=by have:=(List.getElem?_eq_some_iff.1 HX.out).1;have:=HI1.out.1;omega
   obtain⟨g,og,x',E3,m3,d3,hA1,hg,hx',_,hmem,e0,e1,e2,_,_,e3⟩:=HI1.out.get i hin;subst hA1;have ex:x'=x:=by have h1:=HX.out;rw[hx'] at h1;exact Option.some.inj h1
   subst ex;rw[HDX.out] at e1;have i0:(0:Int)≤(i:Int):=by omega
   have i1:(i:Int)<(n1:Int):=by omega
   obtain⟨EV,hEV⟩:∃EV,entV s.inos DR NM=EV:=⟨_,rfl⟩;obtain⟨FV,hFV⟩:∃FV,fullV s.inos DR NM ⟨#[]⟩=FV:=⟨_,rfl⟩;obtain⟨WI,hWI⟩:∃WI,withinV s.inos DR num=WI:=⟨_,rfl⟩;rw[hEV,hFV,hWI] at hr;have HR:=hid hr;have HEV:=hid hEV;have HFV:=hid hFV;have HWI:Hid (withinF s.inos DR (1+s.inos.length) num=WI):=hid hWI;clear hr hEV hFV hWI hx' hmem;cases DX
   ·go_wp2_with fail;have hX:=@Ext.cell Z1;refine wre ?_
    repeat (go_big_quiet_step (first|(go_at_call 94;rename_i X;exact Calls.ext_of (by have:=z0o _ s num _ (HST1.out.below X.bel);rw[HAT.out] at this;exact this))))
    refine wpQuiet_nil ?_;rintro w7 ⟨X,rfl⟩;generalize hZe:X.w=Z2;have hZ2:=hZe▸X.bel;have HF2:=hid (HF1.out.below hZ2);clear hZe X hX hZ2;clear p01 p11 p21 c01 c11 c21 c31 c41 c51 c61 c71;clear e0 e1 e2 e3;obtain⟨A2,n2,cp2,E2,m2,d2,D2,k2,e2,hp2,hcl2,p02,p12,p22,pf2,hst2,hI2,hn2,c02,c12,c22,c32,c42,c52,c62,c72⟩:=HF2.out.vals;have HST2:=hid hst2;have HI2:=hid hI2;clear hst2 hI2 pf2;go_wp2_with fail;refine(z1q _ s DR NM _ HST2.out).mono ?_;rintro ex Z4 ⟨rfl,hbx⟩;have HF4:=hid (HF2.out.below hbx);clear hbx;clear p02 p12 p22 c02 c12 c22 c32 c42 c52 c62 c72;obtain⟨A4,n4,cp4,E4,m4,d4,D4,k4,e4,hp4,hcl4,p04,p14,p24,pf4,hst4,hI4,hn4,c04,c14,c24,c34,c44,c54,c64,c74⟩:=HF4.out.vals;have HST4:=hid hst4;have HI4:=hid hI4;clear hst4 hI4 pf4;rw[HEV.out]
    by_cases hev:EV=0
    rotate_left
    ·have q1:(EV != 0)=true:=by rw[bne_iff_ne];exact hev
     have hr:=HR.out;rw[if_neg (by simp),if_pos hev] at hr;have HR7:=hid hr;clear hr hev;go_wp2_with fail;refine(z0d 2 _).mono ?_;rintro e10 w10 ⟨rfl,hb10⟩;obtain⟨g0,g1',g2',g3,g4,g5,gf,W9,hW9,HR5,HOF,HBF,HAS⟩:=HF4.out.fin hb10 (.int .i64 2) (.int .i64 0) (.int .i64 0) (.bool false) (.string ⟨#[]⟩) (.slice none 0 0);clear hb10;go_wp2_with fail
     (try simp only[Exit.inBlock,Exit.then])
     refine z0e rfl HR5.out rfl rfl ?_;exact⟨by rw[←HR7.out];rfl,by rw[←HR7.out];exact HOF.out,HBF.out,HAS.out⟩
    ·subst hev;have hr:=HR.out;rw[if_neg (by simp),if_neg (by simp)] at hr;have HR7:=hid hr;clear hr;go_wp2_with fail;refine(z4t _ s DR NM _ _ HST4.out hdr hns).mono ?_;rintro ex Z5 ⟨rfl,hbx⟩;have HF5:=hid (HF4.out.below hbx);clear hbx;clear p04 p14 p24 c04 c14 c24 c34 c44 c54 c64 c74;obtain⟨A5,n5,cp5,E5,m5,d5,D5,k5,e5,hp5,hcl5,p05,p15,p25,pf5,hst5,hI5,hn5,c05,c15,c25,c35,c45,c55,c65,c75⟩:=HF5.out.vals;have HST5:=hid hst5;have HI5:=hid hI5;clear hst5 hI5 pf5;rw[show fullV s.inos DR NM ⟨#[]⟩=FV from HFV.out];cases FV
     ·have hr:=HR7.out;rw[if_neg (by decide)] at hr;have HR6:=hid hr;have hzz:=HZ.out;rw[←hr] at hzz;have HZZ:=hid hzz;have hdr2:0≤atV (setEnts s.inos dir fun es=>dropE es name) DR:=by rw[z3s];exact hdr
      have HDR2:=hid hdr2;clear hr hzz hdr2;go_wp2_with fail;refine(z4s B p s dir name Z5 HF5.out.own (by have:=HF5.out.size;omega) HDIR.out (HF5.out.own.sized.dropE dir name)).mono ?_;rintro ex Z6 ⟨rfl,hox,hbx,hax⟩;have HF6:=hid (HF5.out.step hox hbx hax);clear hox hbx hax;clear p05 p15 p25 c05 c15 c25 c35 c45 c55 c65 c75;go_wp2_with fail;refine(z6n B p _ DR NM num Z6 HF6.out.own (by have:=HF6.out.size;omega) HDR2.out hns HZZ.out).mono ?_;rintro ex Z7 ⟨rfl,hox,hbx,hax⟩;have HF7:=hid (HF6.out.step hox hbx hax);clear hox hbx hax;go_wp2_with fail;refine(z0d 0 _).mono ?_;rintro e10 w10 ⟨rfl,hb10⟩;obtain⟨g0,g1',g2',g3,g4,g5,gf,W9,hW9,HR5,HOF,HBF,HAS⟩:=HF7.out.fin hb10 (.int .i64 0) (.int .i64 0) (.int .i64 0) (.bool false) (.string ⟨#[]⟩) (.slice none 0 0);clear hb10;go_wp2_with fail
      (try simp only[Exit.inBlock,Exit.then])
      refine z0e rfl HR5.out rfl rfl ?_;exact⟨by rw[←HR6.out];rfl,by rw[←HR6.out];exact HOF.out,HBF.out,HAS.out⟩
     ·have hr:=HR7.out;rw[if_pos rfl] at hr;have HR6:=hid hr;clear hr;go_wp2_with fail;refine(z0d 5 _).mono ?_;rintro e10 w10 ⟨rfl,hb10⟩;obtain⟨g0,g1',g2',g3,g4,g5,gf,W9,hW9,HR5,HOF,HBF,HAS⟩:=HF5.out.fin hb10 (.int .i64 5) (.int .i64 0) (.int .i64 0) (.bool false) (.string ⟨#[]⟩) (.slice none 0 0);clear hb10;go_wp2_with fail
      (try simp only[Exit.inBlock,Exit.then])
      refine z0e rfl HR5.out rfl rfl ?_;exact⟨by rw[←HR6.out];rfl,by rw[←HR6.out];exact HOF.out,HBF.out,HAS.out⟩
   ·have HDP:=hid (HDEEP.out rfl);clear HDEEP;go_wp2_with fail;have hX:=@Ext.cell Z1;refine wre ?_
    repeat (go_big_quiet_step (first|(go_at_call 94;rename_i X;exact Calls.ext_of (by have:=z0o _ s num _ (HST1.out.below X.bel);rw[HAT.out] at this;exact this))|(go_at_call 149;rename_i X;exact Calls.ext_of (by have:=z5l s HW.out DR _ num _ _ (HST1.out.below X.bel) HNUM.out HDP.out;rw[HWI.out] at this;exact this))))
    refine wpQuiet_nil ?_;rintro w7 ⟨X,rfl⟩;generalize hZe:X.w=Z2;have hZ2:=hZe▸X.bel;have HF2:=hid (HF1.out.below hZ2);clear hZe X hX hZ2;clear p01 p11 p21 c01 c11 c21 c31 c41 c51 c61 c71;cases WI
    ·clear e0 e1 e2 e3;obtain⟨A2,n2,cp2,E2,m2,d2,D2,k2,e2,hp2,hcl2,p02,p12,p22,pf2,hst2,hI2,hn2,c02,c12,c22,c32,c42,c52,c62,c72⟩:=HF2.out.vals;have HST2:=hid hst2;have HI2:=hid hI2;clear hst2 hI2 pf2;go_wp2_with fail;refine(z1q _ s DR NM _ HST2.out).mono ?_;rintro ex Z4 ⟨rfl,hbx⟩;have HF4:=hid (HF2.out.below hbx);clear hbx;clear p02 p12 p22 c02 c12 c22 c32 c42 c52 c62 c72;obtain⟨A4,n4,cp4,E4,m4,d4,D4,k4,e4,hp4,hcl4,p04,p14,p24,pf4,hst4,hI4,hn4,c04,c14,c24,c34,c44,c54,c64,c74⟩:=HF4.out.vals;have HST4:=hid hst4;have HI4:=hid hI4;clear hst4 hI4 pf4;rw[HEV.out]
     by_cases hev:EV=0
     rotate_left
     ·have q1:(EV != 0)=true:=by rw[bne_iff_ne];exact hev
      have hr:=HR.out;rw[if_neg (by simp),if_pos hev] at hr;have HR7:=hid hr;clear hr hev;go_wp2_with fail;refine(z0d 2 _).mono ?_;rintro e10 w10 ⟨rfl,hb10⟩;obtain⟨g0,g1',g2',g3,g4,g5,gf,W9,hW9,HR5,HOF,HBF,HAS⟩:=HF4.out.fin hb10 (.int .i64 2) (.int .i64 0) (.int .i64 0) (.bool false) (.string ⟨#[]⟩) (.slice none 0 0);clear hb10;go_wp2_with fail
      (try simp only[Exit.inBlock,Exit.then])
      refine z0e rfl HR5.out rfl rfl ?_;exact⟨by rw[←HR7.out];rfl,by rw[←HR7.out];exact HOF.out,HBF.out,HAS.out⟩
     ·subst hev;have hr:=HR.out;rw[if_neg (by simp),if_neg (by simp)] at hr;have HR7:=hid hr;clear hr;go_wp2_with fail;refine(z4t _ s DR NM _ _ HST4.out hdr hns).mono ?_;rintro ex Z5 ⟨rfl,hbx⟩;have HF5:=hid (HF4.out.below hbx);clear hbx;clear p04 p14 p24 c04 c14 c24 c34 c44 c54 c64 c74;obtain⟨A5,n5,cp5,E5,m5,d5,D5,k5,e5,hp5,hcl5,p05,p15,p25,pf5,hst5,hI5,hn5,c05,c15,c25,c35,c45,c55,c65,c75⟩:=HF5.out.vals;have HST5:=hid hst5;have HI5:=hid hI5;clear hst5 hI5 pf5;rw[show fullV s.inos DR NM ⟨#[]⟩=FV from HFV.out];cases FV
      ·have hr:=HR7.out;rw[if_neg (by decide)] at hr;have HR6:=hid hr;have hzz:=HZ.out;rw[←hr] at hzz;have HZZ:=hid hzz;have hdr2:0≤atV (setEnts s.inos dir fun es=>dropE es name) DR:=by rw[z3s];exact hdr
       have HDR2:=hid hdr2;clear hr hzz hdr2;go_wp2_with fail;refine(z4s B p s dir name Z5 HF5.out.own (by have:=HF5.out.size;omega) HDIR.out (HF5.out.own.sized.dropE dir name)).mono ?_;rintro ex Z6 ⟨rfl,hox,hbx,hax⟩;have HF6:=hid (HF5.out.step hox hbx hax);clear hox hbx hax;clear p05 p15 p25 c05 c15 c25 c35 c45 c55 c65 c75;go_wp2_with fail;refine(z6n B p _ DR NM num Z6 HF6.out.own (by have:=HF6.out.size;omega) HDR2.out hns HZZ.out).mono ?_;rintro ex Z7 ⟨rfl,hox,hbx,hax⟩;have HF7:=hid (HF6.out.step hox hbx hax);clear hox hbx hax;go_wp2_with fail;refine(z0d 0 _).mono ?_;rintro e10 w10 ⟨rfl,hb10⟩;obtain⟨g0,g1',g2',g3,g4,g5,gf,W9,hW9,HR5,HOF,HBF,HAS⟩:=HF7.out.fin hb10 (.int .i64 0) (.int .i64 0) (.int .i64 0) (.bool false) (.string ⟨#[]⟩) (.slice none 0 0);clear hb10;go_wp2_with fail
       (try simp only[Exit.inBlock,Exit.then])
       refine z0e rfl HR5.out rfl rfl ?_;exact⟨by rw[←HR6.out];rfl,by rw[←HR6.out];exact HOF.out,HBF.out,HAS.out⟩
      ·have hr:=HR7.out;rw[if_pos rfl] at hr;have HR6:=hid hr;clear hr;go_wp2_with fail;refine(z0d 5 _).mono ?_;rintro e10 w10 ⟨rfl,hb10⟩;obtain⟨g0,g1',g2',g3,g4,g5,gf,W9,hW9,HR5,HOF,HBF,HAS⟩:=HF5.out.fin hb10 (.int .i64 5) (.int .i64 0) (.int .i64 0) (.bool false) (.string ⟨#[]⟩) (.slice none 0 0);clear hb10;go_wp2_with fail
       (try simp only[Exit.inBlock,Exit.then])
       refine z0e rfl HR5.out rfl rfl ?_;exact⟨by rw[←HR6.out];rfl,by rw[←HR6.out];exact HOF.out,HBF.out,HAS.out⟩
    ·have hr:=HR.out;rw[if_pos (by simp)] at hr;have HR7:=hid hr;clear hr e0 e1 e2 e3;go_wp2_with fail;refine(z0d 9 _).mono ?_;rintro e10 w10 ⟨rfl,hb10⟩;obtain⟨g0,g1',g2',g3,g4,g5,gf,W9,hW9,HR5,HOF,HBF,HAS⟩:=HF2.out.fin hb10 (.int .i64 9) (.int .i64 0) (.int .i64 0) (.bool false) (.string ⟨#[]⟩) (.slice none 0 0);clear hb10;go_wp2_with fail
     (try simp only[Exit.inBlock,Exit.then])
     refine z0e rfl HR5.out rfl rfl ?_;exact⟨by rw[←HR7.out];rfl,by rw[←HR7.out];exact HOF.out,HBF.out,HAS.out⟩
theorem z6o (w:World) (o:Obj) (b:Nat) (hb:b=w.heap.size):(w.alloc o).heap[b]? =some o:=by subst hb;exact heap_alloc_new w o
theorem z2j {u w5:World} {g:Nat} {o:Obj} (hb:Below u.heap.size u w5) (h:u.heap[g]? =some o):w5.heap[g]? =some o:=(hb.block g (Array.getElem?_eq_some_iff.1 h).1).trans h
theorem al1 (w:World) (o:Obj):(w.alloc o).drew.heap[w.heap.size]? =some o:=heap_alloc_new w o
theorem zh7 {w:World} {b:Nat} {a0 a1 a2 a3:Value} (h:w.heap[b]? =some (.cells #[a0,a1,a2,a3] 59 (0,0))):w.cell? ⟨b,0,none⟩=some a0∧w.cell? ⟨b,1,none⟩=some a1∧w.cell? ⟨b,2,none⟩=some a2∧w.cell? ⟨b,3,none⟩=some a3∧∀j,w.frozen? ⟨b,j,none⟩=false:=by
 refine⟨?_,?_,?_,?_,fun j=>frozen_of_row w b j _ _ h⟩<;>(rw[cell_of_row w b _ _ _ (0,0) h];rfl)
theorem z4e (w:World) (core fd num:Int):∃W,w.alloc (.cells #[.int .i64 core,.int .i64 fd,.int .i64 num] 75)=W∧W.cell? ⟨w.heap.size,0,.none⟩=some (.int .i64 core)∧W.cell? ⟨w.heap.size,1,.none⟩=some (.int .i64 fd)∧W.cell? ⟨w.heap.size,2,.none⟩=some (.int .i64 num)∧Below w.heap.size w W∧w.heap.size<W.heap.size:=by
 refine⟨_,rfl,?_,?_,?_,(Below.refl _ _).alloc (Nat.le_refl _) _,by simp⟩
 ·exact(World.cell?_alloc_mark w _ _ (0,0) _).trans rfl
 ·exact(World.cell?_alloc_mark w _ _ (0,0) _).trans rfl
 ·exact(World.cell?_alloc_mark w _ _ (0,0) _).trans rfl
def prevD (ds:List Ds) (k:Nat):Option Ds:=if k=0 then none else ds[k-1]?
set_option maxRecDepth 100000 in
set_option maxHeartbeats 8000000 in
theorem zhs (v : Value) (s : St) (w : World) (h : StAt none w v s) :
  Calls Tryz.prog 41 #[v] w fun e w'=>e=.returned (.bool (opensV s))∧Below w.heap.size w w':=by
 obtain⟨⟨A,n,c,B,m,d,D,k,e,rfl,hI,hD,hM,h5,h6,h7⟩,hz⟩:=h;obtain⟨R,hR⟩:∃R,opensV s=R:=⟨_,rfl⟩;rw[hR];unfold opensV at hR;have hbig:=hz.big;have hn:=hD.1;have hn1:=hI.1;have hkm:=hM.1;have hm2:m≤1099511627776:=by omega
 have hn2:n≤1099511627776:=by omega
 have hk2:k≤1099511627776:=by omega
 rw[hkm] at hR;obtain⟨W,hW,b0,b1,b2,hal,hlt0⟩:=z1p w A n c B m d D k e;have HS:=hid ((StAt.of_parts hI hD hM h5 h6 h7 hz).below hal);have HI:=hid (hI.below hal);have HD:=hid (hD.below hal);have HAL:=hid hal;have HR:=hid hR;clear hI hD hM hz hR hal hbig hn hn1 hkm
 go_enter Tryz.func41,Tryz.ntmps41
 go_wp2_with fail;clear hW
 go_loopw [3,4,5,6] (fun i _ _ _ wr=>∃q:Nat,i=.int .i64 q∧q≤m∧Below W.heap.size W wr∧opensG s.inos k (s.opn.drop q) (prevD s.opn q)=R) (fun i _ _ _ _=>m-(intOf i).toNat)
 case atStart=>exact⟨0,rfl,by omega,Below.refl _ _,HR.out⟩
 case round =>
  obtain⟨q,rfl,hq,hbel,hc⟩:=hrel;have z0:=(hbel.cell (p:=⟨w.heap.size,0,.none⟩) hlt0).trans b0;have z1:=(hbel.cell (p:=⟨w.heap.size,1,.none⟩) hlt0).trans b1;have z2:=(hbel.cell (p:=⟨w.heap.size,2,.none⟩) hlt0).trans b2;have HB:=hid hbel;have HDr:=hid (HD.out.below hbel);clear hbel b0 b1 b2
  by_cases hlt:q<m
  ·obtain⟨g,off,y,rfl,hg,hy,hd,hmem,e0,e1,e2⟩:=HDr.out.get q hlt;rw[hd,opensG] at hc;have k0:(0:Int)≤(q:Int):=by omega
   have k1:(q:Int)<(m:Int):=by omega
   obtain⟨BD,hBD⟩:∃BD,dsBad s.inos k y=BD:=⟨_,rfl⟩;obtain⟨PD,hPD⟩:∃PD,dsPrev (prevD s.opn q) y=PD:=⟨_,rfl⟩;rw[hBD,hPD] at hc;have HBD:=hid hBD;have HPD:=hid hPD;have HC:=hid hc;have HY:=hid hy;clear hc hd hmem hy hBD hPD;obtain⟨V2,hV2,v0,v1,v2,hal4,hlt4⟩:=z4e wr y.core y.fd y.num;have hbv:=Cv.next HB.out hal4;have HSV:=hid (HS.out.below hbv);have HIV:=hid (HI.out.below hbv);have HDV:=hid (HD.out.below hbv);have x0:=(hal4.cell (p:=⟨w.heap.size,0,.none⟩) (Nat.lt_of_lt_of_le hlt0 HB.out.size)).trans z0;have x1:=(hal4.cell (p:=⟨w.heap.size,1,.none⟩) (Nat.lt_of_lt_of_le hlt0 HB.out.size)).trans z1;have x2:=(hal4.cell (p:=⟨w.heap.size,2,.none⟩) (Nat.lt_of_lt_of_le hlt0 HB.out.size)).trans z2;have HBV:=hid hbv;clear hal4 hbv;go_wp2_with fail;refine(z0o _ s y.num _ HSV.out).mono ?_;rintro e5 w5 ⟨rfl,hb5⟩;have p0:=(hb5.cell (p:=⟨w.heap.size,0,.none⟩) (Nat.lt_of_lt_of_le hlt0 HBV.out.size)).trans x0
   have p1:=(hb5.cell (p:=⟨w.heap.size,1,.none⟩) (Nat.lt_of_lt_of_le hlt0 HBV.out.size)).trans x1;have p2:=(hb5.cell (p:=⟨w.heap.size,2,.none⟩) (Nat.lt_of_lt_of_le hlt0 HBV.out.size)).trans x2;have d0:=(hb5.cell (p:=⟨wr.heap.size,0,.none⟩) hlt4).trans v0;have d1:=(hb5.cell (p:=⟨wr.heap.size,1,.none⟩) hlt4).trans v1;have d2:=(hb5.cell (p:=⟨wr.heap.size,2,.none⟩) hlt4).trans v2;have HI5:=hid (HIV.out.below hb5);have HD5:=hid (HDV.out.below hb5);have HB5:=hid (Cv.next HBV.out hb5);have hl5:wr.heap.size<w5.heap.size:=Nat.lt_of_lt_of_le hlt4 hb5.size;clear hb5 x0 x1 x2 v0 v1 v2 z0 z1 z2 e0 e1 e2 hV2;obtain⟨T,hT⟩:∃T,atV s.inos y.num=T:=⟨_,rfl⟩;rw[hT];have HT:=hid hT;clear hT;go_upto_region 6 with fail
   go_cut [55] (fun c wx=>c=.bool BD∧w5=wx)
   case first=>
    by_cases c1:y.core<0
    ·go_wp2_with fail;go_meet;exact⟨congrArg Value.bool (by rw[←HBD.out];unfold dsBad;simp[c1]),rfl⟩
    by_cases c2:(k:Int)≤y.core
    ·go_wp2_with fail;go_meet;exact⟨congrArg Value.bool (by rw[←HBD.out];unfold dsBad;simp[c2]),rfl⟩
    by_cases c3:y.fd<0
    ·go_wp2_with fail;go_meet;exact⟨congrArg Value.bool (by rw[←HBD.out];unfold dsBad;simp[c3]),rfl⟩
    by_cases c4:4≤y.fd
    ·go_wp2_with fail;go_meet;exact⟨congrArg Value.bool (by rw[←HBD.out];unfold dsBad;simp[c4]),rfl⟩
    rcases z0u s.inos y.num with⟨hat,_⟩|⟨i,x,hat,hx,_,_⟩
    ·have ht:T=-1:=by rw[←HT.out];exact hat
     subst ht;go_wp2_with fail;go_meet;exact⟨congrArg Value.bool (by rw[←HBD.out];unfold dsBad;rw[hat];simp[inoAt]),rfl⟩
    ·have ht:T=(i:Int):=by rw[←HT.out];exact hat
     subst ht;have hin:i<n:=by have:=(List.getElem?_eq_some_iff.1 hx).1;have:=HI5.out.1;omega
     obtain⟨g2,off2,x',E,m3,d3,rfl,hg2,hx',_,_,_,i1,_,_,_,_⟩:=HI5.out.get i hin;have ex:x=x':=by rw[hx] at hx';exact Option.some.inj hx'
     subst ex;have q0:decide ((i:Int)<0)=false:=by simp
     have i0:(0:Int)≤(i:Int):=by omega
     have i9:(i:Int)<(n:Int):=by omega
     have HX:=hid hx;have HA2:=hid hat;clear hx hx' hat;go_wp2_with fail;go_meet;exact⟨congrArg Value.bool (by rw[←HBD.out];unfold dsBad;rw[HA2.out,z0c,HX.out];simp;intro hh;exfalso;omega),rfl⟩
   case rest =>
    obtain⟨rfl,rfl⟩:=hcut;cases BD;rotate_left
    ·have hr:=HC.out;rw[if_pos rfl] at hr;have HR2:=hid hr;clear hr;go_wp2_with fail;go_ret;exact⟨Cv.ret_bool HR2.out,Cv.next HAL.out HB5.out⟩
    ·have hr:=HC.out;rw[if_neg (by simp)] at hr;have HR2:=hid hr;clear hr
     by_cases hq0:q=0
     ·have hP:PD=false:=by rw[←HPD.out,prevD,if_pos hq0];rfl
      subst hP;have q1:decide ((0:Int)<(q:Int))=false:=by simp;omega
      have hr:=HR2.out;rw[if_neg (by simp)] at hr;have HR3:=hid hr;clear hr;go_wp2_with fail;go_roundw
      case rel=>exact⟨q+1,by go_num,by omega,HB5.out,by
       have e:prevD s.opn (q+1)=some y:=by unfold prevD;rw[if_neg (by omega),Nat.add_sub_cancel];exact HY.out
       rw[e];exact HR3.out⟩
      case measure=>simp[intOf];omega
     ·obtain⟨j,rfl⟩:∃j,q=j+1:=⟨q-1,by omega⟩;obtain⟨g3,off3,o,hA3,hg3,hy3,_,_,f0,f1,f2⟩:=HD5.out.get j (by omega);injection hA3 with hA3
      injection hA3 with hA1 hA2
      subst hA1 hA2;have q1:decide ((0:Int)<((j+1:Nat):Int))=true:=by rw[decide_eq_true_eq];omega
      have q1b:decide ((0:Int)<(j:Int)+1)=true:=by rw[decide_eq_true_eq];omega
      have j0:(0:Int)≤(j:Int):=by omega
      have j1:(j:Int)<(m:Int):=by omega
      have jw:IntKind.i64.wrap ((j:Int)+1-1)=(j:Int):=by rw[IntKind.wrap_i64];omega
      have hP:PD=dsPrev (some o) y:=by rw[←HPD.out,prevD,if_neg (by omega),Nat.add_sub_cancel,hy3]
      have HP:=hid hP;obtain⟨V3,hV3,o0,o1,o2,hal6,hlt6⟩:=z4e w5 o.core o.fd o.num;have r0:=(hal6.cell (p:=⟨wr.heap.size,0,.none⟩) hl5).trans d0;have r1:=(hal6.cell (p:=⟨wr.heap.size,1,.none⟩) hl5).trans d1;have HB6:=hid (Cv.next HB5.out hal6);clear hal6 hP hy3 hq0;go_upto_region 10 with fail
      clear hV3 d0 d1 d2 p0 p1 p2 f0 f1 f2 hg3
      go_cut [82] (fun c wx=>c=.bool PD∧V3=wx)
      case first=>
       by_cases c1:y.core<o.core
       ·go_wp2_with fail;go_meet;exact⟨congrArg Value.bool (by rw[HP.out];unfold dsPrev;simp[c1]),rfl⟩
       by_cases c2:o.core=y.core
       ·have qc:(o.core==y.core)=true:=by rw[c2];exact beq_self_eq_true _
        have HC2:=hid c2;have q9:decide (y.core<o.core)=false:=by simp;omega
        clear c2;go_wp2_with fail;go_meet;exact⟨congrArg Value.bool (by rw[HP.out];unfold dsPrev;simp[HC2.out]),rfl⟩
       ·have qc:(o.core==y.core)=false:=by rw[beq_eq_false_iff_ne];exact c2
        go_wp2_with fail;go_meet;exact⟨congrArg Value.bool (by rw[HP.out];unfold dsPrev;simp[c1,c2]),rfl⟩
      case rest=>
       obtain⟨rfl,rfl⟩:=hcut;cases PD;rotate_left
       ·have hr:=HR2.out;rw[if_pos rfl] at hr;have HR3:=hid hr;clear hr;go_wp2_with fail;go_ret;exact⟨Cv.ret_bool HR3.out,Cv.next HAL.out HB6.out⟩
       ·have hr:=HR2.out;rw[if_neg (by simp)] at hr;have HR3:=hid hr;clear hr;go_wp2_with fail;go_roundw
        case rel=>exact⟨j+1+1,by go_num,by omega,HB6.out,by
         have e:prevD s.opn (j+1+1)=some y:=by unfold prevD;rw[if_neg (by omega),Nat.add_sub_cancel];exact HY.out
         rw[e];exact HR3.out⟩
        case measure=>simp[intOf];omega
  ·have:s.opn.drop q=[]:=List.drop_eq_nil_of_le (by have:=HDr.out.1;omega);rw[this,opensG] at hc;have HC:=hid hc;clear hc this;go_wp2_with fail;go_ret;exact⟨Cv.ret_bool HC.out,Cv.next HAL.out HB.out⟩
end Go.Proofs.YtmmpkfcdfcldlaaGreat
