/- Parts of the proof, side by side: FsWalk, FsFind, FsParent, StOwn, FsBelow. -/
import Derived.Test.YtkflaifopbodfaaGreatDoorM02
import Derived.Test.YtkflaifopbodfaaGreatDoorM03
import Derived.OwnWalk
import Derived.Deep.RegionHeld3
import Derived.Test.YtkflaifopbodfaaGreatDoorM01
import Derived.Laws.Rows
set_option linter.unusedVariables false
set_option linter.unusedSimpArgs false
namespace Go.Proofs.YtkflaifopbodfaaGreatDoor
open Lib (hid)
open Go.RowKit
def NmAt (w:World) (A:Option Addr) (n:Nat) (ts:List (List UInt8)):Prop:=
 ts.length=n∧(0<n→∃g off,A=some ⟨g,off,none⟩∧g<w.heap.size∧∀j,j<n→w.cell? ⟨g,off+j,none⟩=some (strV (ts.getD j [])))
theorem NmAt.below {w w':World} {A:Option Addr} {n:Nat} {ts:List (List UInt8)} (h:NmAt w A n ts) (hb:Below w.heap.size w w'):NmAt w' A n ts:=
 ⟨h.1, fun hn => by
  obtain⟨g,off,hA,hg,hc⟩:=h.2 hn;exact⟨g,off,hA,Nat.lt_of_lt_of_le hg hb.size,fun j hj=>(hb.cell (p:=⟨g,off+j,none⟩) hg).trans (hc j hj)⟩⟩
theorem NmAt.init {w:World} {A:Option Addr} {n:Nat} {ts:List (List UInt8)} (h:NmAt w A (n+1) ts):NmAt w A n ts.dropLast:=
 ⟨by rw [List.length_dropLast, h.1]; omega, fun hn => by
  obtain⟨g,off,hA,hg,hc⟩:=h.2 (by omega);refine⟨g,off,hA,hg,fun j hj=>?_⟩;rw[hc j (by omega)]
  congr 2
  have hl:=h.1;rw[List.getD_eq_getElem?_getD,List.getD_eq_getElem?_getD,List.getElem?_dropLast,if_pos (by omega)]⟩
theorem NmAt.of_names {B:Nat} {w:World} {v:Value} {out:List (List UInt8)} (h:Names B w v out):∃A c,v=.slice A out.length c∧out.length≤c∧NmAt w A out.length out:=by
 obtain⟨A,c,hv,hc,hn,hg⟩:=z1z h (by decide);refine⟨A,c,hv,hc,rfl,fun h0=>?_⟩;obtain⟨g,hA,hlt,hm,hcell⟩:=hg h0;refine⟨g,0,hA,hlt,fun j hj=>?_⟩;rw[Nat.zero_add,hcell j (by omega)];simp[hj]
def Whole (is:List Ino):Prop:=0≤atV is 1∧∀x∈is,∀e∈x.ents,0≤atV is e.num
theorem zgk:∀(es:List En) (n:ByteArray),entG es n=0∨∃e∈es,e.num=entG es n
 | [],_=>.inl rfl
 | e :: es, n => by
  unfold entG
  by_cases h:e.name=n
  ·rw[if_pos h];exact .inr ⟨e,by simp,rfl⟩
  ·rw[if_neg h]
   rcases zgk es n with h1|⟨y,hy,h1⟩
   ·exact .inl h1
   ·exact .inr ⟨y,by simp[hy],h1⟩
theorem z2c {is:List Ino} {t:Int} (h:0≤atV is t):∃(k:Nat) (x:Ino),atV is t=(k:Int)∧is[k]? =some x∧x.num=t:=by
 rcases z0k is t with⟨h1,_⟩|⟨k,x,h1,h2,h3,_⟩
 ·omega
 ·exact⟨k,x,h1,h2,h3⟩
theorem z4v {is:List Ino} (hw:Whole is) {dir:Int} {name:ByteArray} (h:entV is dir name≠0):0≤atV is (entV is dir name):=by
 unfold entV at h ⊢;cases hx:inoAt is (atV is dir) with
 | none=>rw[hx] at h;exact absurd rfl h
 | some x=>
  rw[hx] at h;simp only at h ⊢;obtain⟨j,_,hj⟩:=z4t hx
  rcases zgk x.ents name with h1|⟨e,he,h1⟩
  ·exact absurd h1 h
  ·rw[←h1];exact hw.2 x (List.mem_of_getElem? hj) e he
set_option maxRecDepth 100000 in
set_option maxHeartbeats 8000000 in
theorem zlx (v:Value) (s:St) (T:Option Addr) (m3 d3:Nat) (names:List (List UInt8)) (w:World) (h:StAt none w v s) (hw:Whole s.inos) (hnm:NmAt w T m3 names) (hm3:m3≤65536):
  Calls Tryz.prog 93 #[v,.slice T m3 d3] w fun e w'=>(∃th,e=.returned (.tuple #[.int .i64 (walkG s.inos names 1).1,.int .i64 (walkG s.inos names 1).2,th]))∧Below w.heap.size w w':=by
 obtain⟨⟨A,n,c,B,m,d,D,k,e,rfl,hI,hD,hM,h5,h6,h7⟩,hz⟩:=h;obtain⟨R,hR⟩:∃R,walkG s.inos names 1=R:=⟨_,rfl⟩;rw[hR];obtain⟨i0,hi,hz0,hz1,hz2⟩:=info_parts z5s;have hbig:=hz.big;have hn:=hI.1;have hn2:n≤1099511627776:=by omega
 obtain⟨W,hW,b0,b1,b2,hal,hlt0⟩:=z0u w A n c B m d D k e;have HS:=hid ((StAt.of_parts hI hD hM h5 h6 h7 hz).below hal);have HI:=hid (hI.below hal);have HNM:=hid (hnm.below hal);have HAL:=hid hal;have HR:=hid hR;have HW:=hid hw;clear hI hD hM hz hR hal hbig hn hnm hw
 go_enter Tryz.func93,Tryz.ntmps93
 go_wp2_with fail;clear hW
 go_loopw [7,8,9,10] (fun a th i _ wr=>∃(q:Nat) (t:Int) (X:Value) (xs:List Value),X=th∧a=.int .i64 t∧i=.int .i64 q∧q≤m3∧Below W.heap.size W wr∧wr.ownsRow W.heap.size 3 1 X q xs∧0≤atV s.inos t∧walkG s.inos (names.drop q) t=R) (fun _ _ i _ _=>m3-(intOf i).toNat)
 case atStart=>exact⟨0,1,_,[],rfl,rfl,rfl,by omega,Below.refl _ _,World.ownsRow_nil _ _ _ _,HW.out.1,HR.out⟩
 case round=>
  obtain⟨q,t,X,xs,hX,rfl,rfl,hq,hbel,hrow,hat,hc⟩:=hrel;subst hX;have z0:=(hbel.cell (p:=⟨w.heap.size,0,.none⟩) hlt0).trans b0;have z1:=(hbel.cell (p:=⟨w.heap.size,1,.none⟩) hlt0).trans b1;have z2:=(hbel.cell (p:=⟨w.heap.size,2,.none⟩) hlt0).trans b2;have HB:=hid hbel;have HROW:=hid hrow;have HSr:=hid (HS.out.below hbel);have hlr:w.heap.size<wr.heap.size:=Nat.lt_of_lt_of_le hlt0 hbel.size;clear hbel hrow
  by_cases hlt:q<m3
  ·have hql:q<names.length:=by have:=HNM.out.1;omega
   have hd:=List.drop_eq_getElem_cons hql;rw[hd,walkG] at hc;obtain⟨i,x,hati,hx,hxn⟩:=z2c hat;rw[hati,z0c,hx] at hc;simp only at hc;have hin:i<n:=by have:=(List.getElem?_eq_some_iff.1 hx).1;have:=HI.out.1;omega
   have HC:=hid hc;have HX:=hid hx;have HATI:=hid hati;have HXN:=hid hxn;clear hc hd hx hati hat hxn;go_wp2_with fail;refine(z2y _ s t _ HSr.out).mono ?_;rintro e5 w5 ⟨rfl,hb5⟩;rw[HATI.out];have y0:=(hb5.cell (p:=⟨w.heap.size,0,.none⟩) hlr).trans z0;have y1:=(hb5.cell (p:=⟨w.heap.size,1,.none⟩) hlr).trans z1;have y2:=(hb5.cell (p:=⟨w.heap.size,2,.none⟩) hlr).trans z2;have hb6:=Cv.next HB.out hb5;have HB6:=hid hb6;have HRO5:=hid (z2k HROW.out hb5);have HS5:=hid (HS.out.below hb6);have HN5:=hid (HNM.out.below hb6);obtain⟨g,off,x',E,m2,d2,rfl,hg,hx',_,_,_,c1,c2,hmd,hE,_⟩:=(HI.out.below hb6).get i hin;have ex:x=x':=by have:=HX.out;rw[hx'] at this;exact(Option.some.inj this).symm
   subst ex;have i0':(0:Int)≤(i:Int):=by omega
   have i9:(i:Int)<(n:Int):=by omega
   have hl5:w.heap.size<w5.heap.size:=Nat.lt_of_lt_of_le hlr hb5.size;clear hb5 hb6 hx' hE z0 z1 z2;cases hdir:x.dir
   ·have hr:=HC.out;rw[if_pos hdir] at hr;have HR2:=hid hr;rw[hdir] at c1;clear hr hdir;go_wp2_with fail
    go_ret3
    exact⟨⟨X,by rw[←HR2.out];rfl⟩,Cv.next HAL.out HB6.out⟩
   ·have hr:=HC.out;rw[if_neg (by rw[hdir];simp)] at hr;have HR2:=hid hr;rw[hdir] at c1;clear hr hdir;go_wp2_with (at_builtin;refine wpList_append_own _ rfl _ _ 25 rfl W.heap.size 3 i0 (.int .i64 0) 1 8 Tryz.underlying25 hi hz0 hz1 hz2 rfl (by decide) _ q _ rfl (HRO5.out.alloc _) ⟨w5.heap.size,0,.none⟩ 1 1 [.int .i64 t] rfl rfl (z9o w5 _ _) ?ca2 ?ca3 ?ca4 ?ca5 ?_)
    case ca2=>first|rfl|(intro u hu;simp at hu;subst hu;rfl)
    case ca3=>unfold maxLen;omega
    case ca4=>omega
    case ca5=>have:=HB6.out.size;first|omega|(simp;omega)
    intro v' w' hown' hgrow _;have hge:∀k,X.ownBlock=some k→W.heap.size≤k:=fun k hk=>(HRO5.out.lt k hk).1
    have hbel':Below W.heap.size W w':=(HB6.out.alloc HB6.out.size _).grown hgrow (by have:=HB6.out.size;simp;omega) hge;have HO':=hid hown';have HB':=hid hbel';have y0:=(hbel'.cell (p:=⟨w.heap.size,0,.none⟩) hlt0).trans b0;have y1:=(hbel'.cell (p:=⟨w.heap.size,1,.none⟩) hlt0).trans b1;have y2:=(hbel'.cell (p:=⟨w.heap.size,2,.none⟩) hlt0).trans b2;have HS':=hid (HS.out.below hbel');have HN':=hid (HNM.out.below hbel');clear hown' hgrow hge hbel' c1 c2;obtain⟨g3,off3,rfl,hg3,hcn⟩:=HN'.out.2 (by omega);have e0:=hcn q hlt;have hgd:names.getD q []=names[q]:=by rw[List.getD_eq_getElem?_getD,List.getElem?_eq_getElem hql];rfl
    rw[hgd] at e0;unfold strV at e0;obtain⟨nm,hnm⟩:∃nm,names[q]=nm:=⟨_,rfl⟩;rw[hnm] at e0 HR2;have k0:(0:Int)≤(q:Int):=by omega
    have k1:(q:Int)<(m3:Int):=by omega
    have hX2:∀(Y:Ext w') (p:Addr),(w'.cell? p).isSome=true→Y.w.cell? p=w'.cell? p:=fun Y p h=>Y.cell p h
    clear hcn hgd hnm;go_wp2_with fail;refine wre ?_
    repeat (go_big_quiet_step (first|(go_at_call 56;rename_i Y;exact Calls.ext_of (zdi _ s _ _ _ (HS'.out.below Y.bel)))))
    refine wpQuiet_nil ?_;rintro w7 ⟨Y,rfl⟩;generalize hZe:Y.w=Z;have hZ:Below w'.heap.size w' Z:=by rw[←hZe];exact Y.bel
    have HZ:=hid (Cv.next HB'.out hZ);have HRZ:=hid (z2k HO'.out hZ);clear hZe Y hX2 hZ y0 y1 y2 e0;obtain⟨N,hN⟩:∃N,entV s.inos t ⟨nm.toArray⟩=N:=⟨_,rfl⟩;have hr:=HR2.out;rw[show entV s.inos t (txt nm)=N from hN] at hr;have hwh:N≠0→0≤atV s.inos N:=fun h0=>by rw[←hN] at h0 ⊢;exact z4v HW.out h0
    have HR3:=hid hr;have HWH:=hid hwh;rw[hN];clear hr hN hwh
    by_cases h0:N=0
    ·have hr:=HR3.out;rw[if_pos h0] at hr;have HR4:=hid hr;subst h0;clear hr;go_wp2_with fail
     go_ret3
     exact⟨⟨v',by rw[←HR4.out];rfl⟩,Cv.next HAL.out HZ.out⟩
    ·have hr:=HR3.out;rw[if_neg h0] at hr;have HR4:=hid hr;have q0:(N==0)=false:=by rw[beq_eq_false_iff_ne];exact h0
     have HWN:=hid (HWH.out h0);clear hr;go_wp2_with fail;go_roundw
     case rel=>exact⟨q+1,N,v',_,rfl,rfl,by go_num,by omega,HZ.out,HRZ.out,HWN.out,HR4.out⟩
     case measure=>simp[intOf];omega
  ·have:names.drop q=[]:=List.drop_eq_nil_of_le (by have:=HNM.out.1;omega);rw[this,walkG] at hc;have HC:=hid hc;clear hc this;go_wp2_with fail
   go_ret3
   exact⟨⟨X,by rw[←HC.out];rfl⟩,Cv.next HAL.out HB.out⟩
theorem zi4 (n:Nat) (hn:n≤65536) (w:World):Calls Tryz.prog 92 #[.int .i64 (n:Int)] w fun e w'=>e=.returned (.int .i64 (codeP n))∧w=w':=by
 by_cases h0:n=0
 ·subst h0
  go_enter Tryz.func92,Tryz.ntmps92
  go_wp2
  go_ret;exact⟨rfl,rfl⟩
 by_cases h1:n=1101
 ·subst h1
  go_enter Tryz.func92,Tryz.ntmps92
  go_wp2
  go_ret;exact⟨rfl,rfl⟩
 by_cases h2:n=1102
 ·subst h2
  go_enter Tryz.func92,Tryz.ntmps92
  go_wp2
  go_ret;exact⟨rfl,rfl⟩
 ·have hc:codeP n=9:=by unfold codeP;rw[if_neg h0,if_neg (by omega)]
  rw[hc];have q0:((n:Int)==0)=false:=by rw[beq_eq_false_iff_ne];omega
  have q1:((n:Int)==1101)=false:=by rw[beq_eq_false_iff_ne];omega
  have q2:((n:Int)==1102)=false:=by rw[beq_eq_false_iff_ne];omega
  go_enter Tryz.func92,Tryz.ntmps92
  go_wp2
  go_ret;exact⟨rfl,rfl⟩
theorem z4w {is:List Ino} (hw:Whole is):∀(ns:List (List UInt8)) (t:Int),0≤atV is t→(walkG is ns t).2=0→0≤atV is (walkG is ns t).1
 | [],t,ht,_=>ht
 | n :: ns, t, ht, hc => by
  obtain⟨k,x,hk,hx,_⟩:=z2c ht;unfold walkG at hc ⊢;rw[hk,z0c,hx] at hc ⊢;simp only at hc ⊢
  by_cases hd:x.dir=false
  ·rw[if_pos hd] at hc;cases hc
  ·rw[if_neg hd] at hc ⊢
   by_cases he:entV is t (txt n)=0
   ·rw[if_pos he] at hc;cases hc
   ·rw[if_neg he] at hc ⊢;exact z4w hw ns _ (z4v hw he) hc
set_option maxRecDepth 100000 in
set_option maxHeartbeats 8000000 in
theorem zi5 (v:Value) (s:St) (path:ByteArray) (w:World) (h:StAt none w v s) (hw:Whole s.inos) (hp:path.size≤140737488355328):
  Calls Tryz.prog 55 #[v,.string path] w fun e w'=>e=.returned (.tuple #[.int .i64 (parentV s.inos path).1,.string (parentV s.inos path).2.1,.int .i64 (parentV s.inos path).2.2])∧Below w.heap.size w w':=by
 obtain⟨⟨A,n,c,B,m,d,D,k,e,rfl,hI,hD,hM,h5,h6,h7⟩,hz⟩:=h;obtain⟨R,hR⟩:∃R,parentV s.inos path=R:=⟨_,rfl⟩;rw[hR];unfold parentV at hR;have he:=zdk path.data.toList;have hl:=z6p path.data.toList;have hbig:=hz.big;have hn:=hI.1;have hn2:n≤1099511627776:=by omega
 obtain⟨W,hW,b0,b1,b2,hal,hlt0⟩:=z0u w A n c B m d D k e;have HS:=hid ((StAt.of_parts hI hD hM h5 h6 h7 hz).below hal);have HI:=hid (hI.below hal);have HAL:=hid hal;have HR:=hid hR;have HW:=hid hw;clear hI hD hM hz hR hal hw hbig hn
 go_enter Tryz.func55,Tryz.ntmps55
 go_wp2_with fail;refine(zdn path _ hp).mono ?_;rintro e1 w1 ⟨x,out,pn,rfl,hpl,hx,hv,hb⟩;have hr:=HR.out;rw[hpl] at hr he hl;simp only at hr he hl;have HR2:=hid hr;have y0:=(hb.cell (p:=⟨w.heap.size,0,.none⟩) hlt0).trans b0;have y1:=(hb.cell (p:=⟨w.heap.size,1,.none⟩) hlt0).trans b1;have y2:=(hb.cell (p:=⟨w.heap.size,2,.none⟩) hlt0).trans b2;have HB:=hid hb;have HS1:=hid (HS.out.below hb);have HI1:=hid (HI.out.below hb);have hlt1:w.heap.size<w1.heap.size:=Nat.lt_of_lt_of_le hlt0 hb.size;obtain⟨T,ct,rfl,hct,hnm⟩:=NmAt.of_names hx;have HNM:=hid hnm;clear hW hr HR hpl hx hv hb hnm b0 b1 b2
 by_cases h0:pn=0
 rotate_left
 ·have hr:=HR2.out;rw[if_pos h0] at hr;have HR3:=hid hr;have q0:((pn:Int) != 0)=true:=by rw[bne_iff_ne];omega
  clear hr;go_wp2_with fail;refine(zi4 pn (by omega) _).mono ?_;rintro e2 w2 ⟨rfl,rfl⟩;go_wp2_with fail
  go_ret3
  exact⟨by rw[←HR3.out];rfl,Cv.next HAL.out HB.out⟩
 subst h0;have hr:=HR2.out;rw[if_neg (by simp)] at hr;have HR3:=hid hr;clear hr HR2
 by_cases hnil:out=[]
 ·subst hnil;have hr:=HR3.out;rw[if_pos rfl] at hr;have HR4:=hid hr;clear hr;go_wp2_with fail
  go_ret3
  exact⟨by rw[←HR4.out];rfl,Cv.next HAL.out HB.out⟩
 obtain⟨j,hj⟩:∃j,out.length=j+1:=by
  cases hO:out with
  | nil=>exact absurd hO hnil
  | cons a l=>exact⟨l.length,by simp⟩
 have hr:=HR3.out;rw[if_neg hnil] at hr
 have hlast:out.getLastD []=out.getD j []:=by
  rw[List.getLastD_eq_getLast?,List.getLast?_eq_getElem?,hj,List.getD_eq_getElem?_getD]
  rfl
 obtain⟨G,hG⟩:∃G,walkG s.inos out.dropLast 1=G:=⟨_,rfl⟩;have hsm:G.2=0→0≤atV s.inos G.1:=fun h=>by rw[←hG] at h ⊢;exact z4w HW.out _ _ HW.out.1 h
 have HSM:=hid hsm;rw[hG,hlast] at hr;have HR5:=hid hr;have HG:=hid hG;have hnj:=HNM.out;rw[hj] at hnj hct hl ⊢;have HNJ:=hid hnj;have HN2:=hid hnj.init;have HJ:=hid hj;have q1:((j:Int)+1==0)=false:=by rw[beq_eq_false_iff_ne];omega
 have lw:IntKind.i64.wrap ((j:Int)+1-1)=(j:Int):=by rw[IntKind.wrap_i64];omega
 have lw3:IntKind.i64.wrap (j:Int)=(j:Int):=by rw[IntKind.wrap_i64];omega
 have lw2:IntKind.i64.wrap (((j+1:Nat):Int)-1)=(j:Int):=by rw[IntKind.wrap_i64];omega
 have j0:(0:Int)≤(j:Int):=by omega
 have j1:(j:Int)≤(ct:Int):=by omega
 have j3:j≤ct:=by omega
 have j2:(j:Int)<(j:Int)+1:=by omega
 clear hr hlast hnj hj hnil HNM HR3 hG hsm;obtain⟨g3,off3,rfl,hg3,hcn⟩:=HNJ.out.2 (by omega);have hcj:=hcn j (by omega);have HCJ:=hid hcj;clear hcn hcj;go_wp2_with fail
 go_region_held3 (fun w'=>w'.cell? ⟨w.heap.size,0,none⟩=some (.slice A n c)∧w'.cell? ⟨w.heap.size,1,none⟩=some (.slice B m d)∧w'.cell? ⟨w.heap.size,2,none⟩=some (.slice D k e))
  (first|go_keep|(refine⟨?_,?_,?_⟩<;>go_keep)|(refine⟨(HB2.out.cell (p:=⟨w.heap.size,0,.none⟩) hlt1).trans y0,(HB2.out.cell (p:=⟨w.heap.size,1,.none⟩) hlt1).trans y1,(HB2.out.cell (p:=⟨w.heap.size,2,.none⟩) hlt1).trans y2⟩))
  ((go_at_call 93;refine(zlx _ s (some ⟨g3,off3,none⟩) j ct out.dropLast _ (HS1.out.drewN 1) HW.out (by exact HN2.out) (by omega)).mono ?_;rintro e2 w2 ⟨⟨th,rfl⟩,hb2⟩;have HB2:=hid (show Below w1.heap.size w1 w2 from Cv.next (Cv.drewN_below (Below.refl _ _) 1) hb2);clear hb2))
 rw[HG.out];have hcj:=HCJ.out;unfold strV at hcj;obtain⟨nm,hnm⟩:∃nm,out.getD j []=nm:=⟨_,rfl⟩;have hr:=HR5.out;rw[hnm] at hcj hr;have HR6:=hid hr;have z0:=(HB2.out.cell (p:=⟨w.heap.size,0,.none⟩) hlt1).trans y0;have z1:=(HB2.out.cell (p:=⟨w.heap.size,1,.none⟩) hlt1).trans y1;have z2:=(HB2.out.cell (p:=⟨w.heap.size,2,.none⟩) hlt1).trans y2;have e0:=(HB2.out.cell (p:=⟨g3,_,.none⟩) hg3).trans hcj;have HS2:=hid (HS1.out.below HB2.out);have HI2:=hid (HI1.out.below HB2.out);obtain⟨N,C⟩:=G;dsimp only;clear y0 y1 y2 hcj hnm hr HR5 HCJ HG
 by_cases hc0:C=0
 rotate_left
 ·have hr:=HR6.out;rw[if_pos hc0] at hr;have HR7:=hid hr;have q7:(C != 0)=true:=by rw[bne_iff_ne];exact hc0
  clear hr;go_wp2_with fail
  go_ret3
  exact⟨by rw[←HR7.out];rfl,Cv.next HAL.out (Cv.next HB.out HB2.out)⟩
 have hr:=HR6.out;rw[if_neg (by simpa using hc0)] at hr;have HR7:=hid hr;have hat:=HSM.out hc0;obtain⟨i,x,hati,hx,_⟩:=z2c hat;subst hc0;have hin:i<n:=by have:=(List.getElem?_eq_some_iff.1 hx).1;have:=HI2.out.1;omega
 obtain⟨g,off,x',E,m2,d2,rfl,hg,hx',_,_,_,c1,_,_,_,_⟩:=HI2.out.get i hin;have ex:x=x':=by rw[hx] at hx';exact Option.some.inj hx'
 subst ex;have i0:(0:Int)≤(i:Int):=by omega
 have i9:(i:Int)<(n:Int):=by omega
 have hda:dirAt s.inos N=x.dir:=by
  unfold dirAt;simp only at hati;rw[hati,z0c,hx]
 rw[hda] at hr;have HR8:=hid hr;simp only at hati;have HAT:=hid hati;have hX:=@Ext.cell w2;clear hr hx hx' hda hat hati HR7 HR6;go_wp2_with fail;refine wre ?_
 repeat (go_big_quiet_step (first|(go_at_call 60;rename_i X;exact Calls.ext_of (by have:=z2y _ s N _ (HS2.out.below X.bel);rw[HAT.out] at this;exact this))))
 refine wpQuiet_nil ?_;rintro w7 ⟨X,rfl⟩;have e1:=(X.bel.cell (p:=⟨g3,_,.none⟩) (Nat.lt_of_lt_of_le hg3 HB2.out.size)).trans e0;have HX:=hid X.bel;cases hdir:x.dir
 ·have hr:=HR8.out;rw[if_pos hdir] at hr;have HR9:=hid hr;clear hr hX;go_wp2_with fail
  go_ret3
  exact⟨by rw[←HR9.out];rfl,Cv.next HAL.out (Cv.next HB.out (Cv.next HB2.out HX.out))⟩
 ·have hr:=HR8.out;rw[if_neg (by rw[hdir];simp)] at hr;have HR9:=hid hr;clear hr hX;go_wp2_with fail;go_quiet (fail);go_wp2_with fail
  go_ret3
  exact⟨by rw[←HR9.out];rfl,Cv.next HAL.out (Cv.next HB.out (Cv.next HB2.out (Cv.drewN_below HX.out _)))⟩
structure KeepT (t:TypeId) (w w':World):Prop where
 size:w.heap.size≤w'.heap.size
 same:∀(b:Nat) (cur:Array Value),w.heap[b]? =some (.cells cur t (0,0))→w'.heap[b]? =w.heap[b]?
theorem KeepT.below {t:TypeId} {w w':World} (h:Below w.heap.size w w'):KeepT t w w':=⟨h.size,fun b cur hb=>h.block b (Array.getElem?_eq_some_iff.1 hb).1⟩
theorem KeepT.set {w:World} {g k:Nat} {u:Value} {cur:Array Value} {t t':TypeId} (h:w.heap[g]? =some (.cells cur t' (0,0))) (hne:t'≠t):KeepT t w (w.setCell ⟨g,k,none⟩ u):=
 ⟨by simp [World.setCell], fun b c hb => Below.heap_setCell w ⟨g, k, none⟩ u b (fun e => by
  have e2:b=g:=e;subst e2;rw[h] at hb;injection hb with hb
  injection hb with _ hb _
  exact hne hb)⟩
theorem KeepT.mine {t:TypeId} {w w':World} {B g:Nat} (h:KeepT t w w') (hm:Mine (some B) t w g):Mine (some B) t w' g∧w'.heap[g]? =w.heap[g]?:=by
 obtain⟨h1,cur,h2⟩:=hm B rfl;refine⟨fun C hC=>?_,h.same g cur h2⟩;cases hC;exact⟨h1,cur,(h.same g cur h2).trans h2⟩
theorem z1g {w w':World} {g:Nat} (h:w'.heap[g]? =w.heap[g]?) (j:Nat):w'.cell? ⟨g,j,none⟩=w.cell? ⟨g,j,none⟩:=by
 unfold World.cell?;simp only[h]
theorem EntsAt.keep {B:Nat} {w w':World} {A:Option Addr} {n:Nat} {es:List En} (h:EntsAt (some B) w A n es) (hk:KeepT 120 w w'):EntsAt (some B) w' A n es:=
 ⟨h.1, fun hn => by
  obtain⟨g,off,hA,hg,hm,hc⟩:=h.2 hn;obtain⟨m1,m2⟩:=hk.mine hm;exact⟨g,off,hA,Nat.lt_of_lt_of_le hg hk.size,m1,fun j e he=>⟨(z1g m2 _).trans (hc j e he).1,(z1g m2 _).trans (hc j e he).2⟩⟩⟩
theorem DescsAt.keep {B:Nat} {w w':World} {A:Option Addr} {n:Nat} {ds:List Ds} (h:DescsAt (some B) w A n ds) (hk:KeepT 89 w w'):DescsAt (some B) w' A n ds:=
 ⟨h.1, fun hn => by
  obtain⟨g,off,hA,hg,hm,hc⟩:=h.2 hn;obtain⟨m1,m2⟩:=hk.mine hm;exact⟨g,off,hA,Nat.lt_of_lt_of_le hg hk.size,m1,fun j e he=>⟨(z1g m2 _).trans (hc j e he).1,(z1g m2 _).trans (hc j e he).2.1,(z1g m2 _).trans (hc j e he).2.2⟩⟩⟩
theorem IntsAt.keep {B:Nat} {w w':World} {A:Option Addr} {n:Nat} {xs:List Int} (h:IntsAt (some B) w A n xs) (hk:KeepT 3 w w'):IntsAt (some B) w' A n xs:=
 ⟨h.1, fun hn => by
  obtain⟨g,off,hA,hg,hm,hc⟩:=h.2 hn;obtain⟨m1,m2⟩:=hk.mine hm;exact⟨g,off,hA,Nat.lt_of_lt_of_le hg hk.size,m1,fun j x hx=>(z1g m2 _).trans (hc j x hx)⟩⟩
theorem InosAt.keep {B:Nat} {w w':World} {A:Option Addr} {n:Nat} {is:List Ino} (h:InosAt (some B) w A n is) (hk:KeepT 53 w w') (he:KeepT 120 w w'):InosAt (some B) w' A n is:=
 ⟨h.1, fun hn => by
  obtain⟨g,off,hA,hg,hm,hc⟩:=h.2 hn;obtain⟨m1,m2⟩:=hk.mine hm;refine⟨g,off,hA,Nat.lt_of_lt_of_le hg hk.size,m1,fun j x hx=>?_⟩;obtain⟨h1,h2,⟨E,m,c,h3,h4,h5⟩,h6⟩:=hc j x hx;exact⟨(z1g m2 _).trans h1,(z1g m2 _).trans h2,⟨E,m,c,(z1g m2 _).trans h3,h4,h5.keep he⟩,(z1g m2 _).trans h6⟩⟩
structure Own (B:Nat) (w:World) (p:Nat) (s:St):Prop where
 at_:∃A n c E m d D k e,B≤p∧w.heap[p]? =some (.cells #[.slice A n c,.slice E m d,.slice D k e] 27 (0,0))∧InosAt (some B) w A n s.inos∧DescsAt (some B) w E m s.opn∧IntsAt (some B) w D k s.made∧SlOk A n c∧SlOk E m d∧SlOk D k e
 sized:Sized s
theorem Own.below {B:Nat} {w w':World} {p:Nat} {s:St} (h:Own B w p s) (hb:Below w.heap.size w w'):Own B w' p s:=by
 obtain⟨⟨A,n,c,E,m,d,D,k,e,h0,h1,h2,h3,h4,h5,h6,h7⟩,hz⟩:=h;exact⟨⟨A,n,c,E,m,d,D,k,e,h0,(hb.block p (Array.getElem?_eq_some_iff.1 h1).1).trans h1,h2.below hb,h3.below hb,h4.below hb,h5,h6,h7⟩,hz⟩
theorem Own.drewN {B:Nat} {w:World} {p:Nat} {s:St} (h:Own B w p s) (q:Nat):Own B (w.drewN q) p s:=⟨h.at_,h.sized⟩
theorem Own.val {B:Nat} {w:World} {p:Nat} {s:St} (h:Own B w p s):∃A n c E m d D k e,B≤p∧p<w.heap.size∧w.cell? ⟨p,0,none⟩=some (.slice A n c)∧w.cell? ⟨p,1,none⟩=some (.slice E m d)∧w.cell? ⟨p,2,none⟩=some (.slice D k e)∧(∀j,w.frozen? ⟨p,j,none⟩=false)∧
  StAt (some B) w (.agg #[.slice A n c,.slice E m d,.slice D k e]) s∧InosAt (some B) w A n s.inos∧DescsAt (some B) w E m s.opn∧IntsAt (some B) w D k s.made:=by
 obtain⟨⟨A,n,c,E,m,d,D,k,e,h0,h1,h2,h3,h4,h5,h6,h7⟩,hz⟩:=h;refine⟨A,n,c,E,m,d,D,k,e,h0,(Array.getElem?_eq_some_iff.1 h1).1,?_,?_,?_,fun j=>frozen_of_row w p j _ _ h1,⟨⟨A,n,c,E,m,d,D,k,e,rfl,h2,h3,h4,h5,h6,h7⟩,hz⟩,h2,h3,h4⟩<;>(rw[cell_of_row w p _ _ _ (0,0) h1];rfl)
theorem Own.setInos {B:Nat} {w:World} {p:Nat} {s:St} (h:Own B w p s) {A:Option Addr} {n c:Nat} {is:List Ino} (hi:InosAt (some B) w A n is) (hc:SlOk A n c) (hz:Sized { s with inos:=is }):Own B (w.setCell ⟨p,0,none⟩ (.slice A n c)) p { s with inos:=is }:=by
 obtain⟨⟨A',n',c',E,m,d,D,k,e,h0,h1,h2,h3,h4,h5,h6,h7⟩,_⟩:=h;refine⟨⟨A,n,c,E,m,d,D,k,e,h0,?_,hi.keep (KeepT.set h1 (by decide)) (KeepT.set h1 (by decide)),h3.keep (KeepT.set h1 (by decide)),h4.keep (KeepT.set h1 (by decide)),hc,h6,h7⟩,hz⟩;rw[heap_setCell_same w p 0 _ _ _ h1]
 rfl
theorem InosAt.set {B:Nat} {w:World} {g off n:Nat} {is:List Ino} (h:InosAt (some B) w (some ⟨g,off,none⟩) n is) (i a:Nat) (x y:Ino) (u:Value) (hx:is[i]? =some x) (ha:a=2∨a=3) (hnum:y.num=x.num) (hdir:y.dir=x.dir)
  (h2:a=2→y.data=x.data∧∃A m c,u=.slice A m c∧SlOk A m c∧EntsAt (some B) w A m y.ents) (h3:a=3→u=.string y.data∧y.ents=x.ents):
  InosAt (some B) (w.setCell ⟨g,off+i*4+a,none⟩ u) (some ⟨g,off,none⟩) n (is.set i y):=by
 refine⟨by rw[List.length_set];exact h.1,fun hn=>?_⟩;obtain⟨g',off',hA,hg,hm,hc⟩:=h.2 hn;injection hA with hA
 injection hA with hA1 hA2
 subst hA1 hA2;obtain⟨hB,cur,hcur⟩:=hm B rfl;have hkE:KeepT 120 w (w.setCell ⟨g,off+i*4+a,none⟩ u):=KeepT.set hcur (by decide)
 have other:∀k,k≠off+i*4+a→(w.setCell ⟨g,off+i*4+a,none⟩ u).cell? ⟨g,k,none⟩=w.cell? ⟨g,k,none⟩:=fun k hk=>by
  rw[World.cell?_setCell_other _ _ _ _ (fun e=>by injection e with _ e;exact hk e.symm)]
 have hil:i<is.length:=(List.getElem?_eq_some_iff.1 hx).1
 have same:(w.setCell ⟨g,off+i*4+a,none⟩ u).cell? ⟨g,off+i*4+a,none⟩=some u:=by
  obtain⟨_,_,⟨E,m,c,q3,_⟩,q4⟩:=hc i x hx
  rcases ha with rfl|rfl
  ·exact World.cell?_setCell_same' _ _ _ (by rw[q3];rfl)
  ·exact World.cell?_setCell_same' _ _ _ (by rw[q4];rfl)
 refine⟨g,off,rfl,by simpa [World.setCell] using hg,fun C hC=>?_,fun j z hz=>?_⟩
 ·cases hC;exact⟨hB,_,heap_setCell_same w g _ _ _ _ hcur⟩
 ·rw[List.getElem?_set] at hz
  by_cases hj:i=j
  ·subst hj;rw[if_pos rfl,if_pos hil] at hz;injection hz with hz
   subst hz;obtain⟨q1,q2,⟨E,m,c,q3,q5,q6⟩,q4⟩:=hc i x hx
   rcases ha with rfl|rfl
   ·obtain⟨hd,A',m',c',hu,hmc,hE⟩:=h2 rfl;refine⟨?_,?_,⟨A',m',c',?_,hmc,hE.keep hkE⟩,?_⟩
    ·rw[other _ (by omega),hnum];exact q1
    ·rw[other _ (by omega),hdir];exact q2
    ·rw[same,hu]
    ·rw[other _ (by omega),hd];exact q4
   ·obtain⟨hu,hE⟩:=h3 rfl;refine⟨?_,?_,⟨E,m,c,?_,q5,?_⟩,?_⟩
    ·rw[other _ (by omega),hnum];exact q1
    ·rw[other _ (by omega),hdir];exact q2
    ·rw[other _ (by omega)];exact q3
    ·rw[hE];exact q6.keep hkE
    ·rw[same,hu]
  ·rw[if_neg hj] at hz;obtain⟨q1,q2,⟨E,m,c,q3,q5,q6⟩,q4⟩:=hc j z hz;have ha4:a<4:=by rcases ha with rfl|rfl<;>decide
   refine⟨?_,?_,⟨E,m,c,?_,q5,q6.keep hkE⟩,?_⟩
   ·rw[other _ (by omega)];exact q1
   ·rw[other _ (by omega)];exact q2
   ·rw[other _ (by omega)];exact q3
   ·rw[other _ (by omega)];exact q4
theorem IntsAt.set {B:Nat} {w:World} {g off n:Nat} {xs:List Int} (h:IntsAt (some B) w (some ⟨g,off,none⟩) n xs) (i:Nat) (y:Int) (hi:i<n):IntsAt (some B) (w.setCell ⟨g,off+i,none⟩ (.int .i64 y)) (some ⟨g,off,none⟩) n (xs.set i y):=by
 refine⟨by rw[List.length_set];exact h.1,fun hn=>?_⟩;obtain⟨g',off',hA,hg,hm,hc⟩:=h.2 hn;injection hA with hA
 injection hA with hA1 hA2
 subst hA1 hA2;obtain⟨hB,cur,hcur⟩:=hm B rfl;have hil:i<xs.length:=by rw[h.1];exact hi
 refine⟨g,off,rfl,by simpa [World.setCell] using hg,fun C hC=>?_,fun j z hz=>?_⟩
 ·cases hC;exact⟨hB,_,heap_setCell_same w g _ _ _ _ hcur⟩
 ·rw[List.getElem?_set] at hz
  by_cases hj:i=j
  ·subst hj;rw[if_pos rfl,if_pos hil] at hz;injection hz with hz
   subst hz;exact World.cell?_setCell_same' _ _ _ (by rw[hc i _ (List.getElem?_eq_getElem hil)];rfl)
  ·rw[if_neg hj] at hz;rw[World.cell?_setCell_other _ _ _ _ (fun e=>by injection e with _ e;omega)];exact hc j z hz
theorem Own.setIno {B:Nat} {w:World} {p:Nat} {s:St} (h:Own B w p s) (i a:Nat) (x y:Ino) (u:Value) (hx:s.inos[i]? =some x) (ha:a=2∨a=3) (hnum:y.num=x.num) (hdir:y.dir=x.dir)
  (h2:a=2→y.data=x.data∧∃A m c,u=.slice A m c∧SlOk A m c∧EntsAt (some B) w A m y.ents) (h3:a=3→u=.string y.data∧y.ents=x.ents) (hz:Sized { s with inos:=s.inos.set i y })
  (g off n c:Nat) (hc:w.cell? ⟨p,0,none⟩=some (.slice (some ⟨g,off,none⟩) n c)):Own B (w.setCell ⟨g,off+i*4+a,none⟩ u) p { s with inos:=s.inos.set i y }:=by
 obtain⟨⟨A,n',c',E,m,d,D,k,e,q0,q1,q2,q3,q4,q5,q6,q7⟩,_⟩:=h;rw[cell_of_row w p _ _ _ (0,0) q1] at hc;have hc2:(Value.slice A n' c')=.slice (some ⟨g,off,none⟩) n c:=by simpa using hc
 injection hc2 with e1 e2 e3
 subst e1 e2 e3;have hil:i<s.inos.length:=(List.getElem?_eq_some_iff.1 hx).1;obtain⟨g',off',hA,hg,hm,hcc⟩:=q2.2 (by have:=q2.1;omega);injection hA with hA
 injection hA with hA1 hA2
 subst hA1 hA2;obtain⟨hB,cur,hcur⟩:=hm B rfl;refine⟨⟨some ⟨g,off,none⟩,n',c',E,m,d,D,k,e,q0,?_,q2.set i a x y u hx ha hnum hdir h2 h3,q3.keep (KeepT.set hcur (by decide)),q4.keep (KeepT.set hcur (by decide)),q5,q6,q7⟩,hz⟩;have hs:KeepT 27 w (w.setCell ⟨g,off+i*4+a,none⟩ u):=KeepT.set hcur (by decide);rw[hs.same p _ q1];exact q1
theorem Own.setMade {B:Nat} {w:World} {p:Nat} {s:St} (h:Own B w p s) (i:Nat) (y:Int) (hi:i<s.made.length) (hz:Sized { s with made:=s.made.set i y })
  (g off n c:Nat) (hc:w.cell? ⟨p,2,none⟩=some (.slice (some ⟨g,off,none⟩) n c)):Own B (w.setCell ⟨g,off+i,none⟩ (.int .i64 y)) p { s with made:=s.made.set i y }:=by
 obtain⟨⟨A,n',c',E,m,d,D,k,e,q0,q1,q2,q3,q4,q5,q6,q7⟩,_⟩:=h;rw[cell_of_row w p _ _ _ (0,0) q1] at hc;have hc2:(Value.slice D k e)=.slice (some ⟨g,off,none⟩) n c:=by simpa using hc
 injection hc2 with e1 e2 e3
 subst e1 e2 e3;have hk:s.made.length=k:=q4.1;obtain⟨g',off',hA,hg,hm,hcc⟩:=q4.2 (by omega);injection hA with hA
 injection hA with hA1 hA2
 subst hA1 hA2;obtain⟨hB,cur,hcur⟩:=hm B rfl;refine⟨⟨A,n',c',E,m,d,some ⟨g,off,none⟩,k,e,q0,?_,q2.keep (KeepT.set hcur (by decide)) (KeepT.set hcur (by decide)),q3.keep (KeepT.set hcur (by decide)),q4.set i y (by omega),q5,q6,q7⟩,hz⟩;have hs:KeepT 27 w (w.setCell ⟨g,off+i,none⟩ (.int .i64 y)):=KeepT.set hcur (by decide);rw[hs.same p _ q1];exact q1
theorem InosAt.free {B:Nat} {w:World} {g off n:Nat} {is:List Ino} (h:InosAt (some B) w (some ⟨g,off,none⟩) n is) (hn:0<n):B≤g∧∀j,w.frozen? ⟨g,j,none⟩=false:=by
 obtain⟨g',off',hA,hg,hm,hc⟩:=h.2 hn;injection hA with hA
 injection hA with hA1 hA2
 subst hA1 hA2;obtain⟨hB,cur,hcur⟩:=hm B rfl;exact⟨hB,fun j=>frozen_of_row w g j _ _ hcur⟩
theorem IntsAt.free {B:Nat} {w:World} {g off n:Nat} {xs:List Int} (h:IntsAt (some B) w (some ⟨g,off,none⟩) n xs) (hn:0<n):B≤g∧∀j,w.frozen? ⟨g,j,none⟩=false:=by
 obtain⟨g',off',hA,hg,hm,hc⟩:=h.2 hn;injection hA with hA
 injection hA with hA1 hA2
 subst hA1 hA2;obtain⟨hB,cur,hcur⟩:=hm B rfl;exact⟨hB,fun j=>frozen_of_row w g j _ _ hcur⟩
theorem EntsAt.mono {B B':Nat} {w:World} {A:Option Addr} {n:Nat} {es:List En} (h:EntsAt (some B) w A n es) (hb:B'≤B):EntsAt (some B') w A n es:=
 ⟨h.1, fun hn => by
  obtain⟨g,off,hA,hg,hm,hc⟩:=h.2 hn;exact⟨g,off,hA,hg,hm.mono hb,hc⟩⟩
theorem DescsAt.mono {B B':Nat} {w:World} {A:Option Addr} {n:Nat} {ds:List Ds} (h:DescsAt (some B) w A n ds) (hb:B'≤B):DescsAt (some B') w A n ds:=
 ⟨h.1, fun hn => by
  obtain⟨g,off,hA,hg,hm,hc⟩:=h.2 hn;exact⟨g,off,hA,hg,hm.mono hb,hc⟩⟩
theorem IntsAt.mono {B B':Nat} {w:World} {A:Option Addr} {n:Nat} {xs:List Int} (h:IntsAt (some B) w A n xs) (hb:B'≤B):IntsAt (some B') w A n xs:=
 ⟨h.1, fun hn => by
  obtain⟨g,off,hA,hg,hm,hc⟩:=h.2 hn;exact⟨g,off,hA,hg,hm.mono hb,hc⟩⟩
theorem InosAt.mono {B B':Nat} {w:World} {A:Option Addr} {n:Nat} {is:List Ino} (h:InosAt (some B) w A n is) (hb:B'≤B):InosAt (some B') w A n is:=
 ⟨h.1, fun hn => by
  obtain⟨g,off,hA,hg,hm,hc⟩:=h.2 hn;refine⟨g,off,hA,hg,hm.mono hb,fun j x hx=>?_⟩;obtain⟨h1,h2,⟨E,m,c,h3,h4,h5⟩,h6⟩:=hc j x hx;exact⟨h1,h2,⟨E,m,c,h3,h4,h5.mono hb⟩,h6⟩⟩
theorem z1k {α:Type} (f:α→α) (l:List α) (i:Nat) (x:α) (h:l[i]? =some x):l.modify i f=l.set i (f x):=by
 apply List.ext_getElem?;intro j;rw[List.getElem?_modify,List.getElem?_set]
 by_cases e:i=j
 ·subst e;have hl:i<l.length:=(List.getElem?_eq_some_iff.1 h).1;simp[hl,(List.getElem?_eq_some_iff.1 h).2]
 ·cases hj:l[j]?<;>simp[e,hj]
theorem InosAt.tag {B:Nat} {w:World} {g off n:Nat} {is:List Ino} (h:InosAt (some B) w (some ⟨g,off,none⟩) n is) (hn:0<n):∃cur,w.heap[g]? =some (.cells cur 53 (0,0)):=by
 obtain⟨g',off',hA,hg,hm,hc⟩:=h.2 hn;injection hA with hA
 injection hA with hA1 hA2
 subst hA1 hA2;exact(hm B rfl).2
theorem IntsAt.tag {B:Nat} {w:World} {g off n:Nat} {xs:List Int} (h:IntsAt (some B) w (some ⟨g,off,none⟩) n xs) (hn:0<n):∃cur,w.heap[g]? =some (.cells cur 3 (0,0)):=by
 obtain⟨g',off',hA,hg,hm,hc⟩:=h.2 hn;injection hA with hA
 injection hA with hA1 hA2
 subst hA1 hA2;exact(hm B rfl).2
structure Aside (p:Nat) (w w':World):Prop where
 size:w.heap.size≤w'.heap.size
 same:∀(b:Nat) (cur:Array Value) (t:TypeId),w.heap[b]? =some (.cells cur t (0,0))→53≠t→3≠t→b≠p→w'.heap[b]? =w.heap[b]?
theorem Aside.below {p:Nat} {w w':World} (h:Below w.heap.size w w'):Aside p w w':=⟨h.size,fun b cur t hb _ _ _=>h.block b (Array.getElem?_eq_some_iff.1 hb).1⟩
theorem Aside.trans {p:Nat} {a b c:World} (h:Aside p a b) (k:Aside p b c):Aside p a c:=
 ⟨Nat.le_trans h.size k.size,fun x cur t hx h1 h2 h3=>(k.same x cur t ((h.same x cur t hx h1 h2 h3).trans hx) h1 h2 h3).trans (h.same x cur t hx h1 h2 h3)⟩
theorem Aside.set {p:Nat} {w:World} {g k:Nat} {u:Value} {cur:Array Value} {t:TypeId} (h:w.heap[g]? =some (.cells cur t (0,0))) (ht:t=53∨t=3∨g=p):Aside p w (w.setCell ⟨g,k,none⟩ u):=
 ⟨by simp [World.setCell], fun b c t' hb h1 h2 h3 => Below.heap_setCell w ⟨g, k, none⟩ u b (fun e => by
  have e2:b=g:=e;subst e2;rw[h] at hb;injection hb with hb
  injection hb with _ hb _
  rcases ht with ht|ht|ht
  ·exact h1 (ht.symm.trans hb)
  ·exact h2 (ht.symm.trans hb)
  ·exact h3 ht)⟩
theorem z6q (s:ByteArray) (k:Nat) (h:k<s.size):s.data.toList.drop k=s[k]::s.data.toList.drop (k+1):=by
 rw[List.drop_eq_getElem_cons (by simpa using h)]
 rfl
theorem zcb (s:ByteArray) (k:Nat) (h:¬k<s.size):s.data.toList.drop k=[]:=List.drop_eq_nil_of_le (by
 have:s.data.toList.length=s.size:=rfl;omega)
set_option maxHeartbeats 2000000 in
theorem z5v (a b:ByteArray) (w:World) (ha:a.size≤140737488355328) (hb:b.size≤140737488355328):
  Calls Tryz.prog 89 #[.string a,.string b] w fun e w'=>e=.returned (.bool (ltN a b))∧∃q,w'=w.drewN q:=by
 obtain⟨R,hR⟩:∃R,ltN a b=R:=⟨_,rfl⟩;rw[hR];unfold ltN at hR;have HR:=hid hR;clear hR
 go_enter Tryz.func89,Tryz.ntmps89
 go_wp2_with fail
 go_loopw [5] (fun i wr=>∃k q:Nat,i=.int .i64 k∧k≤a.size∧k≤b.size∧wr=w.drewN q∧ltB (a.data.toList.drop k) (b.data.toList.drop k)=R) (fun i _=>a.size-(intOf i).toNat)
 case atStart=>exact⟨0,0,rfl,by omega,by omega,rfl,HR.out⟩
 case round=>
  obtain⟨k,q,rfl,hka,hkb,rfl,hc⟩:=hrel
  by_cases hla:k<a.size
  ·by_cases hlb:k<b.size
   ·rw[z6q a k hla,z6q b k hlb,ltB] at hc;have k0:(0:Int)≤(k:Int):=by omega
    have k1:(k:Int)<(a.size:Int):=by omega
    have k2:(k:Int)<(b.size:Int):=by omega
    by_cases hq:a[k]=b[k]
    ·rw[if_pos hq] at hc;have Hc:=hid hc;have qq:((a[k].toNat:Int) != (b[k].toNat:Int))=false:=by rw[hq];simp
     clear hc;go_wp2_with fail;go_quiet (fail);go_wp2_with fail;go_roundw
     case rel=>exact⟨k+1,_,by go_num,by omega,by omega,rfl,Hc.out⟩
     case measure=>simp[intOf];omega
    ·rw[if_neg hq] at hc;have Hc:=hid hc;have hne:¬a[k].toNat=b[k].toNat:=fun e=>hq (UInt8.toNat_inj.1 e)
     have qq:((a[k].toNat:Int) != (b[k].toNat:Int))=true:=by rw[bne_iff_ne];omega
     clear hc;go_wp2_with fail;go_quiet (fail);go_wp2_with fail;go_quiet (fail);go_wp2_with fail;go_ret;refine⟨Cv.ret_bool ?_,_,by rw[World.drewN_drewN,World.drewN_drewN]⟩;rw[←Hc.out];simp[UInt8.lt_iff_toNat_lt]
   ·rw[z6q a k hla,zcb b k hlb,ltB] at hc;have e:b.size=k:=by omega
    have Hc:=hid hc;have q1:decide (k<b.size)=false:=by simp;omega
    clear hc;go_wp2_with fail;go_ret;refine⟨Cv.ret_bool ?_,_,rfl⟩;rw[←Hc.out];simp;omega
  ·have e:a.size=k:=by omega
   rw[zcb a k hla] at hc;have Hc:=hid hc;clear hc;go_wp2_with fail;go_ret;refine⟨Cv.ret_bool ?_,_,rfl⟩;rw[←Hc.out]
   by_cases hlb:k<b.size
   ·rw[z6q b k hlb,ltB];simp;omega
   ·rw[zcb b k hlb,ltB];simp;omega
end Go.Proofs.YtkflaifopbodfaaGreatDoor
