/- Parts of the proof, side by side: MoRemove, MoThrough, MoRename. -/
import Derived.Test.YtkflaifopbodfaaGreatDoorM23
import Derived.Test.YtkflaifopbodfaaGreatDoorM24
import Derived.Test.YtkflaifopbodfaaGreatDoorM19
import Derived.Test.YtkflaifopbodfaaGreatDoorM25
import Derived.Deep.Cut
import Derived.Deep.DeepCutAuto
set_option linter.unusedVariables false
set_option linter.unusedSimpArgs false
namespace Go.Proofs.YtkflaifopbodfaaGreatDoor
open Lib (hid)
open Go.RowKit
def removeV (s:St) (c:Ca):St×Re:=
 if(parentV s.inos c.path).2.2≠0 then(s,{ code:=(parentV s.inos c.path).2.2 })
 else if entV s.inos (parentV s.inos c.path).1 (parentV s.inos c.path).2.1=0 then(s,{ code:=1 })
 else if c.kind=9∧dirAt s.inos (entV s.inos (parentV s.inos c.path).1 (parentV s.inos c.path).2.1)=true then(s,{ code:=8 })
 else if c.kind=10∧dirAt s.inos (entV s.inos (parentV s.inos c.path).1 (parentV s.inos c.path).2.1)=false then(s,{ code:=7 })
 else if c.kind=10∧entsOf s.inos (entV s.inos (parentV s.inos c.path).1 (parentV s.inos c.path).2.1)≠[] then(s,{ code:=3 })
 else(sweepV { s with inos:=setEnts s.inos (parentV s.inos c.path).1 fun es=>dropE es (parentV s.inos c.path).2.1 } (entV s.inos (parentV s.inos c.path).1 (parentV s.inos c.path).2.1),{})
theorem z3t (s:St) (c:Ca) (hk:c.kind=9∨c.kind=10):namesV s c=removeV s c:=by
 unfold namesV removeV;rw[if_neg (by omega)]
 split
 ·rfl
 ·split
  ·rfl
  ·rw[if_neg (by omega)]
set_option maxRecDepth 100000 in
set_option maxHeartbeats 16000000 in
theorem zar (B q p:Nat) (s:St) (c:Ca) (zs:List (Ino×Value)) (vI vO vM:Value) (w:World) (hN:Now B q p s c zs vI vO vM w w) (hg:Good s) (hp1:c.path.size≤140737488355328) (hk:c.kind=9∨c.kind=10):
  Calls Tryz.prog 118 #[.pointer (some ⟨q,0,.none⟩)] w (Ran B q p c (removeV s c) w):=by
 obtain⟨R,hR⟩:∃R,removeV s c=R:=⟨_,rfl⟩;have hsz:=za6 hg c;rw[z3t s c hk] at hsz;have hsd:=(Small.dropE hg.small (parentV s.inos c.path).1 (parentV s.inos c.path).2.1).sized (by omega) (by omega) (by omega);rw[hR] at hsz ⊢;unfold removeV at hR;have HR:=hid hR;have HSZ:=hid hsz;have HSD:=hid hsd;have HN0:=hid hN;have HG:=hid hg;have d6:=hN.doer.c6;clear hR hN hg hsz hsd
 go_enter Tryz.func118,Tryz.ntmps118
 go_wp2_with fail;refine(z2o B q p s c 0 0 false ⟨#[]⟩ (.slice none 0 0) zs vI vO vM c.path w HN0.out.doer HN0.out.own HG.out hp1).mono ?_;rintro e1 w1 ⟨hb1,⟨hc,rfl⟩|⟨hc,g,n,d,i,x,hvI,hx,hxn,hxd,rfl⟩⟩
 ·have hr:=HR.out;rw[if_pos hc] at hr
  go_simp
  exact z0b rfl ((HN0.out.step hb1).fail (by rw[←hr];exact hc) (by rw[←hr]))
 obtain⟨NM,hNM⟩:∃NM,(parentV s.inos c.path).2.1=NM:=⟨_,rfl⟩;have hat:=HG.out.at_ hx hxn;have hr:=HR.out;rw[if_neg (by rw[hc];simp),hNM,z4g hat hx,z0y hat hx] at hr;have hsd:=HSD.out;rw[hNM,z0y hat hx] at hsd;rw[hNM];have HR1:=hid hr;have HSD1:=hid hsd;have HN1:=hid (HN0.out.step hb1);have hmem:=List.mem_of_getElem? hx;have hlen:x.ents.length≤32:=HG.out.ents_len hmem;have HX:=hid hx;have HRE:=hid (HG.out.riseE hmem);have HMEM:=hid hmem;obtain⟨EN,hEN⟩:∃EN,entG x.ents NM=EN:=⟨_,rfl⟩;have HEN:=hid hEN;clear hr hsd hb1 d6 hat HR HSD hmem hNM hc hEN
 by_cases hz:EN=0
 ·have hr:=HR1.out;rw[HEN.out,if_pos hz] at hr;have hno:=z6v x.ents NM (fun e he=>(HG.out.entNum HMEM.out he).1) (by rw[HEN.out,hz]);go_wp2_with fail;refine(zmh B p s zs vI vO vM i x NM g n d w1 HN1.out.own HX.out hvI HRE.out hno (by omega)).mono ?_;rintro e2 w2 ⟨rfl,hb2⟩
  go_simp
  exact z0b rfl ((HN1.out.step hb2).fail (by rw[←hr];simp) (by rw[←hr]))
 have hr:=HR1.out;rw[HEN.out,if_neg hz] at hr;have HR2:=hid hr;obtain⟨j,en,hj,hjn,hje⟩:=z6w x.ents NM (by rw[HEN.out];exact hz);rw[HEN.out] at hje;have hem:=List.mem_of_getElem? hj;obtain⟨k,y,hk0,hy,hyn,hatk⟩:=HG.out.ent HX.out hxd hem;have hki:=HG.out.ent_ne HX.out hxd hem hy hyn;have hyE:y.num=EN:=by rw[hyn,hje]
 rw[hje] at hatk;rw[z3s hatk hy,zeh hatk hy] at hr;have HR3:=hid hr;have hpos:=EnPos.of_name HRE.out hj hjn;have HPOS:=hid hpos;have HJ:=hid hj;have HY:=hid hy;have HYN:=hid hyn;have HYE:=hid hyE;have HJE:=hid hje;have HKI:=hid hki;clear hr HR1 HR2 hpos hatk hyn hyE hje hki;go_wp2_with fail;refine(zao B p s zs vI vO vM i x en NM g n d w1 HN1.out.own HN1.out.hB' HX.out hvI HRE.out hem hjn (by omega) HSD1.out).mono ?_;rintro e2 w2 ⟨rfl,ht2,zs2,ho2⟩;rw[HEN.out];obtain⟨S2,hS2⟩:∃S2:St,({ s with inos:=s.inos.set i { x with ents:=dropE x.ents NM } }:St)=S2:=⟨_,rfl⟩;rw[hS2] at ho2;have hri:RiseI S2.inos:=by rw[←hS2];exact HG.out.riseI.set HX.out rfl
 have hy2:S2.inos[k]? =some y:=by rw[←hS2];show(s.inos.set i _)[k]? =_;rw[z7x HKI.out];exact HY.out
 have hat2:atV S2.inos EN=(k:Int):=by rw[←HYE.out];exact z0e hri hy2 rfl
 have hD2:=HN1.out.doer.turns HN1.out.ne ht2;have hB2:B≤w2.heap.size:=Nat.le_trans HN1.out.hB' ht2.below.size;have d02:=hD2.c0;have d12:=hD2.c1;have s02:=ho2.s0;obtain⟨g2,c2,E2,m2,e2,hv2,hz2,hgl2,_,hkl2,y0,y1,y2,_,_,_,hE2⟩:=ho2.at_ hy2;have hgg:g2=g:=by rw[hvI] at hv2;injection hv2 with e1 _ _;injection e1 with e1;injection e1 with e1;exact e1.symm
 subst hgg;rw[hvI] at s02;have hnl:n=S2.inos.length:=by rw[hvI] at hv2;injection hv2 with _ e1 _
 have HHS2:=hid hS2;have HML:=hid hE2.1;have HNL:=hid hnl;have HO2:=hid ho2;have HD2:=hid hD2;have HT2:=hid ht2;have HRI:=hid hri;have HY2:=hid hy2;have HAT2:=hid hat2;have hq2:=hD2.lt;have hp2:=ho2.lt;clear hS2 ho2 ht2 hri hy2 hat2 hD2 hv2 hz2 hE2;go_wp2_with fail;refine(z1m p S2 EN w2 HO2.out.ptr HRI.out).mono ?_;rintro e3 w3 ⟨rfl,hb3⟩;rw[HAT2.out];have d03:=(hb3.cell (p:=⟨q,0,none⟩) hq2).trans d02;have d13:=(hb3.cell (p:=⟨q,1,none⟩) hq2).trans d12;have s03:=(hb3.cell (p:=⟨p,0,none⟩) hp2).trans s02;have y13:=(hb3.cell (p:=⟨g2,k*4+1,none⟩) hgl2).trans y1;have y23:=(hb3.cell (p:=⟨g2,k*4+2,none⟩) hgl2).trans y2;have HO3:=hid (HO2.out.below hb3);have HD3:=hid (HD2.out.below hb3);have hB3:B≤w3.heap.size:=Nat.le_trans hB2 hb3.size;have HT3:=hid (HT2.out.trans (Turns.of_below (B:=B) (p:=p) hb3 hB2));have k0:(0:Int)≤(k:Int):=by omega
 have k1:(k:Int)<(n:Int):=by omega
 have hq3:=HD3.out.lt;have hp3:=HO3.out.lt;clear hb3 d02 d12 s02 y0 y1 y2;have hfail:∀(C:Int) (hc:C≠0) (h:R=(s,{ code:=C })),Ran B q p c R w (.panicked (faultP C)) w3:=fun C hc h=>⟨HN1.out.low.trans HT3.out.below,.inl ⟨by rw[h];exact hc,by rw[h]⟩⟩
 have HFAIL:=hid hfail;clear hfail
 rcases hk with hk|hk
 ·rw[hk] at d13;cases hyd:y.dir;rotate_left
  ·have hr:=HR3.out;rw[if_pos ⟨hk,hyd⟩] at hr;rw[hyd] at y13;go_wp2_with fail;refine(z0f _ _).mono ?_;rintro e4 w4 ⟨rfl,rfl⟩;go_wp2_with fail;exact z0b rfl (HFAIL.out 8 (by decide) hr.symm)
  have hr:=HR3.out;rw[if_neg (by rw[hyd];simp),if_neg (by rw[hk];simp),if_neg (by rw[hk];simp),HHS2.out] at hr;have hs:=HSZ.out;rw[←hr] at hs;have hsx:Sized (sweepV S2 y.num):=by rw[HYE.out];exact hs
  have HSX:=hid hsx;have HR4:=hid hr;have HYD:=hid hyd;rw[hyd] at y13;clear hr hs hsx hyd y23;go_wp2_with fail;refine(z0h _ _).mono ?_;rintro e4 w4 ⟨rfl,rfl⟩;go_wp2_with fail;have htid:=zei B q p S2 c 0 0 false ⟨#[]⟩ (.slice none 0 0) zs2 vI vO vM k y w3 HD3.out HO3.out hB3 HRI.out HY2.out HYD.out HSX.out;rw[HYE.out] at htid;refine htid.mono ?_;rintro e5 w5 ⟨rfl,ht5,zs5,vI5,ho5⟩;go_wp2_with fail
  go_returns
  exact HN1.out.done (by rw[←HR4.out]) rfl (HT3.out.trans ht5) ⟨zs5,vI5,vO,vM,by rw[←HR4.out];exact ho5⟩
 ·rw[hk] at d13;cases hyd:y.dir
  ·have hr:=HR3.out;rw[if_neg (by rw[hk];simp),if_pos ⟨hk,hyd⟩] at hr;rw[hyd] at y13;go_wp2_with fail;refine(z0f _ _).mono ?_;rintro e4 w4 ⟨rfl,rfl⟩;go_wp2_with fail;exact z0b rfl (HFAIL.out 7 (by decide) hr.symm)
  have hr:=HR3.out;rw[if_neg (by rw[hk];simp),if_neg (by rw[hyd];simp)] at hr;have HR4:=hid hr;have HYD:=hid hyd;rw[hyd] at y13;clear hr hyd
  by_cases hm0:m2=0
  rotate_left
  ·have hr:=HR4.out;rw[if_pos ⟨hk,fun h=>hm0 (by rw[←HML.out,h];rfl)⟩] at hr;have hm1:decide ((0:Int)<(m2:Int))=true:=by rw[decide_eq_true_eq];omega
   have hm3:0<m2:=by omega
   go_wp2_with fail;refine(z0h _ _).mono ?_;rintro e4 w4 ⟨rfl,rfl⟩;go_wp2_with fail;refine(z0f _ _).mono ?_;rintro e4 w4 ⟨rfl,rfl⟩;go_wp2_with fail;exact z0b rfl (HFAIL.out 3 (by decide) hr.symm)
  subst hm0;have hr:=HR4.out;have hnil:y.ents=[]:=List.length_eq_zero_iff.1 HML.out;rw[if_neg (fun h=>h.2 hnil)] at hr;have hrm:=HG.out.rmdir HX.out hxd HPOS.out HJ.out HY.out HYN.out HYD.out;rw[HJE.out] at hrm;rw[hrm] at hr
  have hdp:dropI S2.inos EN=(zs2.take k++zs2.drop (k+1)).map Prod.fst:=by
   have h:=za7 S2.inos k y HRI.out HY2.out;rw[HYE.out] at h;rw[h,List.map_append,List.map_take,List.map_drop,HO2.out.inos]
  have hr2:({ S2 with inos:=(zs2.take k++zs2.drop (k+1)).map Prod.fst },{})=R:=by
   rw[←hr,←hdp,←HHS2.out]
  have hs:=HSZ.out;rw[←hr2] at hs;have HS:=hid hs;have HRF:=hid hr2;have hzl:zs2.length=n:=by rw[HNL.out,←HO2.out.inos,List.length_map]
  have HZL:=hid hzl;have hkz:k<n:=by omega
  have hrow:RowAt B w3 53 4 (.slice (some ⟨g2,0,none⟩) n d) n (zs2.flatMap inoV):=by
   have h:=HO3.out.rowI
   rwa [hzl,hvI] at h
  have HROW:Hid (RowAt B w3.drew 53 4 (.slice (some ⟨g2,0,none⟩) n d) n (zs2.flatMap inoV)):=hrow;have fp:∀j,w3.frozen? ⟨p,j,none⟩=false:=fun j=>frozen_of_row w3 p j _ _ HO3.out.cell
  have hone:=zfv zs2 HO3.out.shape
  have hnQ:some q≠rowBlk (.slice (some ⟨g2,0,none⟩) n d):=fun e=>by
   rw[←hvI] at e;obtain⟨c1,h1⟩:=HO3.out.bI e.symm;exact z0i HD3.out.cell h1 (by decide) rfl
  have hnP:some p≠rowBlk (.slice (some ⟨g2,0,none⟩) n d):=fun e=>by
   rw[←hvI] at e;obtain⟨c1,h1⟩:=HO3.out.bI e.symm;exact z0i HO3.out.cell h1 (by decide) rfl
  have kw:IntKind.i64.wrap ((k:Int)+1)=(k:Int)+1:=by
   have:=HO3.out.sized.big;have:=HNL.out;rw[IntKind.wrap_i64];omega
  have HVI:=hid hvI;clear hr hrm hdp hr2 hs hzl hrow hvI hnil hnl HR4 HFAIL HSD1 HRE HMEM HPOS HY HKI HEN HX HAT2 HY2 HRI HD2 HYN HJ HJE;go_wp2_with fail;refine(z0h _ _).mono ?_;rintro e4 w4 ⟨rfl,rfl⟩;go_wp2_with fail;refine(z0h _ _).mono ?_;rintro e4 w4 ⟨rfl,rfl⟩;go_wp2_with fail
  go_region_with (first
   | (go_at_call 143;(refine(zhf B n k (.slice (some ⟨g2,0,none⟩) n d) (zs2.flatMap inoV) w3.drew HROW.out hkz hone).mono ?_;rintro e6 w6 ⟨v',rfl,hrow',hgr,hbl⟩;obtain⟨A',c9,rfl,hok'⟩:=hrow'.slice;have q6:w6.cell? ⟨q,0,none⟩=some (.pointer (some ⟨p,0,none⟩)):=(World.cell?_of_block (a:=⟨q,0,none⟩) (hgr.block q hq3 hnQ)).trans d03;have p6:w6.cell? ⟨p,0,none⟩=some (.slice (some ⟨g2,0,none⟩) n d):=(World.cell?_of_block (a:=⟨p,0,none⟩) (hgr.block p hp3 hnP)).trans s03;have f6:w6.frozen? ⟨p,0,none⟩=false:=(World.frozen?_of_block (a:=⟨p,0,none⟩) (hgr.block p hp3 hnP)).trans (fp 0))))
  all_goals (
   have hflat:(zs2.flatMap inoV).take (k*4)++(zs2.flatMap inoV).drop ((k+1)*4)=(zs2.take k++zs2.drop (k+1)).flatMap inoV:=by
    rw[z1o inoV 4 (fun _=>rfl),z1p inoV 4 (fun _=>rfl),List.flatMap_append]
   have hpl:(zs2.take k++zs2.drop (k+1)).length=n-1:=by rw[List.length_append,List.length_take,List.length_drop,HZL.out];omega
   rw[hflat,←hpl] at hrow';have hgr2:=z3q hgr;rw[←HVI.out] at hgr2;have hfin:=HO3.out.setI hB3 hgr2 hrow' (fun y hy=>HO3.out.ents y (by rcases List.mem_append.1 hy with h|h;exact List.mem_of_mem_take h;exact List.mem_of_mem_drop h)) (HO3.out.apart.take_drop k) HS.out;rw[hpl] at hfin;have HFIN:=hid hfin;clear hfin hrow' hgr hgr2 hbl hflat;go_wp2_with fail
   go_returns
   exact HN1.out.done (by rw[←HRF.out]) rfl (HT3.out.trans HFIN.out.2) ⟨_,_,vO,vM,by rw[←HRF.out];exact HFIN.out.1⟩)
theorem NmAt.take {w:World} {A:Option Addr} {n:Nat} {ts:List (List UInt8)} (h:NmAt w A n ts) {r:Nat} (hr:r≤n):NmAt w A r (ts.take r):=by
 refine⟨by rw[List.length_take,h.1];omega,fun h0=>?_⟩;obtain⟨g,off,hA,hg,hc⟩:=h.2 (by omega);refine⟨g,off,hA,hg,fun j hj=>?_⟩;rw[hc j (by omega)]
 congr 2
 rw[List.getD_eq_getElem?_getD,List.getD_eq_getElem?_getD,List.getElem?_take,if_pos hj]
set_option maxRecDepth 100000 in
set_option maxHeartbeats 8000000 in
theorem zem (B q p:Nat) (s:St) (c:Ca) (fd num:Int) (dir:Bool) (data:ByteArray) (nv:Value) (zs:List (Ino×Value)) (vI vO vM:Value) (path:ByteArray) (NS:List (List UInt8)) (NU:Int) (w:World) (hD:DoerAt w q p c fd num dir data nv) (hO:Own2 B w p s zs vI vO vM) (hg:Good s) (hs:path.size≤140737488355328) (h0:(parseL path.data.toList).2=0) (hNS:(parseL path.data.toList).1=NS) (hc:(walkG s.inos NS.dropLast 1).2=0):
  Calls Tryz.prog 149 #[.pointer (some ⟨q,0,.none⟩),.string path,.int .i64 NU] w fun e w'=>e=.returned (.bool (throughV s.inos NS NU))∧Below w.heap.size w w':=by
 have hq:=hD.lt;have d0:=hD.c0;have hlen:NS.length≤4:=by rw[←hNS];exact z6p _
 obtain⟨TV,hTV⟩:∃TV,throughV s.inos NS NU=TV:=⟨_,rfl⟩;rw[hTV];have HTV:=hid hTV;have HO:=hid hO;have HG:=hid hg;have HNS:=hid hNS;have HC:=hid hc;obtain⟨m,hm⟩:∃m,NS.length=m:=⟨_,rfl⟩;have HM:=hid hm;have hm4:m≤4:=by omega
 have hp:=hO.lt;clear hO hg hD hTV hNS hc hlen hm
 go_enter Tryz.func149,Tryz.ntmps149
 go_wp2_with fail;refine(z6u path _ hs h0).mono ?_;rintro e5 w5 ⟨A5,c5,rfl,hc5,hn5,hb5⟩;rw[HNS.out] at hc5 hn5 ⊢;rw[HM.out] at hc5 hn5 ⊢;have HB5:=hid hb5;have HO5:=hid (HO.out.below hb5);have d5:=(hb5.cell (p:=⟨q,0,none⟩) hq).trans d0;have hq5:q<w5.heap.size:=Nat.lt_of_lt_of_le hq hb5.size;have hp5:=HO5.out.lt;have HN5:=hid hn5;clear hb5 hn5 d0;go_wp2_with fail
 go_loopw [15] (fun j wr=>∃r:Nat,j=.int .i64 r∧r≤m∧Below w5.heap.size w5 wr∧∀r',r'<r→stepP s.inos NS r'≠NU) (fun j _=>m-(intOf j).toNat)
 case atStart=>exact⟨0,rfl,by omega,Below.refl _ _,fun r' h=>by omega⟩
 case round=>
  obtain⟨r,rfl,hr,hbel,hno⟩:=hrel;have HB:=hid hbel;have HNO:=hid hno;have dr:=(hbel.cell (p:=⟨q,0,none⟩) hq5).trans d5;have HOr:=hid (HO5.out.below hbel);have HNr:=hid (HN5.out.below hbel);have hqr:q<wr.heap.size:=Nat.lt_of_lt_of_le hq5 hbel.size;clear hbel hno
  by_cases hlt:r<m
  ·have hcr:=z6d HG.out (NS:=NS) (NS.length-1-r) r (by have:=HM.out;omega) HC.out;have hpl:=z7w HG.out (NS.take r) hcr;obtain⟨i,x,hk,hx,hxn⟩:=hpl;obtain⟨KP,hKP⟩:∃KP,placeG s.inos (walkG s.inos (NS.take r) 1)=KP:=⟨_,rfl⟩;have HK:=hid hKP;have HCR:=hid hcr;have HX:=hid hx;have hki:KP=(i:Int):=by rw[←hKP,hk]
   have hxs:x.num=stepP s.inos NS r:=hxn;have HXS:=hid hxs;have HKI:=hid hki;have HTK:=hid (HNr.out.take (r:=r) (by omega));have r0:(0:Int)≤(r:Int):=by omega
   have r1:(r:Int)≤(c5:Int):=by omega
   have r2:r≤c5:=by omega
   have r3:(r:Int)<(m:Int):=by omega
   have hnn:A5≠none:=fun h=>by
    obtain⟨g,off,hA,_⟩:=HNr.out.2 (by omega);rw[h] at hA;cases hA
   obtain⟨ad,rfl⟩:∃ad,A5=some ad:=by
    cases A5 with
    | none=>exact absurd rfl hnn
    | some ad=>exact⟨ad,rfl⟩
   obtain⟨gA,oA,sA⟩:=ad;clear hcr hk hx hKP hki hxs hxn hnn;go_wp2_with fail
   go_region_held3 (fun w'=>w'.cell? ⟨q,0,none⟩=some (.pointer (some ⟨p,0,none⟩)))
    (first|go_keep|(rw[hb6.cell (by simp;omega)];simp[*]))
    (first
     | (go_at_call 160;refine(za8 p s (some ⟨gA,oA,sA⟩) r c5 (NS.take r) _ (HOr.out.ptr.below (Cv.drewN_below (Below.refl _ _) 1)) HG.out (HTK.out.below (Cv.drewN_below (Below.refl _ _) 1)) (by omega)).mono ?_;rintro e6 w6 ⟨rfl,hb6,_⟩;rw[HK.out,HCR.out]))
   have hb7:Below wr.heap.size wr w6:=Cv.next (Cv.drewN_below (Below.refl _ _) 1) hb6;have HB7:=hid (Cv.next HB.out hb7);have HO7:=hid (HOr.out.below hb7);have d7:=(hb7.cell (p:=⟨q,0,none⟩) hqr).trans dr;have p7:=HO7.out.s0;obtain⟨g,cc,E,m2,d2,hv,_,hgl,_,hil,x0,_⟩:=HO7.out.at_ HX.out;rw[hv] at p7;rw[HKI.out];have i0:(0:Int)≤(i:Int):=by omega
   have i1:(i:Int)<(s.inos.length:Int):=by omega
   clear hb6 hb7 hv
   by_cases he:x.num=NU
   ·have qe:(x.num==NU)=true:=by rw[beq_iff_eq];exact he
    have ht:TV=true:=by
     rw[←HTV.out];unfold throughV;rw[List.any_eq_true];exact⟨r,List.mem_range.2 (by have:=HM.out;omega),by rw[←HXS.out];exact qe⟩
    subst ht;clear he;go_wp2_with fail;go_ret;exact⟨rfl,Cv.next HB5.out HB7.out⟩
   ·have qe:(x.num==NU)=false:=by rw[beq_eq_false_iff_ne];exact he
    have HE:=hid he;clear he;go_wp2_with fail;go_roundw
    case rel=>exact⟨r+1,by go_num,by omega,HB7.out,fun r' hr'=>by
     by_cases e:r'=r
     ·rw[e,←HXS.out];exact HE.out
     ·exact HNO.out r' (by omega)⟩
    case measure=>simp[intOf];omega
  ·have hrm:r=m:=by omega
   subst hrm
   have hf:TV=false:=by
    rw[←HTV.out];unfold throughV;rw[Bool.eq_false_iff];intro h;rw[List.any_eq_true] at h;obtain⟨r',h1,h2⟩:=h;rw[List.mem_range] at h1;rw[beq_iff_eq] at h2;exact HNO.out r' (by have:=HM.out;omega) h2
   subst hf;have q9:decide ((r:Int)<(r:Int))=false:=by rw[decide_eq_false_iff_not];omega
   go_wp2_with fail;go_ret;exact⟨rfl,Cv.next HB5.out HB.out⟩
def renamesV (s:St) (c:Ca):St×Re:=
 if(parentV s.inos c.path).2.2≠0 then(s,{ code:=(parentV s.inos c.path).2.2 })
 else if entV s.inos (parentV s.inos c.path).1 (parentV s.inos c.path).2.1=0 then(s,{ code:=1 })
 else renameV s c (parentV s.inos c.path).1 (parentV s.inos c.path).2.1 (entV s.inos (parentV s.inos c.path).1 (parentV s.inos c.path).2.1)
theorem z7b (s:St) (c:Ca) (hk:c.kind=11):namesV s c=renamesV s c:=by
 unfold namesV renamesV;rw[if_neg (by omega)]
 split
 ·rfl
 ·split
  ·rfl
  ·first|rfl|rw[if_pos hk]
theorem z4n:∀(es:List En) (nm:ByteArray),(dropE es nm).Sublist es
 | [],_=>List.Sublist.refl _
 | e::es,nm=>by
  unfold dropE
  split
  ·exact(z4n es nm).cons _
  ·exact(z4n es nm).cons_cons _
theorem RiseE.sub {l es:List En} (h:RiseE es) (hs:l.Sublist es):RiseE l:=by
 have h1:es.Pairwise fun x y=>ltN x.name y.name=true:=List.pairwise_iff_getElem.2 fun i j hi hj hij=>h i j _ _ hij (List.getElem?_eq_getElem hi) (List.getElem?_eq_getElem hj)
 have h2:=List.pairwise_iff_getElem.1 (h1.sublist hs);intro i j x y hij hx hy;obtain⟨hi,rfl⟩:=List.getElem?_eq_some_iff.1 hx;obtain⟨hj,rfl⟩:=List.getElem?_eq_some_iff.1 hy;exact h2 i j hi hj hij
theorem EnPos.none {es:List En} (hr:RiseE es) {nm:ByteArray} {k:Nat} (hp:EnPos es nm k false):∀e∈es,e.name≠nm:=fun e he hn=>by
 obtain⟨j,hj⟩:=List.getElem?_of_mem he
 have hh:∃e,es[k]? =some e∧e.name=nm:=by
  have:k=j:=by
   rcases Nat.lt_trichotomy k j with h|h|h
   ·cases hk:es[k]? with
    | none=>
     have h2:=(List.getElem?_eq_some_iff.1 hj).1;rw[List.getElem?_eq_none_iff] at hk;omega
    | some z=>
     have h2:=hr k j z e h hk hj;rw[hn,hp.hi k z (Nat.le_refl _) hk] at h2;cases h2
   ·exact h
   ·have h1:=hp.lo j e h hj;rw[hn,z0w] at h1;cases h1
  subst this;exact⟨e,hj,hn⟩
 have:=hp.of_ hh;cases this
theorem zbv {s:St} (hg:Good s) {x y:Ino} {i j:Nat} (hx:s.inos[i]? =some x) (hy:s.inos[j]? =some y) (NM NM2:ByteArray) (EN:Int) (hno:∀e∈y.ents,e.name≠NM2):
  ∃y',(s.inos.set i { x with ents:=dropE x.ents NM })[j]? =some y'∧RiseE y'.ents∧(∀e∈y'.ents,e.name≠NM2)∧y'.ents.length≤1000000∧
   setEnts (setEnts s.inos x.num fun es=>dropE es NM) y.num (fun es=>putE es NM2 EN)=(s.inos.set i { x with ents:=dropE x.ents NM }).set j { y' with ents:=putE y'.ents NM2 EN }:=by
 have hax:=z0e hg.riseI hx rfl;rw[z0y hax hx];have hri:RiseI (s.inos.set i { x with ents:=dropE x.ents NM }):=hg.riseI.set hx rfl
 by_cases e:j=i
 ·subst e;rw[hx] at hy;have e2:=Option.some.inj hy;subst e2;have hm:=List.mem_of_getElem? hx;have hg2:(s.inos.set j { x with ents:=dropE x.ents NM })[j]? =some { x with ents:=dropE x.ents NM }:=by rw[List.getElem?_set,if_pos rfl,if_pos (List.getElem?_eq_some_iff.1 hx).1]
  refine⟨_,hg2,(hg.riseE hm).sub (z4n _ _),fun e he=>hno e ((z4n _ _).subset he),?_,?_⟩
  ·have h1:=(z4n x.ents NM).length_le;have h2:=hg.ents_len hm
   show(dropE x.ents NM).length≤_;omega
  ·exact z0y (z0e hri hg2 rfl) hg2 _
 ·have hg2:(s.inos.set i { x with ents:=dropE x.ents NM })[j]? =some y:=by rw[z7x e];exact hy
  have hm:=List.mem_of_getElem? hy;refine⟨_,hg2,hg.riseE hm,hno,by have:=hg.ents_len hm;omega,?_⟩;exact z0y (z0e hri hg2 rfl) hg2 _
set_option maxRecDepth 100000 in
set_option maxHeartbeats 16000000 in
theorem zfx (B q p:Nat) (s:St) (c:Ca) (zs:List (Ino×Value)) (vI vO vM:Value) (w:World) (hN:Now B q p s c zs vI vO vM w w) (hg:Good s) (hp1:c.path.size≤140737488355328) (hp2:c.path2.size≤140737488355328) (hk:c.kind=11):
  Calls Tryz.prog 119 #[.pointer (some ⟨q,0,.none⟩)] w (Ran B q p c (renamesV s c) w):=by
 obtain⟨R,hR⟩:∃R,renamesV s c=R:=⟨_,rfl⟩;have hsz:=za6 hg c;rw[z7b s c hk] at hsz;have hsd:=(Small.dropE hg.small (parentV s.inos c.path).1 (parentV s.inos c.path).2.1).sized (by omega) (by omega) (by omega);rw[hR] at hsz ⊢;unfold renamesV at hR;have HR:=hid hR;have HSZ:=hid hsz;have HSD:=hid hsd;have HN0:=hid hN;have HG:=hid hg;have d6:=hN.doer.c6;clear hR hN hg hsz hsd
 go_enter Tryz.func119,Tryz.ntmps119
 go_wp2_with fail;refine(z2o B q p s c 0 0 false ⟨#[]⟩ (.slice none 0 0) zs vI vO vM c.path w HN0.out.doer HN0.out.own HG.out hp1).mono ?_;rintro e1 w1 ⟨hb1,⟨hc,rfl⟩|⟨hc,g,n,d,i,x,hvI,hx,hxn,hxd,rfl⟩⟩
 ·have hr:=HR.out;rw[if_pos hc] at hr
  go_simp
  exact z0b rfl ((HN0.out.step hb1).fail (by rw[←hr];exact hc) (by rw[←hr]))
 obtain⟨NM,hNM⟩:∃NM,(parentV s.inos c.path).2.1=NM:=⟨_,rfl⟩;have hat:=HG.out.at_ hx hxn;have hr:=HR.out;rw[if_neg (by rw[hc];simp),hNM,z4g hat hx,←hxn] at hr;have hsd:=HSD.out;rw[hNM,z0y hat hx] at hsd;rw[hNM];have HR1:=hid hr;have HSD1:=hid hsd;have HN1:=hid (HN0.out.step hb1);have hmem:=List.mem_of_getElem? hx;have hlen:x.ents.length≤32:=HG.out.ents_len hmem;obtain⟨E,m,e,x0,x1,x2,x3,hE,hgl,hm⟩:=HN1.out.ino hvI hx;have hm32:m≤1000000:=by omega
 have HX:=hid hx;have HRE:=hid (HG.out.riseE hmem);have HMEM:=hid hmem;have HE:=hid hE;have HVI:=hid hvI;obtain⟨EN,hEN⟩:∃EN,entG x.ents NM=EN:=⟨_,rfl⟩;have HEN:=hid hEN;clear hr hsd hb1 d6 hat HR HSD hmem hNM hc hEN hE hm hx hxn hvI;go_wp2_with fail;refine(z1w x.ents E m e NM _ HE.out (by omega) HRE.out).mono ?_;rintro e5 w5 ⟨k,b,rfl,hb5,hpos⟩;have HN5:=hid (HN1.out.step hb5);have x25:=(hb5.cell (p:=⟨g,i*4+2,none⟩) hgl).trans x2;have x05:=(hb5.cell (p:=⟨g,i*4,none⟩) hgl).trans x0;have HE5:=hid (HE.out.below hb5);have hgl5:g<w5.heap.size:=Nat.lt_of_lt_of_le hgl hb5.size
 rcases HG.out.entIs HMEM.out hpos with⟨rfl,hz⟩|⟨rfl,hz,en,hen,henn,hennm⟩
 ·have hr:=HR1.out;rw[if_pos hz] at hr;clear hb5 hpos x0 x1 x2 x3 hz;go_wp2_with fail;refine(z0f _ _).mono ?_;rintro e3 w3 ⟨rfl,rfl⟩;go_wp2_with fail;exact z0b rfl (HN5.out.fail (by rw[←hr];simp) (by rw[←hr]))
 have hr:=HR1.out;rw[if_neg hz,HEN.out] at hr;rw[HEN.out] at henn hz;have HR2:=hid hr;have hem:=List.mem_of_getElem? hen;have hkm:k<m:=by have:=(List.getElem?_eq_some_iff.1 hen).1;have:=HE.out.1;omega
 obtain⟨ge,oe,en',hEE,hge,hen',_,_,f0,f1⟩:=HE5.out.get k hkm;have ex:en=en':=by rw[hen] at hen';exact Option.some.inj hen'
 subst ex;subst hEE;rw[henn] at f1;have k0:(0:Int)≤(k:Int):=by omega
 have k1:(k:Int)<(m:Int):=by omega
 have d75:=HN5.out.doer.c7;obtain⟨u,v,hu0,hv,hvn,hatv⟩:=HG.out.ent HX.out hxd hem;rw[henn] at hvn hatv;have HV:=hid hv;have HVN:=hid hvn;have HATV:=hid hatv;have HEM:=hid (show en∈x.ents∧en.name=NM from ⟨hem,hennm⟩);clear hr HR1 hb5 hpos x0 x1 x2 x3 hz hen hen' henn hennm hem hv hvn hatv;go_wp2_with fail;refine(z0h _ _).mono ?_;rintro e3 w3 ⟨rfl,rfl⟩;go_wp2_with fail;refine(z2o B q p s c 0 0 false ⟨#[]⟩ (.slice none 0 0) zs vI vO vM c.path2 w5 HN5.out.doer HN5.out.own HG.out hp2).mono ?_;rintro e6 w6 ⟨hb6,⟨hc6,rfl⟩|⟨hc6,g',n',d',j,y,hvI',hy,hyn,hyd,rfl⟩⟩
 ·have hr:=HR2.out;unfold renameV at hr;rw[if_pos hc6] at hr
  go_simp
  exact z0b rfl ((HN5.out.step hb6).fail (by rw[←hr];exact hc6) (by rw[←hr]))
 have hgg:g'=g:=by have h:=HVI.out;rw[hvI'] at h;injection h with e1 _ _;injection e1 with e1;injection e1 with e1
 subst hgg;obtain⟨hpo,hpne,hpw,hpd,hpe⟩:=z3d hc6;obtain⟨NS,hNS⟩:∃NS,(parseL c.path2.data.toList).1=NS:=⟨_,rfl⟩;rw[hNS] at hpne hpw hpd hpe;have hthr:=z5i HG.out hpw hpne hpd EN;obtain⟨NM2,hNM2⟩:∃NM2,(parentV s.inos c.path2).2.1=NM2:=⟨_,rfl⟩;have hnms:NM2.size≤140737488355328:=by rw[←hNM2];have:=z1h s.inos c.path2;omega
 have hatj:=HG.out.at_ hy hyn;have hr:=HR2.out;unfold renameV at hr;rw[if_neg (by rw[hc6];simp),hNM2,←hyn,z3s HATV.out HV.out,hyn,hpe,←hthr,←hpe,z4g hatj hy,zd0 hatj hy,←hyn] at hr;rw[hNM2];have HR3:=hid hr;have HN6:=hid (HN5.out.step hb6);have HY:=hid hy;have HPO:=hid hpo;have HNS:=hid hNS;have HPW:=hid hpw;obtain⟨TV,hTV⟩:∃TV,throughV s.inos NS EN=TV:=⟨_,rfl⟩;have HTV:=hid hTV;obtain⟨Ev,mv,ev,v0,v1,v2,v3,hEv,hglv,hmv⟩:=HN6.out.ino HVI.out HV.out;have d06:=HN6.out.doer.c0;have d76:=HN6.out.doer.c7;have s06:=HN6.out.own.s0;rw[HVI.out] at s06
 have hul:u<n:=by
  have h:=HN6.out.own.inosAt;obtain⟨A,cA,hA,_⟩:=h;rw[HVI.out] at hA;injection hA with _ e1 _
  have:=(List.getElem?_eq_some_iff.1 HV.out).1;omega
 have u0:(0:Int)≤(u:Int):=by omega
 have u1:(u:Int)<(n:Int):=by omega
 have hX2:∀(Y:Ext w6) (p:Addr),(w6.cell? p).isSome=true→Y.w.cell? p=w6.cell? p:=fun Y p h=>Y.cell p h
 have hfind:∀X:Ext w6,Calls Tryz.prog 76 #[.pointer (some ⟨p,0,.none⟩),.int .i64 EN] X.w fun e w'=>e=.returned (.int .i64 (u:Int))∧Below X.w.heap.size X.w w':=fun X=>by
  have h:=z1m p s EN X.w (HN6.out.own.ptr.below X.bel) HG.out.riseI;rw[HATV.out] at h;exact h
 have hthrough:∀X:Ext w6,Calls Tryz.prog 149 #[.pointer (some ⟨q,0,.none⟩),.string c.path2,.int .i64 EN] X.w fun e w'=>e=.returned (.bool TV)∧Below X.w.heap.size X.w w':=fun X=>by
  have h:=zem B q p s c 0 0 false ⟨#[]⟩ (.slice none 0 0) zs vI vO vM c.path2 NS EN X.w (HN6.out.doer.below X.bel) (HN6.out.own.below X.bel) HG.out hp2 HPO.out HNS.out HPW.out;rw[HTV.out] at h;exact h
 have HF:=hid hfind;have HT:=hid hthrough;have hX:=@Ext.cell w6;obtain⟨VD,hVD⟩:∃VD,v.dir=VD:=⟨_,rfl⟩;rw[hVD] at v1;have HVD:=hid hVD;clear hr HR2 hb6 hNM2 hy hatj hpo hpne hpw hpd hpe hNS hthr hTV hfind hthrough hEv hmv hc6 hvI' d75 f0 f1 v0 v2 v3 hVD;have hgo:VD=true∧TV=true∨¬(VD=true∧TV=true):=Classical.em _;go_upto_region 5 with fail
 go_cut [75] from 50 to 76 (fun cz wx=>Below w6.heap.size w6 wx∧¬(VD=true∧TV=true))
 case first=>
  rcases hgo with⟨rfl,rfl⟩|hno
  ·have hr:=HR3.out;rw[HTV.out,if_pos ⟨HVD.out,rfl⟩] at hr;have HRB:=hid hr;clear hr;refine z1c 26 (by kernel_rfl) (by kernel_rfl) ?_;simp only[List.take_succ_cons,List.take_zero,List.drop_succ_cons,List.drop_zero]
   repeat (go_big_quiet_step (first|(go_at_call 76;rename_i X;exact Calls.ext_of (HF.out X))|(go_at_call 149;rename_i X;exact Calls.ext_of (HT.out X))))
   refine wpQuiet_nil ?_;intro X;have HNX:=hid (HN6.out.step X.bel);clear hX;go_wp2_with fail;refine(z0f _ _).mono ?_;rintro e3 w3 ⟨rfl,rfl⟩;go_wp2_with fail;exact z0b rfl (HNX.out.fail (by rw[←HRB.out];simp) (by rw[←HRB.out]))
  have HNO:=hid hno;clear hno;cases VD
  ·refine z1c 26 (by kernel_rfl) (by kernel_rfl) ?_;simp only[List.take_succ_cons,List.take_zero,List.drop_succ_cons,List.drop_zero]
   repeat (go_big_quiet_step (first|(go_at_call 76;rename_i X;exact Calls.ext_of (HF.out X))))
   refine wpQuiet_nil ?_;intro X;have HBX:=hid X.bel;clear hX;go_wp2_with fail;refine(z0h _ _).mono ?_;rintro e8 w8 ⟨rfl,rfl⟩;go_wp2_with fail;go_meet;exact⟨HBX.out,by simp⟩
  ·have hf:TV=false:=by cases TV;rfl;exact absurd ⟨rfl,rfl⟩ HNO.out
   subst hf;refine z1c 26 (by kernel_rfl) (by kernel_rfl) ?_;simp only[List.take_succ_cons,List.take_zero,List.drop_succ_cons,List.drop_zero]
   repeat (go_big_quiet_step (first|(go_at_call 76;rename_i X;exact Calls.ext_of (HF.out X))|(go_at_call 149;rename_i X;exact Calls.ext_of (HT.out X))))
   refine wpQuiet_nil ?_;intro X;have HBX:=hid X.bel;clear hX;go_wp2_with fail;refine(z0h _ _).mono ?_;rintro e8 w8 ⟨rfl,rfl⟩;go_wp2_with fail;go_meet;exact⟨HBX.out,by simp⟩
 case rest=>
  obtain⟨hb7,hno⟩:=hcut;have hr:=HR3.out;rw[HTV.out,if_neg (by rw[HVD.out];exact hno)] at hr;have HR4:=hid hr;clear hr hno HR3 hX hX2 hgo;generalize wc=w7 at *;have HN7:=hid (HN6.out.step hb7);clear hb7 d06 d76 s06 v1 u0 u1;obtain⟨Ey,my,ey,y0,y1,y2,y3,hEy,hgly,hmy⟩:=HN7.out.ino HVI.out HY.out;obtain⟨Ex,mx,ex,x0,x1,x2,x3,hEx,hglx,hmx⟩:=HN7.out.ino HVI.out HX.out;have hmemy:=List.mem_of_getElem? HY.out;have hleny:y.ents.length≤32:=HG.out.ents_len hmemy;have hm32y:my≤1000000:=by omega
  have HEY:=hid hEy;have HREY:=hid (HG.out.riseE hmemy);have HTX:=hid (HG.out.text hmemy);have HMY:=hid hmemy;obtain⟨YN,hYN⟩:∃YN,y.num=YN:=⟨_,rfl⟩;rw[hYN] at y0;have HYN:=hid hYN;obtain⟨XN,hXN⟩:∃XN,x.num=XN:=⟨_,rfl⟩;rw[hXN] at x0;have HXN:=hid hXN;clear y1 y3 x1 x2 x3 hmemy hEy hEx hmx hmy hYN hXN;go_wp2_with fail;refine(z1w y.ents Ey my ey NM2 _ HEY.out (by omega) HREY.out).mono ?_;rintro e8 w8 ⟨k2,b2,rfl,hb8,hpos2⟩;have HN8:=hid (HN7.out.step hb8);have y28:=(hb8.cell (p:=⟨g',j*4+2,none⟩) hgly).trans y2;have y08:=(hb8.cell (p:=⟨g',j*4,none⟩) hgly).trans y0;have x08:=(hb8.cell (p:=⟨g',i*4,none⟩) hglx).trans x0;have HE8:=hid (HEY.out.below hb8);have hgl8:g'<w8.heap.size:=Nat.lt_of_lt_of_le hgly hb8.size
  rcases HG.out.entIs HMY.out hpos2 with⟨rfl,hz2⟩|⟨rfl,hz2,_⟩
  rotate_left
  ·have hr:=HR4.out;rw[if_pos hz2] at hr;clear hb8 hpos2 y0 y2 x0 hz2;go_wp2_with fail;refine(z0f _ _).mono ?_;rintro e3 w3 ⟨rfl,rfl⟩;go_wp2_with fail;exact z0b rfl (HN8.out.fail (by rw[←hr];simp) (by rw[←hr]))
  have hr:=HR4.out;rw[if_neg (by rw[hz2];simp),HXN.out,HYN.out] at hr;have HR5:=hid hr;have HNO2:=hid (EnPos.none HREY.out hpos2);clear hr HR4 hb8 hpos2 y0 y2 x0 hz2;go_wp2_with fail;refine(z0h _ _).mono ?_;rintro e3 w3 ⟨rfl,rfl⟩
  by_cases hxy:XN=YN
  ·have q1:(XN==YN)=true:=by rw[beq_iff_eq];exact hxy
   have hr:=HR5.out;rw[if_pos hxy.symm] at hr;have HR6:=hid hr;have hX8:∀(X:Ext w8) (p:Addr),(w8.cell? p).isSome=true→X.w.cell? p=w8.cell? p:=fun X p h=>X.cell p h
   clear hr HR5 hxy;go_wp2_with fail;refine wre ?_
   repeat (go_big_quiet_step (fail))
   refine wpQuiet_nil ?_;rintro w9 ⟨X,rfl⟩;generalize hZ9:X.w=w9;have hb9:Below w8.heap.size w8 w9:=by rw[←hZ9];exact X.bel
   have HN9:=hid (HN8.out.step hb9);have y29:=(hb9.cell (p:=⟨g',j*4+2,none⟩) hgl8).trans y28;have HE9:=hid (HE8.out.below hb9);clear hX8 hZ9 X hb9;go_wp2_with fail;refine(z7a g' (j*4) y.ents Ey my ey NM2 NM w9 y29 HE9.out (by omega) HTX.out hnms).mono ?_;rintro e10 w10 ⟨rfl,hb10⟩;have HN10:=hid (HN9.out.step hb10);obtain⟨FB,hFB⟩:∃FB,decide (4≤fullE y.ents NM2 NM)=FB:=⟨_,rfl⟩;have hr:=HR6.out;rw[hFB] at hr;rw[hFB];have HR7:=hid hr;clear hr hb10 hFB y29
   rcases Bool.eq_false_or_eq_true FB with rfl|rfl
   ·have hr:=HR7.out;rw[if_pos rfl] at hr;go_wp2_with fail;refine(z0f _ _).mono ?_;rintro e3 w3 ⟨rfl,rfl⟩;go_wp2_with fail;exact z0b rfl (HN10.out.fail (by rw[←hr];simp) (by rw[←hr]))
   have hr:=HR7.out;rw[if_neg (by simp)] at hr;obtain⟨y',hy',hrey,hnoy,hly,hset⟩:=zbv HG.out HX.out HY.out NM NM2 EN HNO2.out;rw[←HXN.out,←HYN.out,hset] at hr;have HR8:=hid hr;have hs:=HSZ.out;rw[←hr] at hs;have HS:=hid hs;have HYQ:=hid hy';have HREQ:=hid hrey;have HNOQ:=hid hnoy;have HLYQ:=hid hly;clear hr hs hy' hrey hnoy hset hly;go_wp2_with fail;refine(z0h _ _).mono ?_;rintro e3 w3 ⟨rfl,rfl⟩;go_wp2_with fail;refine(zao B p s zs vI vO vM i x en NM g' n d w10 HN10.out.own HN10.out.hB' HX.out HVI.out HRE.out HEM.out.1 HEM.out.2 (by omega) HSD1.out).mono ?_;rintro e11 w11 ⟨rfl,ht11,zs2,ho11⟩;have HO11:=hid ho11;have HT11:=hid ht11;have hB11:B≤w11.heap.size:=Nat.le_trans HN10.out.hB' ht11.below.size;clear ho11 ht11;go_wp2_with fail;refine(z9h B p _ zs2 vI vO vM j y' NM2 EN g' n d w11 HO11.out hB11 HYQ.out HVI.out HREQ.out HNOQ.out HLYQ.out HS.out).mono ?_
   rintro e12 w12 ⟨rfl,ht12,zs3,ho12⟩;go_wp2_with fail
   go_returns
   exact HN10.out.done (by rw[←HR8.out]) rfl (HT11.out.trans ht12) ⟨zs3,vI,vO,vM,by rw[←HR8.out];exact ho12⟩
  ·have q1:(XN==YN)=false:=by rw[beq_eq_false_iff_ne];exact hxy
   have hr:=HR5.out;rw[if_neg (Ne.symm hxy),show txt []=⟨#[]⟩ from rfl] at hr;have HR6:=hid hr;have hX8:∀(X:Ext w8) (p:Addr),(w8.cell? p).isSome=true→X.w.cell? p=w8.cell? p:=fun X p h=>X.cell p h
   clear hr HR5 hxy;go_wp2_with fail;refine wre ?_
   repeat (go_big_quiet_step (fail))
   refine wpQuiet_nil ?_;rintro w9 ⟨X,rfl⟩;generalize hZ9:X.w=w9;have hb9:Below w8.heap.size w8 w9:=by rw[←hZ9];exact X.bel
   have HN9:=hid (HN8.out.step hb9);have y29:=(hb9.cell (p:=⟨g',j*4+2,none⟩) hgl8).trans y28;have HE9:=hid (HE8.out.below hb9);clear hX8 hZ9 X hb9;go_wp2_with fail;refine(z7a g' (j*4) y.ents Ey my ey NM2 ⟨#[]⟩ w9 y29 HE9.out (by omega) HTX.out hnms).mono ?_;rintro e10 w10 ⟨rfl,hb10⟩;have HN10:=hid (HN9.out.step hb10);obtain⟨FB,hFB⟩:∃FB,decide (4≤fullE y.ents NM2 ⟨#[]⟩)=FB:=⟨_,rfl⟩;have hr:=HR6.out;rw[hFB] at hr;rw[hFB];have HR7:=hid hr;clear hr hb10 hFB y29
   rcases Bool.eq_false_or_eq_true FB with rfl|rfl
   ·have hr:=HR7.out;rw[if_pos rfl] at hr;go_wp2_with fail;refine(z0f _ _).mono ?_;rintro e3 w3 ⟨rfl,rfl⟩;go_wp2_with fail;exact z0b rfl (HN10.out.fail (by rw[←hr];simp) (by rw[←hr]))
   have hr:=HR7.out;rw[if_neg (by simp)] at hr;obtain⟨y',hy',hrey,hnoy,hly,hset⟩:=zbv HG.out HX.out HY.out NM NM2 EN HNO2.out;rw[←HXN.out,←HYN.out,hset] at hr;have HR8:=hid hr;have hs:=HSZ.out;rw[←hr] at hs;have HS:=hid hs;have HYQ:=hid hy';have HREQ:=hid hrey;have HNOQ:=hid hnoy;have HLYQ:=hid hly;clear hr hs hy' hrey hnoy hset hly;go_wp2_with fail;refine(z0h _ _).mono ?_;rintro e3 w3 ⟨rfl,rfl⟩;go_wp2_with fail;refine(zao B p s zs vI vO vM i x en NM g' n d w10 HN10.out.own HN10.out.hB' HX.out HVI.out HRE.out HEM.out.1 HEM.out.2 (by omega) HSD1.out).mono ?_;rintro e11 w11 ⟨rfl,ht11,zs2,ho11⟩;have HO11:=hid ho11;have HT11:=hid ht11;have hB11:B≤w11.heap.size:=Nat.le_trans HN10.out.hB' ht11.below.size;clear ho11 ht11;go_wp2_with fail;refine(z9h B p _ zs2 vI vO vM j y' NM2 EN g' n d w11 HO11.out hB11 HYQ.out HVI.out HREQ.out HNOQ.out HLYQ.out HS.out).mono ?_
   rintro e12 w12 ⟨rfl,ht12,zs3,ho12⟩;go_wp2_with fail
   go_returns
   exact HN10.out.done (by rw[←HR8.out]) rfl (HT11.out.trans ht12) ⟨zs3,vI,vO,vM,by rw[←HR8.out];exact ho12⟩
end Go.Proofs.YtkflaifopbodfaaGreatDoor
