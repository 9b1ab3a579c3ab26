/- Parts of the proof, side by side: MoRemove, MoPlain4, MoThrough. -/
import Derived.Test.YtmmpkfcdfcldlaaGreatM28
import Derived.Test.YtmmpkfcdfcldlaaGreatM30
import Derived.Test.YtmmpkfcdfcldlaaGreatM05
import Derived.Test.YtmmpkfcdfcldlaaGreatM24
set_option linter.unusedVariables false
set_option linter.unusedSimpArgs false
namespace Go.Proofs.YtmmpkfcdfcldlaaGreat
open Lib (hid)
open Go.RowKit
def removeV (s:St) (c:Ca):St×Re:=
 if(parentV s.inos c.path).2.2≠0 then(s,{ code:=(parentV s.inos c.path).2.2 })
 else if entV s.inos (parentV s.inos c.path).1 (parentV s.inos c.path).2.1=0 then(s,{ code:=1 })
 else if c.kind=9∧dirAt s.inos (entV s.inos (parentV s.inos c.path).1 (parentV s.inos c.path).2.1)=true then(s,{ code:=8 })
 else if c.kind=10∧dirAt s.inos (entV s.inos (parentV s.inos c.path).1 (parentV s.inos c.path).2.1)=false then(s,{ code:=7 })
 else if c.kind=10∧entsOf s.inos (entV s.inos (parentV s.inos c.path).1 (parentV s.inos c.path).2.1)≠[] then(s,{ code:=3 })
 else(sweepV { s with inos:=setEnts s.inos (parentV s.inos c.path).1 fun es=>dropE es (parentV s.inos c.path).2.1 } (entV s.inos (parentV s.inos c.path).1 (parentV s.inos c.path).2.1),{})
theorem z3w (s:St) (c:Ca) (hk:c.kind=9∨c.kind=10):namesV s c=removeV s c:=by
 unfold namesV removeV;rw[if_neg (by omega)]
 split
 ·rfl
 ·split
  ·rfl
  ·rw[if_neg (by omega)]
set_option maxRecDepth 100000 in
set_option maxHeartbeats 16000000 in
theorem z9k (B q p:Nat) (s:St) (c:Ca) (zs:List (Ino×Value)) (vI vO vM:Value) (w:World) (hN:Now B q p s c zs vI vO vM w w) (hg:Good s) (hp1:c.path.size≤140737488355328) (hk:c.kind=9∨c.kind=10):
  Calls Tryz.prog 76 #[.pointer (some ⟨q,0,.none⟩)] w (Ran B q p c (removeV s c) w):=by
 obtain⟨R,hR⟩:∃R,removeV s c=R:=⟨_,rfl⟩;have hsz:=z5r hg c;rw[z3w s c hk] at hsz;have hsd:=(Small.dropE hg.small (parentV s.inos c.path).1 (parentV s.inos c.path).2.1).sized (by omega) (by omega) (by omega);rw[hR] at hsz ⊢;unfold removeV at hR;have HR:=hid hR;have HSZ:=hid hsz;have HSD:=hid hsd;have HN0:=hid hN;have HG:=hid hg;have d6:=hN.doer.c6;clear hR hN hg hsz hsd
 go_enter Tryz.func76,Tryz.ntmps76
 go_wp2_with fail;refine(z2r B q p s c 0 0 false ⟨#[]⟩ (.slice none 0 0) zs vI vO vM c.path w HN0.out.doer HN0.out.own HG.out hp1).mono ?_;rintro e1 w1 ⟨hb1,⟨hc,rfl⟩|⟨hc,g,n,d,i,x,hvI,hx,hxn,hxd,rfl⟩⟩
 ·have hr:=HR.out;rw[if_pos hc] at hr
  go_simp
  exact z0b rfl ((HN0.out.step hb1).fail (by rw[←hr];exact hc) (by rw[←hr]))
 obtain⟨NM,hNM⟩:∃NM,(parentV s.inos c.path).2.1=NM:=⟨_,rfl⟩;have hat:=HG.out.at_ hx hxn;have hr:=HR.out;rw[if_neg (by rw[hc];simp),hNM,z5s hat hx,z1h hat hx] at hr;have hsd:=HSD.out;rw[hNM,z1h hat hx] at hsd;rw[hNM];have HR1:=hid hr;have HSD1:=hid hsd;have HN1:=hid (HN0.out.step hb1);have hmem:=List.mem_of_getElem? hx;have hlen:x.ents.length≤32:=HG.out.ents_len hmem;have HX:=hid hx;have HRE:=hid (HG.out.riseE hmem);have HMEM:=hid hmem;obtain⟨EN,hEN⟩:∃EN,entG x.ents NM=EN:=⟨_,rfl⟩;have HEN:=hid hEN;clear hr hsd hb1 d6 hat HR HSD hmem hNM hc hEN
 by_cases hz:EN=0
 ·have hr:=HR1.out;rw[HEN.out,if_pos hz] at hr;have hno:=z9f x.ents NM (fun e he=>(HG.out.entNum HMEM.out he).1) (by rw[HEN.out,hz]);go_wp2_with fail;refine(zk0 B p s zs vI vO vM i x NM g n d w1 HN1.out.own HX.out hvI HRE.out hno (by omega)).mono ?_;rintro e2 w2 ⟨rfl,hb2⟩
  go_simp
  exact z0b rfl ((HN1.out.step hb2).fail (by rw[←hr];simp) (by rw[←hr]))
 have hr:=HR1.out;rw[HEN.out,if_neg hz] at hr;have HR2:=hid hr;obtain⟨j,en,hj,hjn,hje⟩:=z9g x.ents NM (by rw[HEN.out];exact hz);rw[HEN.out] at hje;have hem:=List.mem_of_getElem? hj;obtain⟨k,y,hk0,hy,hyn,hatk⟩:=HG.out.ent HX.out hxd hem;have hki:=HG.out.ent_ne HX.out hxd hem hy hyn;have hyE:y.num=EN:=by rw[hyn,hje]
 rw[hje] at hatk;rw[z3v hatk hy,zck hatk hy] at hr;have HR3:=hid hr;have hpos:=EnPos.of_name HRE.out hj hjn;have HPOS:=hid hpos;have HJ:=hid hj;have HY:=hid hy;have HYN:=hid hyn;have HYE:=hid hyE;have HJE:=hid hje;have HKI:=hid hki;clear hr HR1 HR2 hpos hatk hyn hyE hje hki;go_wp2_with fail;refine(z9e B p s zs vI vO vM i x en NM g n d w1 HN1.out.own HN1.out.hB' HX.out hvI HRE.out hem hjn (by omega) HSD1.out).mono ?_;rintro e2 w2 ⟨rfl,ht2,zs2,ho2⟩;rw[HEN.out];obtain⟨S2,hS2⟩:∃S2:St,({ s with inos:=s.inos.set i { x with ents:=dropE x.ents NM } }:St)=S2:=⟨_,rfl⟩;rw[hS2] at ho2;have hri:RiseI S2.inos:=by rw[←hS2];exact HG.out.riseI.set HX.out rfl
 have hy2:S2.inos[k]? =some y:=by rw[←hS2];show(s.inos.set i _)[k]? =_;rw[z6x HKI.out];exact HY.out
 have hat2:atV S2.inos EN=(k:Int):=by rw[←HYE.out];exact z1j hri hy2 rfl
 have hD2:=HN1.out.doer.turns HN1.out.ne ht2;have hB2:B≤w2.heap.size:=Nat.le_trans HN1.out.hB' ht2.below.size;have d02:=hD2.c0;have d12:=hD2.c1;have s02:=ho2.s0;obtain⟨g2,c2,E2,m2,e2,hv2,hz2,hgl2,_,hkl2,y0,y1,y2,_,_,_,hE2⟩:=ho2.at_ hy2;have hgg:g2=g:=by rw[hvI] at hv2;injection hv2 with e1 _ _;injection e1 with e1;injection e1 with e1;exact e1.symm
 subst hgg;rw[hvI] at s02;have hnl:n=S2.inos.length:=by rw[hvI] at hv2;injection hv2 with _ e1 _
 have HHS2:=hid hS2;have HML:=hid hE2.1;have HNL:=hid hnl;have HO2:=hid ho2;have HD2:=hid hD2;have HT2:=hid ht2;have HRI:=hid hri;have HY2:=hid hy2;have HAT2:=hid hat2;have hq2:=hD2.lt;have hp2:=ho2.lt;clear hS2 ho2 ht2 hri hy2 hat2 hD2 hv2 hz2 hE2;go_wp2_with fail;refine(z1r p S2 EN w2 HO2.out.ptr HRI.out).mono ?_;rintro e3 w3 ⟨rfl,hb3⟩;rw[HAT2.out];have d03:=(hb3.cell (p:=⟨q,0,none⟩) hq2).trans d02;have d13:=(hb3.cell (p:=⟨q,1,none⟩) hq2).trans d12;have s03:=(hb3.cell (p:=⟨p,0,none⟩) hp2).trans s02;have y13:=(hb3.cell (p:=⟨g2,k*4+1,none⟩) hgl2).trans y1;have y23:=(hb3.cell (p:=⟨g2,k*4+2,none⟩) hgl2).trans y2;have HO3:=hid (HO2.out.below hb3);have HD3:=hid (HD2.out.below hb3);have hB3:B≤w3.heap.size:=Nat.le_trans hB2 hb3.size;have HT3:=hid (HT2.out.trans (Turns.of_below (B:=B) (p:=p) hb3 hB2));have k0:(0:Int)≤(k:Int):=by omega
 have k1:(k:Int)<(n:Int):=by omega
 have hq3:=HD3.out.lt;have hp3:=HO3.out.lt;clear hb3 d02 d12 s02 y0 y1 y2;have hfail:∀(C:Int) (hc:C≠0) (h:R=(s,{ code:=C })),Ran B q p c R w (.panicked (faultP C)) w3:=fun C hc h=>⟨HN1.out.low.trans HT3.out.below,.inl ⟨by rw[h];exact hc,by rw[h]⟩⟩
 have HFAIL:=hid hfail;clear hfail
 rcases hk with hk|hk
 ·rw[hk] at d13;cases hyd:y.dir;rotate_left
  ·have hr:=HR3.out;rw[if_pos ⟨hk,hyd⟩] at hr;rw[hyd] at y13;go_wp2_with fail;refine(z0g _ _).mono ?_;rintro e4 w4 ⟨rfl,rfl⟩;go_wp2_with fail;exact z0b rfl (HFAIL.out 8 (by decide) hr.symm)
  have hr:=HR3.out;rw[if_neg (by rw[hyd];simp),if_neg (by rw[hk];simp),if_neg (by rw[hk];simp),HHS2.out] at hr;have hs:=HSZ.out;rw[←hr] at hs;have hsx:Sized (sweepV S2 y.num):=by rw[HYE.out];exact hs
  have HSX:=hid hsx;have HR4:=hid hr;have HYD:=hid hyd;rw[hyd] at y13;clear hr hs hsx hyd y23;go_wp2_with fail;refine(z0j _ _).mono ?_;rintro e4 w4 ⟨rfl,rfl⟩;go_wp2_with fail;have htid:=zcl B q p S2 c 0 0 false ⟨#[]⟩ (.slice none 0 0) zs2 vI vO vM k y w3 HD3.out HO3.out hB3 HRI.out HY2.out HYD.out HSX.out;rw[HYE.out] at htid;refine htid.mono ?_;rintro e5 w5 ⟨rfl,ht5,zs5,vI5,ho5⟩;go_wp2_with fail
  go_returns
  exact HN1.out.done (by rw[←HR4.out]) rfl (HT3.out.trans ht5) ⟨zs5,vI5,vO,vM,by rw[←HR4.out];exact ho5⟩
 ·rw[hk] at d13;cases hyd:y.dir
  ·have hr:=HR3.out;rw[if_neg (by rw[hk];simp),if_pos ⟨hk,hyd⟩] at hr;rw[hyd] at y13;go_wp2_with fail;refine(z0g _ _).mono ?_;rintro e4 w4 ⟨rfl,rfl⟩;go_wp2_with fail;exact z0b rfl (HFAIL.out 7 (by decide) hr.symm)
  have hr:=HR3.out;rw[if_neg (by rw[hk];simp),if_neg (by rw[hyd];simp)] at hr;have HR4:=hid hr;have HYD:=hid hyd;rw[hyd] at y13;clear hr hyd
  by_cases hm0:m2=0
  rotate_left
  ·have hr:=HR4.out;rw[if_pos ⟨hk,fun h=>hm0 (by rw[←HML.out,h];rfl)⟩] at hr;have hm1:decide ((0:Int)<(m2:Int))=true:=by rw[decide_eq_true_eq];omega
   have hm3:0<m2:=by omega
   go_wp2_with fail;refine(z0j _ _).mono ?_;rintro e4 w4 ⟨rfl,rfl⟩;go_wp2_with fail;refine(z0g _ _).mono ?_;rintro e4 w4 ⟨rfl,rfl⟩;go_wp2_with fail;exact z0b rfl (HFAIL.out 3 (by decide) hr.symm)
  subst hm0;have hr:=HR4.out;have hnil:y.ents=[]:=List.length_eq_zero_iff.1 HML.out;rw[if_neg (fun h=>h.2 hnil)] at hr;have hrm:=HG.out.rmdir HX.out hxd HPOS.out HJ.out HY.out HYN.out HYD.out;rw[HJE.out] at hrm;rw[hrm] at hr
  have hdp:dropI S2.inos EN=(zs2.take k++zs2.drop (k+1)).map Prod.fst:=by
   have h:=z8z S2.inos k y HRI.out HY2.out;rw[HYE.out] at h;rw[h,List.map_append,List.map_take,List.map_drop,HO2.out.inos]
  have hr2:({ S2 with inos:=(zs2.take k++zs2.drop (k+1)).map Prod.fst },{})=R:=by
   rw[←hr,←hdp,←HHS2.out]
  have hs:=HSZ.out;rw[←hr2] at hs;have HS:=hid hs;have HRF:=hid hr2;have hzl:zs2.length=n:=by rw[HNL.out,←HO2.out.inos,List.length_map]
  have HZL:=hid hzl;have hkz:k<n:=by omega
  have hrow:RowAt B w3 59 4 (.slice (some ⟨g2,0,none⟩) n d) n (zs2.flatMap inoV):=by
   have h:=HO3.out.rowI
   rwa [hzl,hvI] at h
  have HROW:Hid (RowAt B w3.drew 59 4 (.slice (some ⟨g2,0,none⟩) n d) n (zs2.flatMap inoV)):=hrow;have fp:∀j,w3.frozen? ⟨p,j,none⟩=false:=fun j=>frozen_of_row w3 p j _ _ HO3.out.cell
  have hone:=ze2 zs2 HO3.out.shape
  have hnQ:some q≠rowBlk (.slice (some ⟨g2,0,none⟩) n d):=fun e=>by
   rw[←hvI] at e;obtain⟨c1,h1⟩:=HO3.out.bI e.symm;exact z0k HD3.out.cell h1 (by decide) rfl
  have hnP:some p≠rowBlk (.slice (some ⟨g2,0,none⟩) n d):=fun e=>by
   rw[←hvI] at e;obtain⟨c1,h1⟩:=HO3.out.bI e.symm;exact z0k HO3.out.cell h1 (by decide) rfl
  have kw:IntKind.i64.wrap ((k:Int)+1)=(k:Int)+1:=by
   have:=HO3.out.sized.big;have:=HNL.out;rw[IntKind.wrap_i64];omega
  have HVI:=hid hvI;clear hr hrm hdp hr2 hs hzl hrow hvI hnil hnl HR4 HFAIL HSD1 HRE HMEM HPOS HY HKI HEN HX HAT2 HY2 HRI HD2 HYN HJ HJE;go_wp2_with fail;refine(z0j _ _).mono ?_;rintro e4 w4 ⟨rfl,rfl⟩;go_wp2_with fail;refine(z0j _ _).mono ?_;rintro e4 w4 ⟨rfl,rfl⟩;go_wp2_with fail
  go_region_with (first
   | (go_at_call 114;(refine(zfc B n k (.slice (some ⟨g2,0,none⟩) n d) (zs2.flatMap inoV) w3.drew HROW.out hkz hone).mono ?_;rintro e6 w6 ⟨v',rfl,hrow',hgr,hbl⟩;obtain⟨A',c9,rfl,hok'⟩:=hrow'.slice;have q6:w6.cell? ⟨q,0,none⟩=some (.pointer (some ⟨p,0,none⟩)):=(World.cell?_of_block (a:=⟨q,0,none⟩) (hgr.block q hq3 hnQ)).trans d03;have p6:w6.cell? ⟨p,0,none⟩=some (.slice (some ⟨g2,0,none⟩) n d):=(World.cell?_of_block (a:=⟨p,0,none⟩) (hgr.block p hp3 hnP)).trans s03;have f6:w6.frozen? ⟨p,0,none⟩=false:=(World.frozen?_of_block (a:=⟨p,0,none⟩) (hgr.block p hp3 hnP)).trans (fp 0))))
  all_goals (
   have hflat:(zs2.flatMap inoV).take (k*4)++(zs2.flatMap inoV).drop ((k+1)*4)=(zs2.take k++zs2.drop (k+1)).flatMap inoV:=by
    rw[z1t inoV 4 (fun _=>rfl),z1u inoV 4 (fun _=>rfl),List.flatMap_append]
   have hpl:(zs2.take k++zs2.drop (k+1)).length=n-1:=by rw[List.length_append,List.length_take,List.length_drop,HZL.out];omega
   rw[hflat,←hpl] at hrow';have hgr2:=z3u hgr;rw[←HVI.out] at hgr2;have hfin:=HO3.out.setI hB3 hgr2 hrow' (fun y hy=>HO3.out.ents y (by rcases List.mem_append.1 hy with h|h;exact List.mem_of_mem_take h;exact List.mem_of_mem_drop h)) (HO3.out.apart.take_drop k) HS.out;rw[hpl] at hfin;have HFIN:=hid hfin;clear hfin hrow' hgr hgr2 hbl hflat;go_wp2_with fail
   go_returns
   exact HN1.out.done (by rw[←HRF.out]) rfl (HT3.out.trans HFIN.out.2) ⟨_,_,vO,vM,by rw[←HRF.out];exact HFIN.out.1⟩)
end Go.Proofs.YtmmpkfcdfcldlaaGreat
namespace Go.Proofs.YtmmpkfcdfcldlaaGreat
open Lib (hid)
theorem z6y {is:List Ino}:∀(ns:List (List UInt8)) (n:List UInt8) (t:Int),(walkG is (ns++[n]) t).2=0→0≤atV is t→Whole is→(walkG is ns t).2=0∧∃(i:Nat) (x:Ino) (e:En),atV is (walkG is ns t).1=(i:Int)∧is[i]? =some x∧x.num=(walkG is ns t).1∧x.dir=true∧e∈x.ents∧e.num=(walkG is (ns++[n]) t).1
 | [], n, t, h, ht, hw => by
  obtain⟨i,x,h1,h2,h3⟩:=z0r ht;rw[List.nil_append] at h ⊢;unfold walkG at h ⊢;rw[h1,z0c,h2] at h ⊢;simp only at h ⊢
  by_cases hd:x.dir=false
  ·rw[if_pos hd] at h;cases h
  ·rw[if_neg hd] at h ⊢
   by_cases he:entV is t (txt n)=0
   ·rw[if_pos he] at h;cases h
   ·rw[if_neg he];refine⟨by first|rfl|trivial,i,x,?_⟩;have he2:=z5s h1 h2 (txt n);rw[he2] at he;obtain⟨j,e,hj,_,hn⟩:=z9g x.ents (txt n) he;refine⟨e,by first|exact h1|rfl,h2,h3,by cases hdd:x.dir<;>simp_all,List.mem_of_getElem? hj,?_⟩
    show e.num=entV is t (txt n);rw[he2,hn]
 | m :: ns, n, t, h, ht, hw => by
  obtain⟨i,x,h1,h2,h3⟩:=z0r ht;rw[List.cons_append] at h ⊢;unfold walkG at h ⊢;rw[h1,z0c,h2] at h ⊢;simp only at h ⊢
  by_cases hd:x.dir=false
  ·rw[if_pos hd] at h;cases h
  ·rw[if_neg hd] at h ⊢
   by_cases he:entV is t (txt m)=0
   ·rw[if_pos he] at h;cases h
   ·rw[if_neg he] at h ⊢;rw[if_neg hd,if_neg he];exact z6y ns n _ h (z2i hw he) hw
def stepP (is:List Ino) (NS:List (List UInt8)) (r:Nat):Int:=(walkG is (NS.take r) 1).1
def throughV (is:List Ino) (NS:List (List UInt8)) (num:Int):Bool:=(List.range NS.length).any fun r=>stepP is NS r==num
theorem z5u {s:St} (h:Good s) {NS:List (List UInt8)}:∀(k r:Nat),r+k=NS.length-1→(walkG s.inos NS.dropLast 1).2=0→(walkG s.inos (NS.take r) 1).2=0
 | 0,r,hr,hc=>by
  rw[show r=NS.length-1 by omega,←List.dropLast_eq_take];exact hc
 | k+1,r,hr,hc=>by
  have ih:=z5u h k (r+1) (by omega) hc;rw[List.take_add_one,List.getElem?_eq_getElem (show r<NS.length by omega)] at ih;exact(z6y _ _ _ ih (by rw[h.root_at];omega) h.whole).1
theorem z6e {s:St} (h:Good s) {NS:List (List UInt8)} (hc:(walkG s.inos NS.dropLast 1).2=0) {r:Nat} (hr:r+1≤NS.length-1):∃(i:Nat) (x:Ino) (e:En),s.inos[i]? =some x∧x.num=stepP s.inos NS r∧x.dir=true∧e∈x.ents∧e.num=stepP s.inos NS (r+1):=by
 have h1:=z5u h (NS.length-1-(r+1)) (r+1) (by omega) hc;have h0:=h1;rw[List.take_add_one,List.getElem?_eq_getElem (show r<NS.length by omega)] at h1;obtain⟨_,i,x,e,a1,a2,a3,a4,a5,a6⟩:=z6y _ _ _ h1 (by rw[h.root_at];omega) h.whole;refine⟨i,x,e,a2,a3,a4,a5,?_⟩;rw[a6];unfold stepP;rw[List.take_add_one,List.getElem?_eq_getElem (show r<NS.length by omega)]
 rfl
theorem z7k {is:List Ino} {dir:Int}:∀(n:Nat) (top:Int),withinF is dir n top=true→withinF is dir (n+1) top=true
 | 0,top,h=>by cases h
 | n + 1, top, h => by
  unfold withinF at h ⊢
  by_cases hd:dir=top
  ·rw[if_pos hd]
  ·rw[if_neg hd] at h ⊢;cases hx:inoAt is (atV is top) with
   | none=>rw[hx] at h;cases h
   | some x=>
    rw[hx] at h;simp only[List.any_eq_true,Bool.and_eq_true] at h ⊢;obtain⟨e,h1,h2,h3⟩:=h;exact⟨e,h1,h2,z7k n _ h3⟩
theorem zgn {is:List Ino} {dir top:Int} {n m:Nat} (h:withinF is dir n top=true) (hm:n≤m):withinF is dir m top=true:=by
 obtain⟨k,rfl⟩:∃k,m=n+k:=⟨m-n,by omega⟩;clear hm
 induction k with
 | zero=>exact h
 | succ k ih=>exact z7k _ _ ih
theorem z9l {s:St} (h:Good s) {NS:List (List UInt8)} (hc:(walkG s.inos NS.dropLast 1).2=0) {dir:Int} (hdir:stepP s.inos NS (NS.length-1)=dir):∀(n:Nat) (top:Int),withinF s.inos dir n top=true→∃r,r≤NS.length-1∧stepP s.inos NS r=top
 | 0,top,hw=>by cases hw
 | n + 1, top, hw => by
  unfold withinF at hw
  by_cases hd:dir=top
  ·exact⟨NS.length-1,Nat.le_refl _,by rw[hdir,hd]⟩
  ·rw [if_neg hd] at hw;cases hx : inoAt s.inos (atV s.inos top) with
   | none=>rw[hx] at hw;cases hw
   | some x =>
    rw[hx] at hw;simp only[List.any_eq_true,Bool.and_eq_true] at hw;obtain⟨e,he,hed,hwe⟩:=hw;obtain⟨i,hi,hix⟩:=z4n hx
    have hxn:x.num=top:=by
     rcases z0u s.inos top with⟨h1,_⟩|⟨k,y,h1,h2,h3,_⟩
     ·rw[h1] at hi;omega
     ·rw[h1] at hi;have:k=i:=by omega
      subst this;rw[h2] at hix;cases hix;exact h3
    have hxd:x.dir=true:=by
     cases hd2:x.dir
     ·rw[(h.files x (List.mem_of_getElem? hix) hd2).1] at he;simp at he
     ·rfl
    obtain⟨j,z,hj,hz,hzn,hat⟩:=h.ent hix hxd he
    have hzd:z.dir=true:=by
     unfold dirAt at hed;rw[hat,z0c,hz] at hed;exact hed
    obtain⟨r,hr,hrs⟩:=z9l h hc hdir n e.num hwe;cases r with
    | zero=>
     have h1:stepP s.inos NS 0=1:=by unfold stepP;rw[List.take_zero];rfl
     rw[h1] at hrs;have h2:=h.root_at;rw[hrs,hat] at h2;omega
    | succ r=>
     obtain⟨i2,y,e2,hy,hyn,hyd,he2,hen⟩:=z6e h hc hr;have:=h.parent hj hz hzd hix hxd he hzn.symm hy hyd he2 (by rw[hen,hrs,hzn]);subst this;rw[hix] at hy;cases hy;exact⟨r,by omega,by rw[←hyn,hxn]⟩
theorem z9m {s:St} (h:Good s) {NS:List (List UInt8)} (hc:(walkG s.inos NS.dropLast 1).2=0) {dir:Int} (hdir:stepP s.inos NS (NS.length-1)=dir) (hdd:dirAt s.inos dir=true):∀(k r:Nat),r+k=NS.length-1→withinF s.inos dir (k+1) (stepP s.inos NS r)=true
 | 0,r,hr=>by
  unfold withinF;rw[if_pos (by rw[←hdir,show r=NS.length-1 by omega])]
 | k + 1, r, hr => by
  have ih:=z9m h hc hdir hdd k (r+1) (by omega);obtain⟨i,x,e,hx,hxn,hxd,he,hen⟩:=z6e h hc (r:=r) (by omega);unfold withinF
  by_cases hd:dir=stepP s.inos NS r
  ·rw[if_pos hd]
  ·rw[if_neg hd,←hxn,h.idx hx,z0c,hx];simp only[List.any_eq_true,Bool.and_eq_true];refine⟨e,he,?_,by rw[hen];exact ih⟩;rw[hen]
   by_cases hl:r+1=NS.length-1
   ·rw[hl,hdir];exact hdd
   ·obtain⟨i2,y,_,hy,hyn,hyd,_⟩:=z6e h hc (r:=r+1) (by omega);rw[←hyn];unfold dirAt;rw[h.idx hy,z0c,hy];exact hyd
theorem zfi {s:St} (h:Good s) {NS:List (List UInt8)} (hc:(walkG s.inos NS.dropLast 1).2=0):∀(r:Nat),r≤NS.length-1→∃(i:Nat) (x:Ino),s.inos[i]? =some x∧x.num=stepP s.inos NS r∧Lev s.inos r i
 | 0,_=>by
  obtain⟨x,hx,hn,_⟩:=h.root;exact⟨0,x,hx,hn,Lev.root⟩
 | r + 1, hr => by
  obtain⟨i,x,hx,hxn,hl⟩:=zfi h hc r (by omega);obtain⟨i2,y,e,hy,hyn,hyd,he,hen⟩:=z6e h hc hr
  have:i=i2:=by
   have h1:=h.idx hx;have h2:=h.idx hy;rw[hxn] at h1;rw[hyn,h1] at h2;omega
  subst this;obtain⟨j,z,hj,hz,hzn,hat⟩:=h.ent hy hyd he;exact⟨j,z,hz,by rw[hzn,hen],Lev.step hl hy hyd he hat⟩
theorem z9t {s:St} (h:Good s) {NS:List (List UInt8)} (hc:(walkG s.inos NS.dropLast 1).2=0) (hne:NS≠[]) (hdd:dirAt s.inos (walkG s.inos NS.dropLast 1).1=true) (num:Int):throughV s.inos NS num=withinV s.inos (walkG s.inos NS.dropLast 1).1 num:=by
 have hdir:stepP s.inos NS (NS.length-1)=(walkG s.inos NS.dropLast 1).1:=by unfold stepP;rw[List.dropLast_eq_take]
 have hl:0<NS.length:=List.length_pos_iff.2 hne;rw[Bool.eq_iff_iff];unfold throughV withinV;rw[List.any_eq_true]
 constructor
 ·rintro⟨r,hr,he⟩;rw[List.mem_range] at hr;rw[beq_iff_eq] at he;have h1:=z9m h hc hdir hdd (NS.length-1-r) r (by omega);rw[he] at h1;refine zgn h1 ?_;obtain⟨i,x,hx,hxn,hlev⟩:=zfi h hc (NS.length-1) (Nat.le_refl _);rw[hdir] at hxn
  have hxd:x.dir=true:=by
   unfold dirAt at hdd;rw[←hxn,h.idx hx,z0c,hx] at hdd;exact hdd
  obtain⟨l,hw,hll⟩:=h.way _ i x hlev hx hxd;have:=z2q s.inos.length l hw.nodup hw.lt;omega
 ·intro hw;obtain⟨r,hr,he⟩:=z9l h hc hdir _ _ hw;exact⟨r,List.mem_range.2 (by omega),by rw[beq_iff_eq];exact he⟩
theorem zgo {is:List Ino} {path:ByteArray} (h:(parentV is path).2.2=0):(parseL path.data.toList).2=0∧(parseL path.data.toList).1≠[]∧(walkG is (parseL path.data.toList).1.dropLast 1).2=0∧dirAt is (walkG is (parseL path.data.toList).1.dropLast 1).1=true∧(parentV is path).1=(walkG is (parseL path.data.toList).1.dropLast 1).1:=by
 have hcp:(parseL path.data.toList).2≠0→codeP (parseL path.data.toList).2≠0:=fun h=>by unfold codeP;rw[if_neg h];split<;>decide
 unfold parentV at h ⊢
 by_cases h1:(parseL path.data.toList).2≠0
 ·rw[if_pos h1] at h;exact absurd h (hcp h1)
 ·rw[if_neg h1] at h ⊢
  by_cases h2:(parseL path.data.toList).1=[]
  ·rw[if_pos h2] at h;cases h
  ·rw[if_neg h2] at h ⊢
   by_cases h3:(walkG is (parseL path.data.toList).1.dropLast 1).2≠0
   ·rw[if_pos h3] at h;exact absurd h h3
   ·rw[if_neg h3] at h ⊢
    by_cases h4:dirAt is (walkG is (parseL path.data.toList).1.dropLast 1).1=false
    ·rw[if_pos h4] at h;cases h
    ·rw[if_neg h4];exact⟨by omega,h2,by omega,by simpa using h4,rfl⟩
end Go.Proofs.YtmmpkfcdfcldlaaGreat
namespace Go.Proofs.YtmmpkfcdfcldlaaGreat
open Lib (hid)
open Go.RowKit
theorem NmAt.take {w:World} {A:Option Addr} {n:Nat} {ts:List (List UInt8)} (h:NmAt w A n ts) {r:Nat} (hr:r≤n):NmAt w A r (ts.take r):=by
 refine⟨by rw[List.length_take,h.1];omega,fun h0=>?_⟩;obtain⟨g,off,hA,hg,hc⟩:=h.2 (by omega);refine⟨g,off,hA,hg,fun j hj=>?_⟩;rw[hc j (by omega)]
 congr 2
 rw[List.getD_eq_getElem?_getD,List.getD_eq_getElem?_getD,List.getElem?_take,if_pos hj]
set_option maxRecDepth 100000 in
set_option maxHeartbeats 8000000 in
theorem zcq (B q p:Nat) (s:St) (c:Ca) (fd num:Int) (dir:Bool) (data:ByteArray) (nv:Value) (zs:List (Ino×Value)) (vI vO vM:Value) (path:ByteArray) (NS:List (List UInt8)) (NU:Int) (w:World) (hD:DoerAt w q p c fd num dir data nv) (hO:Own2 B w p s zs vI vO vM) (hg:Good s) (hs:path.size≤140737488355328) (h0:(parseL path.data.toList).2=0) (hNS:(parseL path.data.toList).1=NS) (hc:(walkG s.inos NS.dropLast 1).2=0):
  Calls Tryz.prog 120 #[.pointer (some ⟨q,0,.none⟩),.string path,.int .i64 NU] w fun e w'=>e=.returned (.bool (throughV s.inos NS NU))∧Below w.heap.size w w':=by
 have hq:=hD.lt;have d0:=hD.c0;have hlen:NS.length≤4:=by rw[←hNS];exact z3b _
 obtain⟨TV,hTV⟩:∃TV,throughV s.inos NS NU=TV:=⟨_,rfl⟩;rw[hTV];have HTV:=hid hTV;have HO:=hid hO;have HG:=hid hg;have HNS:=hid hNS;have HC:=hid hc;obtain⟨m,hm⟩:∃m,NS.length=m:=⟨_,rfl⟩;have HM:=hid hm;have hm4:m≤4:=by omega
 have hp:=hO.lt;clear hO hg hD hTV hNS hc hlen hm
 go_enter Tryz.func120,Tryz.ntmps120
 go_wp2_with fail;refine(z6c path _ hs h0).mono ?_;rintro e5 w5 ⟨A5,c5,rfl,hc5,hn5,hb5⟩;rw[HNS.out] at hc5 hn5 ⊢;rw[HM.out] at hc5 hn5 ⊢;have HB5:=hid hb5;have HO5:=hid (HO.out.below hb5);have d5:=(hb5.cell (p:=⟨q,0,none⟩) hq).trans d0;have hq5:q<w5.heap.size:=Nat.lt_of_lt_of_le hq hb5.size;have hp5:=HO5.out.lt;have HN5:=hid hn5;clear hb5 hn5 d0;go_wp2_with fail
 go_loopw [15] (fun j wr=>∃r:Nat,j=.int .i64 r∧r≤m∧Below w5.heap.size w5 wr∧∀r',r'<r→stepP s.inos NS r'≠NU) (fun j _=>m-(intOf j).toNat)
 case atStart=>exact⟨0,rfl,by omega,Below.refl _ _,fun r' h=>by omega⟩
 case round=>
  obtain⟨r,rfl,hr,hbel,hno⟩:=hrel;have HB:=hid hbel;have HNO:=hid hno;have dr:=(hbel.cell (p:=⟨q,0,none⟩) hq5).trans d5;have HOr:=hid (HO5.out.below hbel);have HNr:=hid (HN5.out.below hbel);have hqr:q<wr.heap.size:=Nat.lt_of_lt_of_le hq5 hbel.size;clear hbel hno
  by_cases hlt:r<m
  ·have hcr:=z5u HG.out (NS:=NS) (NS.length-1-r) r (by have:=HM.out;omega) HC.out;have hpl:=z6w HG.out (NS.take r) hcr;obtain⟨i,x,hk,hx,hxn⟩:=hpl;obtain⟨KP,hKP⟩:∃KP,placeG s.inos (walkG s.inos (NS.take r) 1)=KP:=⟨_,rfl⟩;have HK:=hid hKP;have HCR:=hid hcr;have HX:=hid hx;have hki:KP=(i:Int):=by rw[←hKP,hk]
   have hxs:x.num=stepP s.inos NS r:=hxn;have HXS:=hid hxs;have HKI:=hid hki;have HTK:=hid (HNr.out.take (r:=r) (by omega));have r0:(0:Int)≤(r:Int):=by omega
   have r1:(r:Int)≤(c5:Int):=by omega
   have r2:r≤c5:=by omega
   have r3:(r:Int)<(m:Int):=by omega
   have hnn:A5≠none:=fun h=>by
    obtain⟨g,off,hA,_⟩:=HNr.out.2 (by omega);rw[h] at hA;cases hA
   obtain⟨ad,rfl⟩:∃ad,A5=some ad:=by
    cases A5 with
    | none=>exact absurd rfl hnn
    | some ad=>exact⟨ad,rfl⟩
   obtain⟨gA,oA,sA⟩:=ad;clear hcr hk hx hKP hki hxs hxn hnn;go_wp2_with fail
   go_region_held3 (fun w'=>w'.cell? ⟨q,0,none⟩=some (.pointer (some ⟨p,0,none⟩)))
    (first|go_keep|(rw[hb6.cell (by simp;omega)];simp[*]))
    (first
     | (go_at_call 59;refine(z6b p s (some ⟨gA,oA,sA⟩) r c5 (NS.take r) _ (HOr.out.ptr.below (Cv.drewN_below (Below.refl _ _) 1)) HG.out (HTK.out.below (Cv.drewN_below (Below.refl _ _) 1)) (by omega)).mono ?_;rintro e6 w6 ⟨rfl,hb6,_⟩;rw[HK.out,HCR.out]))
   have hb7:Below wr.heap.size wr w6:=Cv.next (Cv.drewN_below (Below.refl _ _) 1) hb6;have HB7:=hid (Cv.next HB.out hb7);have HO7:=hid (HOr.out.below hb7);have d7:=(hb7.cell (p:=⟨q,0,none⟩) hqr).trans dr;have p7:=HO7.out.s0;obtain⟨g,cc,E,m2,d2,hv,_,hgl,_,hil,x0,_⟩:=HO7.out.at_ HX.out;rw[hv] at p7;rw[HKI.out];have i0:(0:Int)≤(i:Int):=by omega
   have i1:(i:Int)<(s.inos.length:Int):=by omega
   clear hb6 hb7 hv
   by_cases he:x.num=NU
   ·have qe:(x.num==NU)=true:=by rw[beq_iff_eq];exact he
    have ht:TV=true:=by
     rw[←HTV.out];unfold throughV;rw[List.any_eq_true];exact⟨r,List.mem_range.2 (by have:=HM.out;omega),by rw[←HXS.out];exact qe⟩
    subst ht;clear he;go_wp2_with fail;go_ret;exact⟨rfl,Cv.next HB5.out HB7.out⟩
   ·have qe:(x.num==NU)=false:=by rw[beq_eq_false_iff_ne];exact he
    have HE:=hid he;clear he;go_wp2_with fail;go_roundw
    case rel=>exact⟨r+1,by go_num,by omega,HB7.out,fun r' hr'=>by
     by_cases e:r'=r
     ·rw[e,←HXS.out];exact HE.out
     ·exact HNO.out r' (by omega)⟩
    case measure=>simp[intOf];omega
  ·have hrm:r=m:=by omega
   subst hrm
   have hf:TV=false:=by
    rw[←HTV.out];unfold throughV;rw[Bool.eq_false_iff];intro h;rw[List.any_eq_true] at h;obtain⟨r',h1,h2⟩:=h;rw[List.mem_range] at h1;rw[beq_iff_eq] at h2;exact HNO.out r' (by have:=HM.out;omega) h2
   subst hf;have q9:decide ((r:Int)<(r:Int))=false:=by rw[decide_eq_false_iff_not];omega
   go_wp2_with fail;go_ret;exact⟨rfl,Cv.next HB5.out HB.out⟩
end Go.Proofs.YtmmpkfcdfcldlaaGreat
