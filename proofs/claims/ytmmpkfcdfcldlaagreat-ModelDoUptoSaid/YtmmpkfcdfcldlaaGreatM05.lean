/- Parts of the proof, side by side: FsPut, FsDrop, NameHash, RefHash. -/
import Derived.Test.YtmmpkfcdfcldlaaGreatM04
import Derived.Test.YtmmpkfcdfcldlaaGreatM01
import Derived.Handy
import Derived.Test.YtmmpkfcdfcldlaaGreatM03
set_option linter.unusedVariables false
set_option linter.unusedSimpArgs false
namespace Go.Proofs.YtmmpkfcdfcldlaaGreat
open Lib (hid)
open Go.RowKit
theorem zkc:(Tryz.prog.info? 73).map (fun i=>(i.zero,i.size,i.bytes))=some (some (.agg #[.string ⟨#[]⟩,.int .i64 0]),2,24):=by kernel_rfl
def putR (es:List En) (name:ByteArray) (num:Int) (done:Bool):List En:=if done then es else putE es name num
theorem zei:∀(es:List En) (name:ByteArray) (num:Int),(putE es name num).length=es.length+1
 | [],_,_=>rfl
 | e::es,name,num=>by
  unfold putE
  split
  ·simp
  ·rw[List.length_cons,zei es,List.length_cons]
theorem z2x (w:World) (vs:List Value) (t:TypeId):∀j u,vs[j]? =some u→(w.alloc (.cells vs.toArray t)).cell? ((⟨w.heap.size,0,.none⟩:Addr).add j)=some u:=by
 intro j u hu;have e:(⟨w.heap.size,0,.none⟩:Addr).add j=⟨w.heap.size,j,.none⟩:=by unfold Addr.add;split<;>simp_all
 rw[e];exact(World.cell?_alloc_mark w _ _ (0,0) _).trans (by simpa using hu)
set_option maxRecDepth 100000 in
set_option maxHeartbeats 8000000 in
theorem z6i (B p:Nat) (s:St) (dir:Int) (name:ByteArray) (num:Int) (w:World) (h:Own B w p s) (hB:B≤w.heap.size) (hd:0≤atV s.inos dir) (hs:name.size≤140737488355328)
  (hz:Sized { s with inos:=setEnts s.inos dir fun es=>putE es name num }):
  Calls Tryz.prog 123 #[.pointer (some ⟨p,0,.none⟩),.int .i64 dir,.string name,.int .i64 num] w fun e w'=>e=.returned (.tuple #[])∧Own B w' p { s with inos:=setEnts s.inos dir fun es=>putE es name num }∧Below B w w'∧Aside p w w':=by
 obtain⟨i,x,hat,hx,hxn⟩:=z0q hd;obtain⟨A,n,c,E,m,d,D,k,e,hBp,hp,c0,c1,c2,fz,hst,hI,hD,hM⟩:=h.val;have hin:i<n:=by have:=(List.getElem?_eq_some_iff.1 hx).1;have:=hI.1;omega
 have hbig:=h.sized.big;have hn2:n≤1099511627776:=by have:=hI.1;omega
 have hB2:bulkE s.inos≤1099511627776:=by omega
 have htx:=(h.sized.text x (List.mem_of_getElem? hx)).2;obtain⟨g,off,x',EA,m2,d2,rfl,hg,hx',_,_,_,_,e2,hmd,hE,_⟩:=hI.get i hin;have ex:x=x':=by rw[hx] at hx';exact Option.some.inj hx'
 subst ex;have hle:=z0r hx;have hel:=hE.1;have hm2:m2≤1099511627776:=by omega
 obtain⟨i0,hi,hz0,hz1,hz2⟩:=info_parts zkc;obtain⟨RR,hRR⟩:∃RR,putE x.ents name num=RR:=⟨_,rfl⟩;have HRR:=hid hRR;have HO:=hid h;have HST:=hid hst.weak;have HE:=hid hE;have HX:=hid hx;have HC0:=hid c0;have HAT:=hid hat;have HTX:=hid htx;have HZ:=hid hz;have HEL:=hid hel;obtain⟨hgB,hfz⟩:=hI.free (by omega);obtain⟨curI,hcurI⟩:=hI.tag (by omega);have HTAG:=hid hcurI;have fe:=hfz (off+i*4+2);have i0':(0:Int)≤(i:Int):=by omega
 have i9:(i:Int)<(n:Int):=by omega
 have hX:=@Ext.cell w;clear hcurI hRR hfz h hst hI hD hM hx hx' hat hxn hd hbig hle hel hE htx hz
 go_enter Tryz.func123,Tryz.ntmps123
 go_wp2_with fail;refine wre ?_
 repeat (go_big_quiet_step (first|(go_at_call 94;rename_i X;exact Calls.ext_of (by have:=z0o _ s dir _ (HST.out.below X.bel);rw[HAT.out] at this;exact this))))
 refine wpQuiet_nil ?_;rintro w7 ⟨X,rfl⟩;generalize hZe:X.w=Z;have hZ:=hZe▸X.bel;have z0:=(hZ.cell (p:=⟨p,0,.none⟩) hp).trans c0;have z2:=(hZ.cell (p:=⟨g,_,.none⟩) hg).trans e2;have fz2:=(hZ.frozen (p:=⟨g,off+i*4+2,.none⟩) hg).trans fe;have HZB:=hid hZ;have HEZ:=hid (HE.out.below hZ);clear hZe X hX hZ c0 c1 c2 e2;go_wp2_with fail
 go_loopw [9,10,11] (fun o b j wr=>∃(q:Nat) (done:Bool) (V:Value) (es:List En),V=o∧b=.bool done∧j=.int .i64 q∧q≤m2∧wr.ownsRow Z.heap.size 73 2 V es.length (es.flatMap enV)∧Below Z.heap.size Z wr∧es++putR (x.ents.drop q) name num done=RR∧es.length≤2*q+1) (fun _ _ j _=>m2-(intOf j).toNat)
 case atStart=>exact⟨0,false,_,[],rfl,rfl,rfl,by omega,World.ownsRow_nil _ _ _ _,Below.refl _ _,HRR.out,by simp⟩
 case round =>
  obtain⟨q,done,V,es,hV,rfl,rfl,hq,hrow,hbel,hc,hlen⟩:=hrel;subst hV;have y2:=(hbel.cell (p:=⟨g,_,.none⟩) (Nat.lt_of_lt_of_le hg HZB.out.size)).trans z2;have HEr:=hid (HEZ.out.below hbel);have HB:=hid hbel;have HROW:=hid hrow;obtain⟨L,hL⟩:∃L,es.length=L:=⟨_,rfl⟩;have hll:L≤2199023255553:=by omega
  have hlq:L≤2*q+1:=by omega
  have HL:=hid hL;have hrow2:=hrow;rw[hL] at hrow2;have HR2:=hid hrow2;have hc2:=hc;clear hrow hbel hrow2 hL
  by_cases hlt:q<m2
  ·obtain⟨g2,off2,y,rfl,hg2,hy,hdr,hmem,e0,e1⟩:=HEr.out.get q hlt;rw[hdr] at hc;have hys:=HTX.out y hmem;have k0:(0:Int)≤(q:Int):=by omega
   have k1:(q:Int)<(m2:Int):=by omega
   have HY:=hid hy;clear hdr hmem hy hc2;cases done
   ·have hstep:es++(if ltN name y.name=true then⟨name,num⟩::y::x.ents.drop (q+1) else y::putE (x.ents.drop (q+1)) name num)=RR:=hc;obtain⟨LT,hLT⟩:∃LT,ltN name y.name=LT:=⟨_,rfl⟩;rw[hLT] at hstep;have HC:=hid hstep;have HLT:=hid hLT;clear hc hstep hLT;go_wp2_with fail;refine(z5c name y.name _ hs hys).mono ?_;rintro e5 w5 ⟨rfl,nq,rfl⟩;rw[HLT.out];cases LT
    ·have hr:=HC.out;rw[if_neg (by simp)] at hr;have HC2:=hid hr;clear hr;go_wp2_with (at_builtin;refine wpList_append_own _ rfl _ _ 57 rfl Z.heap.size 73 i0 (.agg #[.string ⟨#[]⟩,.int .i64 0]) 2 24 Tryz.underlying57 hi hz0 hz1 hz2 rfl (by decide) _ L _ rfl ((z0y HR2.out (Cv.drewN_below (Below.refl _ _) nq)).alloc _) ⟨(wr.drewN nq).heap.size,0,.none⟩ 1 1 [.string y.name,.int .i64 y.num] rfl rfl (z2x (wr.drewN nq) [.string y.name,.int .i64 y.num] _) ?ca2 ?ca3 ?ca4 ?ca5 ?_)
     case ca2=>first|(intro u hu;simp at hu;rcases hu with rfl|rfl<;>rfl)|(simp;done)|exact⟨rfl,rfl⟩
     case ca3=>unfold maxLen;omega
     case ca4=>omega
     case ca5=>have:=HB.out.size;first|omega|(simp;omega)
     intro v' w' hown' hgrow _;have hbel':Below Z.heap.size Z w':=((Cv.drewN_below HB.out nq).alloc (by have:=HB.out.size;simpa using this) _).grown hgrow (by have:=HB.out.size;simp;omega) (fun k hk=>(HR2.out.lt k hk).1);have HO':=hid hown';have HB':=hid hbel';clear hown' hgrow hbel';go_wp2_with fail;go_roundw
     case rel=>exact⟨q+1,false,_,es++[y],rfl,rfl,by go_num,by omega,by rw[List.length_append,HL.out,List.flatMap_append];exact HO'.out,HB'.out,by rw[List.append_assoc];exact HC2.out,by rw[List.length_append,HL.out];simp;omega⟩
     case measure=>simp[intOf];omega
    ·have hr:=HC.out;rw[if_pos rfl] at hr;have HC2:=hid hr;clear hr;go_wp2_with (at_builtin;refine wpList_append_own _ rfl _ _ 57 rfl Z.heap.size 73 i0 (.agg #[.string ⟨#[]⟩,.int .i64 0]) 2 24 Tryz.underlying57 hi hz0 hz1 hz2 rfl (by decide) _ L _ rfl ((z0y HR2.out (Cv.drewN_below (Below.refl _ _) nq)).alloc _) ⟨(wr.drewN nq).heap.size,0,.none⟩ 1 1 [.string name,.int .i64 num] rfl rfl (z2x (wr.drewN nq) [.string name,.int .i64 num] _) ?ca2 ?ca3 ?ca4 ?ca5 ?_)
     case ca2=>first|(intro u hu;simp at hu;rcases hu with rfl|rfl<;>rfl)|(simp;done)|exact⟨rfl,rfl⟩
     case ca3=>unfold maxLen;omega
     case ca4=>omega
     case ca5=>have:=HB.out.size;first|omega|(simp;omega)
     intro v' w' hown' hgrow _;have hbel':Below Z.heap.size Z w':=((Cv.drewN_below HB.out nq).alloc (by have:=HB.out.size;simpa using this) _).grown hgrow (by have:=HB.out.size;simp;omega) (fun k hk=>(HR2.out.lt k hk).1);have HO':=hid hown';have HB':=hid hbel';have s2:=(hbel'.cell (p:=⟨g,_,.none⟩) (Nat.lt_of_lt_of_le hg HZB.out.size)).trans z2;have HEq:=(HEZ.out.below hbel');obtain⟨g9,off9,y9,hA9,hg9,hy9,_,_,s0,s1⟩:=HEq.get q hlt;injection hA9 with hA9
     injection hA9 with hA1 hA2
     subst hA1 hA2
     have ey:y9=y:=by
      obtain⟨_,_,_,_,_,hy8,_⟩:=HEr.out.get q hlt;have h9:x.ents[q]? =some y:=HY.out;rw[hy9] at h9;exact Option.some.inj h9
     subst ey;clear hown' hgrow hbel' HEq hy9;go_wp2_with (at_builtin;refine wpList_append_own _ rfl _ _ 57 rfl Z.heap.size 73 i0 (.agg #[.string ⟨#[]⟩,.int .i64 0]) 2 24 Tryz.underlying57 hi hz0 hz1 hz2 rfl (by decide) _ (L+1) _ rfl (HO'.out.alloc _) ⟨w'.heap.size,0,.none⟩ 1 1 [.string y9.name,.int .i64 y9.num] rfl rfl (z2x w' [.string y9.name,.int .i64 y9.num] _) ?ca2 ?ca3 ?ca4 ?ca5 ?_)
     case ca2=>first|(intro u hu;simp at hu;rcases hu with rfl|rfl<;>rfl)|(simp;done)|exact⟨rfl,rfl⟩
     case ca3=>unfold maxLen;omega
     case ca4=>omega
     case ca5=>have:=HB'.out.size;first|omega|(simp;omega)
     intro v'' w'' hown'' hgrow2 _;have hbel'':Below Z.heap.size Z w'':=(HB'.out.alloc (by have:=HB'.out.size;simpa using this) _).grown hgrow2 (by have:=HB'.out.size;simp;omega) (fun k hk=>(HO'.out.lt k hk).1);have HO2:=hid hown'';have HB2':=hid hbel'';clear hown'' hgrow2 hbel'';go_wp2_with fail;go_roundw
     case rel=>exact⟨q+1,true,_,es++[⟨name,num⟩]++[y9],rfl,rfl,by go_num,by omega,by
      rw[List.length_append,List.length_append,HL.out,List.flatMap_append,List.flatMap_append];rw[List.append_assoc];exact HO2.out,HB2'.out,by rw[List.append_assoc,List.append_assoc];exact HC2.out,by rw[List.length_append,List.length_append,HL.out];simp;omega⟩
     case measure=>simp[intOf];omega
   ·have hstep:es++(y::x.ents.drop (q+1))=RR:=hc;have HC2:=hid hstep;clear hc hstep;go_wp2_with (at_builtin;refine wpList_append_own _ rfl _ _ 57 rfl Z.heap.size 73 i0 (.agg #[.string ⟨#[]⟩,.int .i64 0]) 2 24 Tryz.underlying57 hi hz0 hz1 hz2 rfl (by decide) _ L _ rfl (HR2.out.alloc _) ⟨wr.heap.size,0,.none⟩ 1 1 [.string y.name,.int .i64 y.num] rfl rfl (z2x wr [.string y.name,.int .i64 y.num] _) ?ca2 ?ca3 ?ca4 ?ca5 ?_)
    case ca2=>first|(intro u hu;simp at hu;rcases hu with rfl|rfl<;>rfl)|(simp;done)|exact⟨rfl,rfl⟩
    case ca3=>unfold maxLen;omega
    case ca4=>omega
    case ca5=>have:=HB.out.size;first|omega|(simp;omega)
    intro v' w' hown' hgrow _;have hbel':Below Z.heap.size Z w':=(HB.out.alloc (by have:=HB.out.size;simpa using this) _).grown hgrow (by have:=HB.out.size;simp;omega) (fun k hk=>(HR2.out.lt k hk).1);have HO':=hid hown';have HB':=hid hbel';clear hown' hgrow hbel';go_wp2_with fail;go_roundw
    case rel=>exact⟨q+1,true,_,es++[y],rfl,rfl,by go_num,by omega,by rw[List.length_append,HL.out,List.flatMap_append];exact HO'.out,HB'.out,by rw[List.append_assoc];exact HC2.out,by rw[List.length_append,HL.out];simp;omega⟩
    case measure=>simp[intOf];omega
  ·have hnil:x.ents.drop q=[]:=List.drop_eq_nil_of_le (by have:=HEL.out;omega);rw[hnil] at hc2;have fz9:=(HB.out.frozen (p:=⟨g,off+i*4+2,.none⟩) (Nat.lt_of_lt_of_le hg HZB.out.size)).trans fz2;cases done
   ·have HC2:=hid (show es++[⟨name,num⟩]=RR from hc2);clear hc hc2 hnil;go_wp2_with (at_builtin;refine wpList_append_own _ rfl _ _ 57 rfl Z.heap.size 73 i0 (.agg #[.string ⟨#[]⟩,.int .i64 0]) 2 24 Tryz.underlying57 hi hz0 hz1 hz2 rfl (by decide) _ L _ rfl (HR2.out.alloc _) ⟨wr.heap.size,0,.none⟩ 1 1 [.string name,.int .i64 num] rfl rfl (z2x wr [.string name,.int .i64 num] _) ?ca2 ?ca3 ?ca4 ?ca5 ?_)
    case ca2=>first|(intro u hu;simp at hu;rcases hu with rfl|rfl<;>rfl)|(simp;done)|exact⟨rfl,rfl⟩
    case ca3=>unfold maxLen;omega
    case ca4=>omega
    case ca5=>have:=HB.out.size;first|omega|(simp;omega)
    intro v' w' hown' hgrow _;have hbel':Below Z.heap.size Z w':=(HB.out.alloc (by have:=HB.out.size;simpa using this) _).grown hgrow (by have:=HB.out.size;simp;omega) (fun k hk=>(HR2.out.lt k hk).1);have f1:=(hbel'.frozen (p:=⟨g,off+i*4+2,.none⟩) (Nat.lt_of_lt_of_le hg HZB.out.size)).trans fz2;have s2:=(hbel'.cell (p:=⟨g,_,.none⟩) (Nat.lt_of_lt_of_le hg HZB.out.size)).trans z2;have HB':=hid hbel';have hents:=EntsAt.of_row (B:=Z.heap.size) (n:=L+1) (es:=es++[⟨name,num⟩]) (w:=w') (v:=v') (by rw[List.flatMap_append];exact hown');obtain⟨A9,c9,rfl,hc9,hn9,hE9⟩:=hents;have hk9:SlOk A9 _ c9:=⟨hc9,fun e=>(hn9 e).2⟩;have HE9:=hid hE9;have hbw:=Cv.next HZB.out HB'.out;have hown:=(HO.out.below hbw).setIno i 2 x { x with ents:=RR } (.slice A9 (L+1) c9) HX.out (.inl rfl) rfl rfl (fun _=>⟨rfl,A9,L+1,c9,rfl,hk9,by rw[←HC2.out];exact HE9.out.mono (Nat.le_trans hB HZB.out.size)⟩) (fun h=>by cases h) (by have:=HZ.out;rw[setEnts,HAT.out,Int.toNat_natCast,z1v _ _ _ _ HX.out,HRR.out] at this;exact this) g off n c ((hbw.cell (p:=⟨p,0,.none⟩) hp).trans HC0.out)
    have HOWN:=hid hown;have HBW:=hid hbw;clear hown' hgrow hbel' hE9 hbw hown;go_wp2_with fail
    go_returns
    refine⟨rfl,?_,(HBW.out.mono hB).setCell (by exact hgB) _,(Aside.below HBW.out).trans (Aside.set ((HBW.out.block g hg).trans HTAG.out) (.inl rfl))⟩;rw[setEnts,HAT.out,Int.toNat_natCast,z1v _ _ _ _ HX.out,HRR.out];exact HOWN.out
   ·have HC2:=hid (show es++[]=RR from hc2);have y3:=y2;have hents:=EntsAt.of_row HR2.out;obtain⟨A9,c9,rfl,hc9,hn9,hE9⟩:=hents;have hk9:SlOk A9 _ c9:=⟨hc9,fun e=>(hn9 e).2⟩;have HE9:=hid hE9;have hbw:=Cv.next HZB.out HB.out;have hown:=(HO.out.below hbw).setIno i 2 x { x with ents:=RR } (.slice A9 L c9) HX.out (.inl rfl) rfl rfl (fun _=>⟨rfl,A9,L,c9,rfl,hk9,by rw[←HC2.out,List.append_nil];exact HE9.out.mono (Nat.le_trans hB HZB.out.size)⟩) (fun h=>by cases h) (by have:=HZ.out;rw[setEnts,HAT.out,Int.toNat_natCast,z1v _ _ _ _ HX.out,HRR.out] at this;exact this) g off n c ((hbw.cell (p:=⟨p,0,.none⟩) hp).trans HC0.out);have HOWN:=hid hown;have HBW:=hid hbw;clear hc hc2 hnil hE9 hbw hown;go_wp2_with fail
    go_returns
    refine⟨rfl,?_,(HBW.out.mono hB).setCell (by exact hgB) _,(Aside.below HBW.out).trans (Aside.set ((HBW.out.block g hg).trans HTAG.out) (.inl rfl))⟩;rw[setEnts,HAT.out,Int.toNat_natCast,z1v _ _ _ _ HX.out,HRR.out];exact HOWN.out
theorem z8m:∀(es:List En) (name:ByteArray),(dropE es name).length≤es.length
 | [],_=>Nat.le_refl _
 | e::es,name=>by
  unfold dropE;have:=z8m es name
  split<;>simp<;>omega
set_option maxRecDepth 100000 in
set_option maxHeartbeats 8000000 in
theorem z4n (B p:Nat) (s:St) (dir:Int) (name:ByteArray) (w:World) (h:Own B w p s) (hB:B≤w.heap.size) (hd:0≤atV s.inos dir)
  (hz:Sized { s with inos:=setEnts s.inos dir fun es=>dropE es name }):
  Calls Tryz.prog 130 #[.pointer (some ⟨p,0,.none⟩),.int .i64 dir,.string name] w fun e w'=>e=.returned (.tuple #[])∧Own B w' p { s with inos:=setEnts s.inos dir fun es=>dropE es name }∧Below B w w'∧Aside p w w':=by
 obtain⟨i,x,hat,hx,hxn⟩:=z0q hd;obtain⟨A,n,c,E,m,d,D,k,e,hBp,hp,c0,c1,c2,fz,hst,hI,hD,hM⟩:=h.val;have hin:i<n:=by have:=(List.getElem?_eq_some_iff.1 hx).1;have:=hI.1;omega
 have hbig:=h.sized.big;have hn2:n≤1099511627776:=by have:=hI.1;omega
 have hB2:bulkE s.inos≤1099511627776:=by omega
 obtain⟨g,off,x',EA,m2,d2,rfl,hg,hx',_,_,_,_,e2,hmd,hE,_⟩:=hI.get i hin;have ex:x=x':=by rw[hx] at hx';exact Option.some.inj hx'
 subst ex;have hle:=z0r hx;have hel:=hE.1;have hm2:m2≤1099511627776:=by omega
 obtain⟨i0,hi,hz0,hz1,hz2⟩:=info_parts zkc;obtain⟨RR,hRR⟩:∃RR,dropE x.ents name=RR:=⟨_,rfl⟩;have HRR:=hid hRR;have HO:=hid h;have HST:=hid hst.weak;have HE:=hid hE;have HX:=hid hx;have HC0:=hid c0;have HAT:=hid hat;have HZ:=hid hz;have HEL:=hid hel;obtain⟨hgB,hfz⟩:=hI.free (by omega);obtain⟨curI,hcurI⟩:=hI.tag (by omega);have HTAG:=hid hcurI;have fe:=hfz (off+i*4+2);have i0':(0:Int)≤(i:Int):=by omega
 have i9:(i:Int)<(n:Int):=by omega
 have hX:=@Ext.cell w;clear hcurI hRR hfz h hst hI hD hM hx hx' hat hxn hd hbig hle hel hE hz
 go_enter Tryz.func130,Tryz.ntmps130
 go_wp2_with fail;refine wre ?_
 repeat (go_big_quiet_step (first|(go_at_call 94;rename_i X;exact Calls.ext_of (by have:=z0o _ s dir _ (HST.out.below X.bel);rw[HAT.out] at this;exact this))))
 refine wpQuiet_nil ?_;rintro w7 ⟨X,rfl⟩;generalize hZe:X.w=Z;have hZ:=hZe▸X.bel;have z0:=(hZ.cell (p:=⟨p,0,.none⟩) hp).trans c0;have z2:=(hZ.cell (p:=⟨g,_,.none⟩) hg).trans e2;have fz2:=(hZ.frozen (p:=⟨g,off+i*4+2,.none⟩) hg).trans fe;have HZB:=hid hZ;have HEZ:=hid (HE.out.below hZ);clear hZe X hX hZ c0 c1 c2 e2;go_wp2_with fail
 go_loopw [7,8] (fun o j wr=>∃(q:Nat) (V:Value) (es:List En),V=o∧j=.int .i64 q∧q≤m2∧wr.ownsRow Z.heap.size 73 2 V es.length (es.flatMap enV)∧Below Z.heap.size Z wr∧es++dropE (x.ents.drop q) name=RR∧es.length≤q) (fun _ j _=>m2-(intOf j).toNat)
 case atStart=>exact⟨0,_,[],rfl,rfl,by omega,World.ownsRow_nil _ _ _ _,Below.refl _ _,HRR.out,by simp⟩
 case round=>
  obtain⟨q,V,es,hV,rfl,hq,hrow,hbel,hc,hlen⟩:=hrel;subst hV;have y2:=(hbel.cell (p:=⟨g,_,.none⟩) (Nat.lt_of_lt_of_le hg HZB.out.size)).trans z2;have HEr:=hid (HEZ.out.below hbel);have HB:=hid hbel;obtain⟨L,hL⟩:∃L,es.length=L:=⟨_,rfl⟩;have hlq:L≤q:=by omega
  have HL:=hid hL;rw[hL] at hrow;have HR2:=hid hrow;clear hrow hbel hL
  by_cases hlt:q<m2
  ·obtain⟨g2,off2,y,rfl,hg2,hy,hdr,hmem,e0,e1⟩:=HEr.out.get q hlt;rw[hdr] at hc;have k0:(0:Int)≤(q:Int):=by omega
   have k1:(q:Int)<(m2:Int):=by omega
   clear hdr hmem hy
   by_cases hne:y.name=name
   ·have hstep:es++dropE (x.ents.drop (q+1)) name=RR:=by
     have h9:=hc;rw[dropE,if_pos hne] at h9;exact h9
    have q9:(y.name.toList==name.toList)=true:=z2j hne;have HC:=hid hstep;clear hc hstep hne;go_wp2_with fail;go_roundw
    case rel=>exact⟨q+1,_,es,rfl,by go_num,by omega,by rw[HL.out];exact HR2.out,HB.out,HC.out,by rw[HL.out];omega⟩
    case measure=>simp[intOf];omega
   ·have hstep:(es++[y])++dropE (x.ents.drop (q+1)) name=RR:=by
     have h9:=hc;rw[dropE,if_neg hne] at h9;rw[List.append_assoc];exact h9
    have q9:(y.name.toList==name.toList)=false:=z1k hne;have HC:=hid hstep;clear hc hstep hne;go_wp2_with (at_builtin;refine wpList_append_own _ rfl _ _ 57 rfl Z.heap.size 73 i0 (.agg #[.string ⟨#[]⟩,.int .i64 0]) 2 24 Tryz.underlying57 hi hz0 hz1 hz2 rfl (by decide) _ L _ rfl (HR2.out.alloc _) ⟨wr.heap.size,0,.none⟩ 1 1 [.string y.name,.int .i64 y.num] rfl rfl (z2x wr [.string y.name,.int .i64 y.num] _) ?ca2 ?ca3 ?ca4 ?ca5 ?_)
    case ca2=>first|(intro u hu;simp at hu;rcases hu with rfl|rfl<;>rfl)|(simp;done)|exact⟨rfl,rfl⟩
    case ca3=>unfold maxLen;omega
    case ca4=>omega
    case ca5=>have:=HB.out.size;first|omega|(simp;omega)
    intro v' w' hown' hgrow _;have hbel':Below Z.heap.size Z w':=(HB.out.alloc (by have:=HB.out.size;simpa using this) _).grown hgrow (by have:=HB.out.size;simp;omega) (fun k hk=>(HR2.out.lt k hk).1);have HO':=hid hown';have HB':=hid hbel';clear hown' hgrow hbel';go_wp2_with fail;go_roundw
    case rel=>exact⟨q+1,_,es++[y],rfl,by go_num,by omega,by rw[List.length_append,HL.out,List.flatMap_append];exact HO'.out,HB'.out,HC.out,by rw[List.length_append,HL.out];simp;omega⟩
    case measure=>simp[intOf];omega
  ·have hnil:x.ents.drop q=[]:=List.drop_eq_nil_of_le (by have:=HEL.out;omega);rw[hnil] at hc;have fz9:=(HB.out.frozen (p:=⟨g,off+i*4+2,.none⟩) (Nat.lt_of_lt_of_le hg HZB.out.size)).trans fz2;have HC2:=hid (show es++[]=RR from hc);have hents:=EntsAt.of_row HR2.out;obtain⟨A9,c9,rfl,hc9,hn9,hE9⟩:=hents;have hk9:SlOk A9 _ c9:=⟨hc9,fun e=>(hn9 e).2⟩;have HE9:=hid hE9;have hbw:=Cv.next HZB.out HB.out;have hown:=(HO.out.below hbw).setIno i 2 x { x with ents:=RR } (.slice A9 L c9) HX.out (.inl rfl) rfl rfl (fun _=>⟨rfl,A9,L,c9,rfl,hk9,by rw[←HC2.out,List.append_nil];exact HE9.out.mono (Nat.le_trans hB HZB.out.size)⟩) (fun h=>by cases h) (by have:=HZ.out;rw[setEnts,HAT.out,Int.toNat_natCast,z1v _ _ _ _ HX.out,HRR.out] at this;exact this) g off n c ((hbw.cell (p:=⟨p,0,.none⟩) hp).trans HC0.out);have HOWN:=hid hown;have HBW:=hid hbw
   clear hc hnil hE9 hbw hown;go_wp2_with fail
   go_returns
   refine⟨rfl,?_,(HBW.out.mono hB).setCell (by exact hgB) _,(Aside.below HBW.out).trans (Aside.set ((HBW.out.block g hg).trans HTAG.out) (.inl rfl))⟩;rw[setEnts,HAT.out,Int.toNat_natCast,z1v _ _ _ _ HX.out,HRR.out];exact HOWN.out
set_option maxHeartbeats 400000 in
theorem zj5 (s:ByteArray) (w:World) (hs:s.size≤maxLen):
  Calls Tryz.prog 150 #[.string s] w fun e w'=>e=.returned (.int .i64 ((hashL s.data.toList:Nat):Int))∧Below w.heap.size w w':=by
 unfold maxLen at hs
 go_enter Tryz.func150,Tryz.ntmps150
 go_wp2
 go_loopw [3] (fun n w'=>∃(pos acc:Nat),w'=w.iter s pos∧n=.int .u32 acc∧acc<4294967296∧hashFrom (s.data.toList.drop pos) acc=hashL s.data.toList) (fun _ w'=>s.size-w'.iterPos w.heap.size)
 case atStart=>exact⟨0,7,rfl,rfl,by omega,by simp[hashL]⟩
 case round=>
  obtain⟨pos,acc,rfl,rfl,hacc,hc⟩:=hrel
  by_cases hp:pos<s.size
  ·have hd:=z4x s pos;have hw:=z0t (s.data.toList.drop pos);have hle:=z4i (s.data.toList.drop pos);have hcc:=z5p _ acc (z5a hp);rw[hcc,←hd] at hc;rw[←hd] at hw hle;have hnx:∀ty,(Instr.next (.pointer (some ⟨w.heap.size,0,none⟩)) true ty).run Tryz.prog (w.iter s pos)=_:=fun ty=>run_next_any w s pos ty hp
   have Hc:=hid hc;clear hd hcc hc
   go_wp2
   go_roundw
   case rel=>exact⟨pos+(Utf8.decode s pos).2,hashStep acc (Utf8.decode s pos),rfl,z4l (by unfold hashStep;omega),z3e _ _,by have:=Hc.out;rw[List.drop_drop] at this;exact this⟩
   case measure=>simp;omega
  ·have hnx:∀ty,(Instr.next (.pointer (some ⟨w.heap.size,0,none⟩)) true ty).run Tryz.prog (w.iter s pos)=_:=fun ty=>run_next_end w s pos ty hp
   rw[z7n hp] at hc;have Hc:=hid hc;clear hc
   go_wp2
   go_ret;exact⟨z1l (by have:=Hc.out;rw[z6z] at this;omega),z2d _ _ _⟩
set_option maxHeartbeats 400000 in
theorem zdb (s:ByteArray) (w:World) (hs:s.size≤140737488355328):
  Calls Tryz.prog 138 #[.string s] w fun e w'=>e=.returned (.int .i64 ((hashL s.data.toList:Nat):Int))∧w=w':=by
 go_enter Tryz.func138,Tryz.ntmps138
 go_wp2_with fail
 go_loop [3,4] (fun n i=>∃(pos acc:Nat),i=.int .i64 pos∧n=.int .i64 acc∧pos≤s.size∧acc<4294967296∧hashFrom (s.data.toList.drop pos) acc=hashL s.data.toList) (fun _ i=>s.size-(intOf i).toNat)
 case atStart=>exact⟨0,7,rfl,rfl,by omega,by omega,by simp[hashL]⟩
 case round=>
  obtain⟨pos,acc,rfl,rfl,hps,hacc,hc⟩:=hrel
  by_cases hp:pos<s.size
  ·have hw:=z0t (s.data.toList.drop pos);have hle:=z4i (s.data.toList.drop pos);have hf:=z2q _ (z5a hp);rw[List.length_drop] at hf;have hsz:s.data.toList.length=s.size:=rfl;rw[hsz] at hf;have hcc:=z5p _ acc (z5a hp);rw[hcc] at hc;have Hc:=hid hc;clear hcc hc hsz;go_wp2_with fail;refine(zed s pos hp _ hs).mono ?_;rintro e w' ⟨c,k,rfl,hc1,hk1,hk2,rfl⟩;have hk1':k≤4:=by omega
   have hcle:c≤1114111:=by omega
   have Hc1:=hid hc1;have Hk1:=hid hk1;clear hc1 hk1 hk2
   by_cases hk0:1≤k
   ·go_wp2
    go_round
    case rel=>exact⟨pos+(decodeL (s.data.toList.drop pos)).2,hashStep acc (decodeL (s.data.toList.drop pos)),z4l (by have:=Hk1.out;omega),z4l (by have:=Hc1.out;unfold hashStep;omega),by omega,z3e _ _,by have:=Hc.out;rw[List.drop_drop] at this;exact this⟩
    case measure=>simp[intOf];omega
   ·obtain rfl:k=0:=by omega
    go_wp2
    go_round
    case rel=>exact⟨pos+(decodeL (s.data.toList.drop pos)).2,hashStep acc (decodeL (s.data.toList.drop pos)),z4l (by have:=Hk1.out;omega),z4l (by have:=Hc1.out;unfold hashStep;omega),by omega,z3e _ _,by have:=Hc.out;rw[List.drop_drop] at this;exact this⟩
    case measure=>simp[intOf];omega
  ·rw[z7n hp] at hc;have Hc:=hid hc;clear hc
   go_wp2
   go_ret;exact⟨z1l (by have:=Hc.out;rw[z6z] at this;omega),rfl⟩
set_option maxHeartbeats 400000 in
theorem z3j (s:ByteArray) (w:World) (hs:s.size≤140737488355328):
  Calls Tryz.prog 97 #[.string s] w fun e w'=>e=.returned (.int .i64 ((hashL s.data.toList%8:Nat):Int))∧w=w':=by
 have hh:=zj2 s.data.toList
 go_enter Tryz.func97,Tryz.ntmps97
 go_wp2_with fail;refine(zdb s _ hs).mono ?_;rintro e w' ⟨rfl,rfl⟩
 go_wp2
 go_ret;exact⟨z1l (by omega),rfl⟩
end Go.Proofs.YtmmpkfcdfcldlaaGreat
