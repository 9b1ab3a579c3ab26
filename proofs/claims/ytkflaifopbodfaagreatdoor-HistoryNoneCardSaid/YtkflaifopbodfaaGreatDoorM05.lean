/- Parts of the proof, side by side: FsPut, FsDrop, NameHash, RefHash, FsEnts. -/
import Derived.Test.YtkflaifopbodfaaGreatDoorM04
import Derived.Handy
import Derived.Test.YtkflaifopbodfaaGreatDoorM02
import Derived.Test.YtkflaifopbodfaaGreatDoorM03
import Derived.Deep.Cut
import Derived.Deep.DeepCutAuto
set_option linter.unusedVariables false
set_option linter.unusedSimpArgs false
namespace Go.Proofs.YtkflaifopbodfaaGreatDoor
open Lib (hid)
open Go.RowKit
theorem zop:(Tryz.prog.info? 120).map (fun i=>(i.zero,i.size,i.bytes))=some (some (.agg #[.string ⟨#[]⟩,.int .i64 0]),2,24):=by kernel_rfl
def putR (es:List En) (name:ByteArray) (num:Int) (done:Bool):List En:=if done then es else putE es name num
theorem zgl:∀(es:List En) (name:ByteArray) (num:Int),(putE es name num).length=es.length+1
 | [],_,_=>rfl
 | e::es,name,num=>by
  unfold putE
  split
  ·simp
  ·rw[List.length_cons,zgl es,List.length_cons]
theorem z3z (w:World) (vs:List Value) (t:TypeId):∀j u,vs[j]? =some u→(w.alloc (.cells vs.toArray t)).cell? ((⟨w.heap.size,0,.none⟩:Addr).add j)=some u:=by
 intro j u hu;have e:(⟨w.heap.size,0,.none⟩:Addr).add j=⟨w.heap.size,j,.none⟩:=by unfold Addr.add;split<;>simp_all
 rw[e];exact(World.cell?_alloc_mark w _ _ (0,0) _).trans (by simpa using hu)
set_option maxRecDepth 100000 in
set_option maxHeartbeats 8000000 in
theorem znq (B p:Nat) (s:St) (dir:Int) (name:ByteArray) (num:Int) (w:World) (h:Own B w p s) (hB:B≤w.heap.size) (hd:0≤atV s.inos dir) (hs:name.size≤140737488355328)
  (hz:Sized { s with inos:=setEnts s.inos dir fun es=>putE es name num }):
  Calls Tryz.prog 58 #[.pointer (some ⟨p,0,.none⟩),.int .i64 dir,.string name,.int .i64 num] w fun e w'=>e=.returned (.tuple #[])∧Own B w' p { s with inos:=setEnts s.inos dir fun es=>putE es name num }∧Below B w w'∧Aside p w w':=by
 obtain⟨i,x,hat,hx,hxn⟩:=z2c hd;obtain⟨A,n,c,E,m,d,D,k,e,hBp,hp,c0,c1,c2,fz,hst,hI,hD,hM⟩:=h.val;have hin:i<n:=by have:=(List.getElem?_eq_some_iff.1 hx).1;have:=hI.1;omega
 have hbig:=h.sized.big;have hn2:n≤1099511627776:=by have:=hI.1;omega
 have hB2:bulkE s.inos≤1099511627776:=by omega
 have htx:=(h.sized.text x (List.mem_of_getElem? hx)).2;obtain⟨g,off,x',EA,m2,d2,rfl,hg,hx',_,_,_,_,e2,hmd,hE,_⟩:=hI.get i hin;have ex:x=x':=by rw[hx] at hx';exact Option.some.inj hx'
 subst ex;have hle:=z1q hx;have hel:=hE.1;have hm2:m2≤1099511627776:=by omega
 obtain⟨i0,hi,hz0,hz1,hz2⟩:=info_parts zop;obtain⟨RR,hRR⟩:∃RR,putE x.ents name num=RR:=⟨_,rfl⟩;have HRR:=hid hRR;have HO:=hid h;have HST:=hid hst.weak;have HE:=hid hE;have HX:=hid hx;have HC0:=hid c0;have HAT:=hid hat;have HTX:=hid htx;have HZ:=hid hz;have HEL:=hid hel;obtain⟨hgB,hfz⟩:=hI.free (by omega);obtain⟨curI,hcurI⟩:=hI.tag (by omega);have HTAG:=hid hcurI;have fe:=hfz (off+i*4+2);have i0':(0:Int)≤(i:Int):=by omega
 have i9:(i:Int)<(n:Int):=by omega
 have hX:=@Ext.cell w;clear hcurI hRR hfz h hst hI hD hM hx hx' hat hxn hd hbig hle hel hE htx hz
 go_enter Tryz.func58,Tryz.ntmps58
 go_wp2_with fail;refine wre ?_
 repeat (go_big_quiet_step (first|(go_at_call 60;rename_i X;exact Calls.ext_of (by have:=z2y _ s dir _ (HST.out.below X.bel);rw[HAT.out] at this;exact this))))
 refine wpQuiet_nil ?_;rintro w7 ⟨X,rfl⟩;generalize hZe:X.w=Z;have hZ:=hZe▸X.bel;have z0:=(hZ.cell (p:=⟨p,0,.none⟩) hp).trans c0;have z2:=(hZ.cell (p:=⟨g,_,.none⟩) hg).trans e2;have fz2:=(hZ.frozen (p:=⟨g,off+i*4+2,.none⟩) hg).trans fe;have HZB:=hid hZ;have HEZ:=hid (HE.out.below hZ);clear hZe X hX hZ c0 c1 c2 e2;go_wp2_with fail
 go_loopw [9,10,11] (fun o b j wr=>∃(q:Nat) (done:Bool) (V:Value) (es:List En),V=o∧b=.bool done∧j=.int .i64 q∧q≤m2∧wr.ownsRow Z.heap.size 120 2 V es.length (es.flatMap enV)∧Below Z.heap.size Z wr∧es++putR (x.ents.drop q) name num done=RR∧es.length≤2*q+1) (fun _ _ j _=>m2-(intOf j).toNat)
 case atStart=>exact⟨0,false,_,[],rfl,rfl,rfl,by omega,World.ownsRow_nil _ _ _ _,Below.refl _ _,HRR.out,by simp⟩
 case round =>
  obtain⟨q,done,V,es,hV,rfl,rfl,hq,hrow,hbel,hc,hlen⟩:=hrel;subst hV;have y2:=(hbel.cell (p:=⟨g,_,.none⟩) (Nat.lt_of_lt_of_le hg HZB.out.size)).trans z2;have HEr:=hid (HEZ.out.below hbel);have HB:=hid hbel;have HROW:=hid hrow;obtain⟨L,hL⟩:∃L,es.length=L:=⟨_,rfl⟩;have hll:L≤2199023255553:=by omega
  have hlq:L≤2*q+1:=by omega
  have HL:=hid hL;have hrow2:=hrow;rw[hL] at hrow2;have HR2:=hid hrow2;have hc2:=hc;clear hrow hbel hrow2 hL
  by_cases hlt:q<m2
  ·obtain⟨g2,off2,y,rfl,hg2,hy,hdr,hmem,e0,e1⟩:=HEr.out.get q hlt;rw[hdr] at hc;have hys:=HTX.out y hmem;have k0:(0:Int)≤(q:Int):=by omega
   have k1:(q:Int)<(m2:Int):=by omega
   have HY:=hid hy;clear hdr hmem hy hc2;cases done
   ·have hstep:es++(if ltN name y.name=true then⟨name,num⟩::y::x.ents.drop (q+1) else y::putE (x.ents.drop (q+1)) name num)=RR:=hc;obtain⟨LT,hLT⟩:∃LT,ltN name y.name=LT:=⟨_,rfl⟩;rw[hLT] at hstep;have HC:=hid hstep;have HLT:=hid hLT;clear hc hstep hLT;go_wp2_with fail;refine(z5v name y.name _ hs hys).mono ?_;rintro e5 w5 ⟨rfl,nq,rfl⟩;rw[HLT.out];cases LT
    ·have hr:=HC.out;rw[if_neg (by simp)] at hr;have HC2:=hid hr;clear hr;go_wp2_with (at_builtin;refine wpList_append_own _ rfl _ _ 51 rfl Z.heap.size 120 i0 (.agg #[.string ⟨#[]⟩,.int .i64 0]) 2 24 Tryz.underlying51 hi hz0 hz1 hz2 rfl (by decide) _ L _ rfl ((z2k HR2.out (Cv.drewN_below (Below.refl _ _) nq)).alloc _) ⟨(wr.drewN nq).heap.size,0,.none⟩ 1 1 [.string y.name,.int .i64 y.num] rfl rfl (z3z (wr.drewN nq) [.string y.name,.int .i64 y.num] _) ?ca2 ?ca3 ?ca4 ?ca5 ?_)
     case ca2=>first|(intro u hu;simp at hu;rcases hu with rfl|rfl<;>rfl)|(simp;done)|exact⟨rfl,rfl⟩
     case ca3=>unfold maxLen;omega
     case ca4=>omega
     case ca5=>have:=HB.out.size;first|omega|(simp;omega)
     intro v' w' hown' hgrow _;have hbel':Below Z.heap.size Z w':=((Cv.drewN_below HB.out nq).alloc (by have:=HB.out.size;simpa using this) _).grown hgrow (by have:=HB.out.size;simp;omega) (fun k hk=>(HR2.out.lt k hk).1);have HO':=hid hown';have HB':=hid hbel';clear hown' hgrow hbel';go_wp2_with fail;go_roundw
     case rel=>exact⟨q+1,false,_,es++[y],rfl,rfl,by go_num,by omega,by rw[List.length_append,HL.out,List.flatMap_append];exact HO'.out,HB'.out,by rw[List.append_assoc];exact HC2.out,by rw[List.length_append,HL.out];simp;omega⟩
     case measure=>simp[intOf];omega
    ·have hr:=HC.out;rw[if_pos rfl] at hr;have HC2:=hid hr;clear hr;go_wp2_with (at_builtin;refine wpList_append_own _ rfl _ _ 51 rfl Z.heap.size 120 i0 (.agg #[.string ⟨#[]⟩,.int .i64 0]) 2 24 Tryz.underlying51 hi hz0 hz1 hz2 rfl (by decide) _ L _ rfl ((z2k HR2.out (Cv.drewN_below (Below.refl _ _) nq)).alloc _) ⟨(wr.drewN nq).heap.size,0,.none⟩ 1 1 [.string name,.int .i64 num] rfl rfl (z3z (wr.drewN nq) [.string name,.int .i64 num] _) ?ca2 ?ca3 ?ca4 ?ca5 ?_)
     case ca2=>first|(intro u hu;simp at hu;rcases hu with rfl|rfl<;>rfl)|(simp;done)|exact⟨rfl,rfl⟩
     case ca3=>unfold maxLen;omega
     case ca4=>omega
     case ca5=>have:=HB.out.size;first|omega|(simp;omega)
     intro v' w' hown' hgrow _;have hbel':Below Z.heap.size Z w':=((Cv.drewN_below HB.out nq).alloc (by have:=HB.out.size;simpa using this) _).grown hgrow (by have:=HB.out.size;simp;omega) (fun k hk=>(HR2.out.lt k hk).1);have HO':=hid hown';have HB':=hid hbel';have s2:=(hbel'.cell (p:=⟨g,_,.none⟩) (Nat.lt_of_lt_of_le hg HZB.out.size)).trans z2;have HEq:=(HEZ.out.below hbel');obtain⟨g9,off9,y9,hA9,hg9,hy9,_,_,s0,s1⟩:=HEq.get q hlt;injection hA9 with hA9
     injection hA9 with hA1 hA2
     subst hA1 hA2
     have ey:y9=y:=by
      obtain⟨_,_,_,_,_,hy8,_⟩:=HEr.out.get q hlt;have h9:x.ents[q]? =some y:=HY.out;rw[hy9] at h9;exact Option.some.inj h9
     subst ey;clear hown' hgrow hbel' HEq hy9;go_wp2_with (at_builtin;refine wpList_append_own _ rfl _ _ 51 rfl Z.heap.size 120 i0 (.agg #[.string ⟨#[]⟩,.int .i64 0]) 2 24 Tryz.underlying51 hi hz0 hz1 hz2 rfl (by decide) _ (L+1) _ rfl (HO'.out.alloc _) ⟨w'.heap.size,0,.none⟩ 1 1 [.string y9.name,.int .i64 y9.num] rfl rfl (z3z w' [.string y9.name,.int .i64 y9.num] _) ?ca2 ?ca3 ?ca4 ?ca5 ?_)
     case ca2=>first|(intro u hu;simp at hu;rcases hu with rfl|rfl<;>rfl)|(simp;done)|exact⟨rfl,rfl⟩
     case ca3=>unfold maxLen;omega
     case ca4=>omega
     case ca5=>have:=HB'.out.size;first|omega|(simp;omega)
     intro v'' w'' hown'' hgrow2 _;have hbel'':Below Z.heap.size Z w'':=(HB'.out.alloc (by have:=HB'.out.size;simpa using this) _).grown hgrow2 (by have:=HB'.out.size;simp;omega) (fun k hk=>(HO'.out.lt k hk).1);have HO2:=hid hown'';have HB2':=hid hbel'';clear hown'' hgrow2 hbel'';go_wp2_with fail;go_roundw
     case rel=>exact⟨q+1,true,_,es++[⟨name,num⟩]++[y9],rfl,rfl,by go_num,by omega,by
      rw[List.length_append,List.length_append,HL.out,List.flatMap_append,List.flatMap_append];rw[List.append_assoc];exact HO2.out,HB2'.out,by rw[List.append_assoc,List.append_assoc];exact HC2.out,by rw[List.length_append,List.length_append,HL.out];simp;omega⟩
     case measure=>simp[intOf];omega
   ·have hstep:es++(y::x.ents.drop (q+1))=RR:=hc;have HC2:=hid hstep;clear hc hstep;go_wp2_with (at_builtin;refine wpList_append_own _ rfl _ _ 51 rfl Z.heap.size 120 i0 (.agg #[.string ⟨#[]⟩,.int .i64 0]) 2 24 Tryz.underlying51 hi hz0 hz1 hz2 rfl (by decide) _ L _ rfl (HR2.out.alloc _) ⟨wr.heap.size,0,.none⟩ 1 1 [.string y.name,.int .i64 y.num] rfl rfl (z3z wr [.string y.name,.int .i64 y.num] _) ?ca2 ?ca3 ?ca4 ?ca5 ?_)
    case ca2=>first|(intro u hu;simp at hu;rcases hu with rfl|rfl<;>rfl)|(simp;done)|exact⟨rfl,rfl⟩
    case ca3=>unfold maxLen;omega
    case ca4=>omega
    case ca5=>have:=HB.out.size;first|omega|(simp;omega)
    intro v' w' hown' hgrow _;have hbel':Below Z.heap.size Z w':=(HB.out.alloc (by have:=HB.out.size;simpa using this) _).grown hgrow (by have:=HB.out.size;simp;omega) (fun k hk=>(HR2.out.lt k hk).1);have HO':=hid hown';have HB':=hid hbel';clear hown' hgrow hbel';go_wp2_with fail;go_roundw
    case rel=>exact⟨q+1,true,_,es++[y],rfl,rfl,by go_num,by omega,by rw[List.length_append,HL.out,List.flatMap_append];exact HO'.out,HB'.out,by rw[List.append_assoc];exact HC2.out,by rw[List.length_append,HL.out];simp;omega⟩
    case measure=>simp[intOf];omega
  ·have hnil:x.ents.drop q=[]:=List.drop_eq_nil_of_le (by have:=HEL.out;omega);rw[hnil] at hc2;have fz9:=(HB.out.frozen (p:=⟨g,off+i*4+2,.none⟩) (Nat.lt_of_lt_of_le hg HZB.out.size)).trans fz2;cases done
   ·have HC2:=hid (show es++[⟨name,num⟩]=RR from hc2);clear hc hc2 hnil;go_wp2_with (at_builtin;refine wpList_append_own _ rfl _ _ 51 rfl Z.heap.size 120 i0 (.agg #[.string ⟨#[]⟩,.int .i64 0]) 2 24 Tryz.underlying51 hi hz0 hz1 hz2 rfl (by decide) _ L _ rfl (HR2.out.alloc _) ⟨wr.heap.size,0,.none⟩ 1 1 [.string name,.int .i64 num] rfl rfl (z3z wr [.string name,.int .i64 num] _) ?ca2 ?ca3 ?ca4 ?ca5 ?_)
    case ca2=>first|(intro u hu;simp at hu;rcases hu with rfl|rfl<;>rfl)|(simp;done)|exact⟨rfl,rfl⟩
    case ca3=>unfold maxLen;omega
    case ca4=>omega
    case ca5=>have:=HB.out.size;first|omega|(simp;omega)
    intro v' w' hown' hgrow _;have hbel':Below Z.heap.size Z w':=(HB.out.alloc (by have:=HB.out.size;simpa using this) _).grown hgrow (by have:=HB.out.size;simp;omega) (fun k hk=>(HR2.out.lt k hk).1);have f1:=(hbel'.frozen (p:=⟨g,off+i*4+2,.none⟩) (Nat.lt_of_lt_of_le hg HZB.out.size)).trans fz2;have s2:=(hbel'.cell (p:=⟨g,_,.none⟩) (Nat.lt_of_lt_of_le hg HZB.out.size)).trans z2;have HB':=hid hbel';have hents:=EntsAt.of_row (B:=Z.heap.size) (n:=L+1) (es:=es++[⟨name,num⟩]) (w:=w') (v:=v') (by rw[List.flatMap_append];exact hown');obtain⟨A9,c9,rfl,hc9,hn9,hE9⟩:=hents;have hk9:SlOk A9 _ c9:=⟨hc9,fun e=>(hn9 e).2⟩;have HE9:=hid hE9;have hbw:=Cv.next HZB.out HB'.out;have hown:=(HO.out.below hbw).setIno i 2 x { x with ents:=RR } (.slice A9 (L+1) c9) HX.out (.inl rfl) rfl rfl (fun _=>⟨rfl,A9,L+1,c9,rfl,hk9,by rw[←HC2.out];exact HE9.out.mono (Nat.le_trans hB HZB.out.size)⟩) (fun h=>by cases h) (by have:=HZ.out;rw[setEnts,HAT.out,Int.toNat_natCast,z1k _ _ _ _ HX.out,HRR.out] at this;exact this) g off n c ((hbw.cell (p:=⟨p,0,.none⟩) hp).trans HC0.out)
    have HOWN:=hid hown;have HBW:=hid hbw;clear hown' hgrow hbel' hE9 hbw hown;go_wp2_with fail
    go_returns
    refine⟨rfl,?_,(HBW.out.mono hB).setCell (by exact hgB) _,(Aside.below HBW.out).trans (Aside.set ((HBW.out.block g hg).trans HTAG.out) (.inl rfl))⟩;rw[setEnts,HAT.out,Int.toNat_natCast,z1k _ _ _ _ HX.out,HRR.out];exact HOWN.out
   ·have HC2:=hid (show es++[]=RR from hc2);have y3:=y2;have hents:=EntsAt.of_row HR2.out;obtain⟨A9,c9,rfl,hc9,hn9,hE9⟩:=hents;have hk9:SlOk A9 _ c9:=⟨hc9,fun e=>(hn9 e).2⟩;have HE9:=hid hE9;have hbw:=Cv.next HZB.out HB.out;have hown:=(HO.out.below hbw).setIno i 2 x { x with ents:=RR } (.slice A9 L c9) HX.out (.inl rfl) rfl rfl (fun _=>⟨rfl,A9,L,c9,rfl,hk9,by rw[←HC2.out,List.append_nil];exact HE9.out.mono (Nat.le_trans hB HZB.out.size)⟩) (fun h=>by cases h) (by have:=HZ.out;rw[setEnts,HAT.out,Int.toNat_natCast,z1k _ _ _ _ HX.out,HRR.out] at this;exact this) g off n c ((hbw.cell (p:=⟨p,0,.none⟩) hp).trans HC0.out);have HOWN:=hid hown;have HBW:=hid hbw;clear hc hc2 hnil hE9 hbw hown;go_wp2_with fail
    go_returns
    refine⟨rfl,?_,(HBW.out.mono hB).setCell (by exact hgB) _,(Aside.below HBW.out).trans (Aside.set ((HBW.out.block g hg).trans HTAG.out) (.inl rfl))⟩;rw[setEnts,HAT.out,Int.toNat_natCast,z1k _ _ _ _ HX.out,HRR.out];exact HOWN.out
theorem z9w:∀(es:List En) (name:ByteArray),(dropE es name).length≤es.length
 | [],_=>Nat.le_refl _
 | e::es,name=>by
  unfold dropE;have:=z9w es name
  split<;>simp<;>omega
set_option maxHeartbeats 400000 in
theorem zly (s:ByteArray) (w:World) (hs:s.size≤maxLen):
  Calls Tryz.prog 131 #[.string s] w fun e w'=>e=.returned (.int .i64 ((hashL s.data.toList:Nat):Int))∧Below w.heap.size w w':=by
 unfold maxLen at hs
 go_enter Tryz.func131,Tryz.ntmps131
 go_wp2
 go_loopw [3] (fun n w'=>∃(pos acc:Nat),w'=w.iter s pos∧n=.int .u32 acc∧acc<4294967296∧hashFrom (s.data.toList.drop pos) acc=hashL s.data.toList) (fun _ w'=>s.size-w'.iterPos w.heap.size)
 case atStart=>exact⟨0,7,rfl,rfl,by omega,by simp[hashL]⟩
 case round=>
  obtain⟨pos,acc,rfl,rfl,hacc,hc⟩:=hrel
  by_cases hp:pos<s.size
  ·have hd:=z5o s pos;have hw:=z0p (s.data.toList.drop pos);have hle:=z4s (s.data.toList.drop pos);have hcc:=z6n _ acc (z5t hp);rw[hcc,←hd] at hc;rw[←hd] at hw hle;have hnx:∀ty,(Instr.next (.pointer (some ⟨w.heap.size,0,none⟩)) true ty).run Tryz.prog (w.iter s pos)=_:=fun ty=>run_next_any w s pos ty hp
   have Hc:=hid hc;clear hd hcc hc
   go_wp2
   go_roundw
   case rel=>exact⟨pos+(Utf8.decode s pos).2,hashStep acc (Utf8.decode s pos),rfl,z4u (by unfold hashStep;omega),z3i _ _,by have:=Hc.out;rw[List.drop_drop] at this;exact this⟩
   case measure=>simp;omega
  ·have hnx:∀ty,(Instr.next (.pointer (some ⟨w.heap.size,0,none⟩)) true ty).run Tryz.prog (w.iter s pos)=_:=fun ty=>run_next_end w s pos ty hp
   rw[z9b hp] at hc;have Hc:=hid hc;clear hc
   go_wp2
   go_ret;exact⟨z1j (by have:=Hc.out;rw[z8i] at this;omega),z2a _ _ _⟩
set_option maxHeartbeats 400000 in
theorem zfa (s:ByteArray) (w:World) (hs:s.size≤140737488355328):
  Calls Tryz.prog 122 #[.string s] w fun e w'=>e=.returned (.int .i64 ((hashL s.data.toList:Nat):Int))∧w=w':=by
 go_enter Tryz.func122,Tryz.ntmps122
 go_wp2_with fail
 go_loop [3,4] (fun n i=>∃(pos acc:Nat),i=.int .i64 pos∧n=.int .i64 acc∧pos≤s.size∧acc<4294967296∧hashFrom (s.data.toList.drop pos) acc=hashL s.data.toList) (fun _ i=>s.size-(intOf i).toNat)
 case atStart=>exact⟨0,7,rfl,rfl,by omega,by omega,by simp[hashL]⟩
 case round=>
  obtain⟨pos,acc,rfl,rfl,hps,hacc,hc⟩:=hrel
  by_cases hp:pos<s.size
  ·have hw:=z0p (s.data.toList.drop pos);have hle:=z4s (s.data.toList.drop pos);have hf:=z2q _ (z5t hp);rw[List.length_drop] at hf;have hsz:s.data.toList.length=s.size:=rfl;rw[hsz] at hf;have hcc:=z6n _ acc (z5t hp);rw[hcc] at hc;have Hc:=hid hc;clear hcc hc hsz;go_wp2_with fail;refine(zgh s pos hp _ hs).mono ?_;rintro e w' ⟨c,k,rfl,hc1,hk1,hk2,rfl⟩;have hk1':k≤4:=by omega
   have hcle:c≤1114111:=by omega
   have Hc1:=hid hc1;have Hk1:=hid hk1;clear hc1 hk1 hk2
   by_cases hk0:1≤k
   ·go_wp2
    go_round
    case rel=>exact⟨pos+(decodeL (s.data.toList.drop pos)).2,hashStep acc (decodeL (s.data.toList.drop pos)),z4u (by have:=Hk1.out;omega),z4u (by have:=Hc1.out;unfold hashStep;omega),by omega,z3i _ _,by have:=Hc.out;rw[List.drop_drop] at this;exact this⟩
    case measure=>simp[intOf];omega
   ·obtain rfl:k=0:=by omega
    go_wp2
    go_round
    case rel=>exact⟨pos+(decodeL (s.data.toList.drop pos)).2,hashStep acc (decodeL (s.data.toList.drop pos)),z4u (by have:=Hk1.out;omega),z4u (by have:=Hc1.out;unfold hashStep;omega),by omega,z3i _ _,by have:=Hc.out;rw[List.drop_drop] at this;exact this⟩
    case measure=>simp[intOf];omega
  ·rw[z9b hp] at hc;have Hc:=hid hc;clear hc
   go_wp2
   go_ret;exact⟨z1j (by have:=Hc.out;rw[z8i] at this;omega),rfl⟩
set_option maxHeartbeats 400000 in
theorem z3m (s:ByteArray) (w:World) (hs:s.size≤140737488355328):
  Calls Tryz.prog 90 #[.string s] w fun e w'=>e=.returned (.int .i64 ((hashL s.data.toList%8:Nat):Int))∧w=w':=by
 have hh:=zlu s.data.toList
 go_enter Tryz.func90,Tryz.ntmps90
 go_wp2_with fail;refine(zfa s _ hs).mono ?_;rintro e w' ⟨rfl,rfl⟩
 go_wp2
 go_ret;exact⟨z1j (by omega),rfl⟩
theorem z2v (w:World) (num:Int) (dir:Bool) (E:Option Addr) (m d:Nat) (data:ByteArray):∃W,w.alloc (.cells #[.int .i64 num,.bool dir,.slice E m d,.string data] 53)=W∧W.cell? ⟨w.heap.size,0,.none⟩=some (.int .i64 num)∧W.cell? ⟨w.heap.size,1,.none⟩=some (.bool dir)∧W.cell? ⟨w.heap.size,2,.none⟩=some (.slice E m d)∧W.cell? ⟨w.heap.size,3,.none⟩=some (.string data)∧Below w.heap.size w W∧w.heap.size<W.heap.size:=by
 refine⟨_,rfl,?_,?_,?_,?_,(Below.refl _ _).alloc (Nat.le_refl _) _,by simp⟩
 ·exact(World.cell?_alloc_mark w _ _ (0,0) _).trans rfl
 ·exact(World.cell?_alloc_mark w _ _ (0,0) _).trans rfl
 ·exact(World.cell?_alloc_mark w _ _ (0,0) _).trans rfl
 ·exact(World.cell?_alloc_mark w _ _ (0,0) _).trans rfl
theorem z6r (w:World) (name:ByteArray) (num:Int):∃W,w.alloc (.cells #[.string name,.int .i64 num] 120)=W∧W.cell? ⟨w.heap.size,0,.none⟩=some (.string name)∧W.cell? ⟨w.heap.size,1,.none⟩=some (.int .i64 num)∧Below w.heap.size w W∧w.heap.size<W.heap.size:=by
 refine⟨_,rfl,?_,?_,(Below.refl _ _).alloc (Nat.le_refl _) _,by simp⟩
 ·exact(World.cell?_alloc_mark w _ _ (0,0) _).trans rfl
 ·exact(World.cell?_alloc_mark w _ _ (0,0) _).trans rfl
def ManyAt (w:World) (M:Nat) (f:Nat→Nat):Prop:=∃cur:Array Value,w.heap[M]? =some (.cells cur 3 (0,0))∧∀j,j<8→cur[j]? =some (.int .i64 (f j:Nat))
theorem ManyAt.lt {w:World} {M:Nat} {f:Nat→Nat} (h:ManyAt w M f):M<w.heap.size:=by
 obtain⟨cur,hh,_⟩:=h;exact(Array.getElem?_eq_some_iff.1 hh).1
theorem ManyAt.below {w w':World} {M:Nat} {f:Nat→Nat} (h:ManyAt w M f) (hb:Below w.heap.size w w'):ManyAt w' M f:=by
 have hl:=h.lt;obtain⟨cur,hh,hc⟩:=h;exact⟨cur,(hb.block M hl).trans hh,hc⟩
theorem ManyAt.get {w:World} {M:Nat} {f:Nat→Nat} (h:ManyAt w M f) (j:Nat) (hj:j<8):w.cell? ⟨M,j,.none⟩=some (.int .i64 (f j:Nat))∧w.frozen? ⟨M,j,.none⟩=false:=by
 obtain⟨cur,hh,hc⟩:=h;exact⟨by rw[cell_of_row w M j cur _ (0,0) hh];exact hc j hj,frozen_of_row w M j cur _ hh⟩
theorem ManyAt.set {w:World} {M:Nat} {f:Nat→Nat} (h:ManyAt w M f) (b:Nat) (hb:b<8):ManyAt (w.setCell ⟨M,b,.none⟩ (.int .i64 ((f b:Int)+1))) M (fun j=>if j=b then f j+1 else f j):=by
 obtain⟨cur,hh,hc⟩:=h;refine⟨_,heap_setCell_same w M b cur _ _ hh,fun j hj=>?_⟩;rw[Array.getElem?_setIfInBounds]
 by_cases e:b=j
 ·subst e;have:b<cur.size:=(Array.getElem?_eq_some_iff.1 (hc b hb)).1;simp[this]
 ·have e2:¬j=b:=fun h=>e h.symm
  simp only[e,e2,if_false];exact hc j hj
theorem zi6 (w:World):(Instr.makeSlice 25 (.int .i64 8) (.int .i64 8)).run Tryz.prog w=.ok (.slice (some ⟨w.heap.size,0,.none⟩) 8 8) (w.alloc (.cells #[.int .i64 0,.int .i64 0,.int .i64 0,.int .i64 0,.int .i64 0,.int .i64 0,.int .i64 0,.int .i64 0] 3)):=by kernel_rfl
theorem zi7 (w:World):∃W,w.alloc (.cells #[.int .i64 0,.int .i64 0,.int .i64 0,.int .i64 0,.int .i64 0,.int .i64 0,.int .i64 0,.int .i64 0] 3)=W∧ManyAt W w.heap.size (fun _=>0)∧Below w.heap.size w W:=by
 refine⟨_,rfl,⟨_,heap_alloc_new w _,fun j hj=>?_⟩,(Below.refl _ _).alloc (Nat.le_refl _) _⟩;have:j=0∨j=1∨j=2∨j=3∨j=4∨j=5∨j=6∨j=7:=by omega
 rcases this with h|h|h|h|h|h|h|h<;>subst h<;>rfl
def prevN (es:List En) (k:Nat):Option ByteArray:=if k=0 then none else(es[k-1]?).map (·.name)
theorem znr (s:ByteArray):bktB s<8:=Nat.mod_lt _ (by omega)
set_option maxRecDepth 100000 in
set_option maxHeartbeats 8000000 in
theorem z0d (v : Value) (s : St) (w : World) (h : StAt none w v s) (x : Ino) (E : Option Addr) (m2 d2 : Nat) (hE : EntsAt none w E m2 x.ents) (hmd : SlOk E m2 d2) (hm2 : m2 ≤ 1099511627776) (htx : ∀ e ∈ x.ents, e.name.size ≤ 140737488355328) :
  Calls Tryz.prog 52 #[v,.agg #[.int .i64 x.num,.bool x.dir,.slice E m2 d2,.string x.data]] w fun e w'=>e=.returned (.bool (entsV s.inos x.ents))∧Below w.heap.size w w':=by
 obtain⟨⟨A,n,c,B,m,d,D,k,e,rfl,hI,hD,hM,h5,h6,h7⟩,hz⟩:=h;obtain⟨R,hR⟩:∃R,entsV s.inos x.ents=R:=⟨_,rfl⟩;rw[hR];unfold entsV at hR;obtain⟨W,hW,b0,b1,b2,hal,hlt0⟩:=z0u w A n c B m d D k e;obtain⟨U,hU,y0,y1,y2,y3,hal2,hlt2⟩:=z2v W x.num x.dir E m2 d2 x.data;obtain⟨V,hV,hmany,hal3⟩:=zi7 U;have bb0:=(hal2.cell (p:=⟨w.heap.size,0,.none⟩) hlt0).trans b0;have bb1:=(hal2.cell (p:=⟨w.heap.size,1,.none⟩) hlt0).trans b1;have bb2:=(hal2.cell (p:=⟨w.heap.size,2,.none⟩) hlt0).trans b2;have HS:=hid ((StAt.of_parts hI hD hM h5 h6 h7 hz).below (Cv.next hal hal2));have HE:=hid (hE.below (Cv.next hal hal2));have HAL:=hid (Cv.next hal hal2);have HAL3:=hid hal3;have HR:=hid hR;have HTX:=hid htx;have HMY:=hid hmany;have hmk:=zi6 U;have hlt3:w.heap.size<U.heap.size:=Nat.lt_of_lt_of_le hlt0 hal2.size;clear hI hD hM hz hR hal hal2 hE htx b0 b1 b2 hmany hal3
 go_enter Tryz.func52,Tryz.ntmps52
 go_wp2_with fail;clear hW hU hmk hV
 go_loopw [6,7,8] (fun i _ _ wr=>∃(k:Nat) (f:Nat→Nat),i=.int .i64 k∧k≤m2∧Below U.heap.size U wr∧ManyAt wr U.heap.size f∧(∀j,f j≤k)∧entsG s.inos (x.ents.drop k) (prevN x.ents k) f=R) (fun i _ _ _=>m2-(intOf i).toNat)
 case atStart=>exact⟨0,fun _=>0,rfl,by omega,HAL3.out,HMY.out,fun _=>Nat.le_refl _,HR.out⟩
 case round =>
  obtain⟨k,f,rfl,hk,hbel,hmy,hfk,hc⟩:=hrel;have z0:=(hbel.cell (p:=⟨w.heap.size,0,.none⟩) hlt3).trans bb0;have z1:=(hbel.cell (p:=⟨w.heap.size,1,.none⟩) hlt3).trans bb1;have z2:=(hbel.cell (p:=⟨w.heap.size,2,.none⟩) hlt3).trans bb2;have z3:=(hbel.cell (p:=⟨W.heap.size,2,.none⟩) hlt2).trans y2;have HB:=hid hbel;have HM:=hid hmy;have HF:=hid hfk;have HSr:=hid (HS.out.below hbel);have HEr:=hid (HE.out.below hbel);clear hbel hmy hfk
  by_cases hlt:k<m2
  ·obtain⟨g,off,y,rfl,hg,hy,hd,hmem,e0,e1⟩:=HEr.out.get k hlt;rw[hd,entsG] at hc;have hsz:=HTX.out y hmem;have k0:(0:Int)≤(k:Int):=by omega
   have k1:(k:Int)<(m2:Int):=by omega
   obtain⟨BD,hBD⟩:∃BD,entBad s.inos (prevN x.ents k) y=BD:=⟨_,rfl⟩;rw[hBD] at hc;have HBD:=hid hBD;have HC:=hid hc;have HY:=hid hy;clear hBD;clear hc hd hmem hy;obtain⟨V2,hV2,v0,v1,hal4,hlt4⟩:=z6r wr y.name y.num;have HAL4:=hid hal4;have HSV:=hid (HSr.out.below hal4);have HEV:=hid (HEr.out.below hal4);clear hal4;go_upto_region 6 with fail
   have x0:=(HAL4.out.cell (p:=⟨w.heap.size,0,.none⟩) (Nat.lt_of_lt_of_le hlt3 HB.out.size)).trans z0;have x1:=(HAL4.out.cell (p:=⟨w.heap.size,1,.none⟩) (Nat.lt_of_lt_of_le hlt3 HB.out.size)).trans z1;have x2:=(HAL4.out.cell (p:=⟨w.heap.size,2,.none⟩) (Nat.lt_of_lt_of_le hlt3 HB.out.size)).trans z2;have x3:=(HAL4.out.cell (p:=⟨W.heap.size,2,.none⟩) (Nat.lt_of_lt_of_le hlt2 HB.out.size)).trans z3;have hx:∀(X:Ext V2) (p:Addr),(V2.cell? p).isSome=true→X.w.cell? p=V2.cell? p:=fun X p h=>X.cell p h
   have hsp:(0:Nat)≤0:=Nat.le_refl _;clear hV2 z0 z1 z2 z3 e0 e1
   go_cut [54] (fun c wx=>c=.bool BD∧∃X:Ext V2,wx=X.w)
   case first =>
    by_cases hchk:checkL y.name.data.toList=0
    ·have qc:(((checkL y.name.data.toList:Nat):Int) != 0)=false:=by rw[hchk];rfl
     by_cases hk0:k=0
     ·have q1:decide ((0:Int)<(k:Int))=false:=by simp;omega
      have hp:prevN x.ents k=none:=if_pos hk0
      by_cases hnum:y.num=1
      ·have q2:(y.num==1)=true:=by rw[hnum];rfl
       refine wre ?_
       repeat (go_big_quiet_step (first|(go_at_call 88;rename_i X;exact Calls.ext_of_same (z1f _ _ hsz))|(go_at_call 89;rename_i X;exact Calls.ext_of ((z5v _ _ _ hsp hsz).mono fun _ _ hh=>⟨hh.1,by obtain⟨q,rfl⟩:=hh.2;exact Cv.drewN_below (Below.refl _ _) q⟩))|(go_at_call 60;rename_i X;exact Calls.ext_of (z2y _ s _ _ (HSV.out.below X.bel)))))
       refine wpQuiet_nil ?_;rintro w7 ⟨X,rfl⟩;go_wp2_with fail;go_meet;exact⟨congrArg Value.bool (by rw[←HBD.out];unfold entBad chkB;rw[hp];simp[hchk,hnum]),X,rfl⟩
      ·have q2:(y.num==1)=false:=by rw[beq_eq_false_iff_ne];exact hnum
       refine wre ?_
       repeat (go_big_quiet_step (first|(go_at_call 88;rename_i X;exact Calls.ext_of_same (z1f _ _ hsz))|(go_at_call 89;rename_i X;exact Calls.ext_of ((z5v _ _ _ hsp hsz).mono fun _ _ hh=>⟨hh.1,by obtain⟨q,rfl⟩:=hh.2;exact Cv.drewN_below (Below.refl _ _) q⟩))|(go_at_call 60;rename_i X;exact Calls.ext_of (z2y _ s _ _ (HSV.out.below X.bel)))))
       refine wpQuiet_nil ?_;rintro w7 ⟨X,rfl⟩;go_wp2_with fail;go_meet;exact⟨congrArg Value.bool (by rw[←HBD.out];unfold entBad chkB;rw[hp];simp[hchk,hnum]),X,rfl⟩
     ·obtain⟨j,rfl⟩:∃j,k=j+1:=⟨k-1,by omega⟩;have q1:decide ((0:Int)<((j+1:Nat):Int))=true:=by rw[decide_eq_true_eq];omega
      have q1b:decide ((0:Int)<(j:Int)+1)=true:=by rw[decide_eq_true_eq];omega
      obtain⟨g',off',y',hA',hg',hy',_,hmem',f0,f1⟩:=HEV.out.get j (by omega);injection hA' with hA'
      injection hA' with hA1 hA2
      subst hA1 hA2;have hsp:=HTX.out y' hmem';have hp:prevN x.ents (j+1)=some y'.name:=by unfold prevN;rw[if_neg (by omega),Nat.add_sub_cancel,hy'];rfl
      have j0:(0:Int)≤(j:Int):=by omega
      have j1:(j:Int)<(m2:Int):=by omega
      have jw:IntKind.i64.wrap ((j:Int)+1-1)=(j:Int):=by rw[IntKind.wrap_i64];omega
      have HP:=hid hp;clear hp hy' hmem' hk0
      by_cases hlt2:ltN y'.name y.name=true
      ·by_cases hnum:y.num=1
       ·have q2:(y.num==1)=true:=by rw[hnum];rfl
        refine wre ?_
        repeat (go_big_quiet_step (first|(go_at_call 88;rename_i X;exact Calls.ext_of_same (z1f _ _ hsz))|(go_at_call 89;rename_i X;exact Calls.ext_of ((z5v _ _ _ hsp hsz).mono fun _ _ hh=>⟨hh.1,by obtain⟨q,rfl⟩:=hh.2;exact Cv.drewN_below (Below.refl _ _) q⟩))|(go_at_call 60;rename_i X;exact Calls.ext_of (z2y _ s _ _ (HSV.out.below X.bel)))))
        refine wpQuiet_nil ?_;rintro w7 ⟨X,rfl⟩;go_wp2_with fail;go_meet;exact⟨congrArg Value.bool (by rw[←HBD.out];unfold entBad chkB;rw[HP.out];simp[hchk,hnum,hlt2]),X,rfl⟩
       ·have q2:(y.num==1)=false:=by rw[beq_eq_false_iff_ne];exact hnum
        refine wre ?_
        repeat (go_big_quiet_step (first|(go_at_call 88;rename_i X;exact Calls.ext_of_same (z1f _ _ hsz))|(go_at_call 89;rename_i X;exact Calls.ext_of ((z5v _ _ _ hsp hsz).mono fun _ _ hh=>⟨hh.1,by obtain⟨q,rfl⟩:=hh.2;exact Cv.drewN_below (Below.refl _ _) q⟩))|(go_at_call 60;rename_i X;exact Calls.ext_of (z2y _ s _ _ (HSV.out.below X.bel)))))
        refine wpQuiet_nil ?_;rintro w7 ⟨X,rfl⟩;go_wp2_with fail;go_meet;exact⟨congrArg Value.bool (by rw[←HBD.out];unfold entBad chkB;rw[HP.out];simp[hchk,hnum,hlt2]),X,rfl⟩
      ·have hlt3:ltN y'.name y.name=false:=by simpa using hlt2
       refine wre ?_
       repeat (go_big_quiet_step (first|(go_at_call 88;rename_i X;exact Calls.ext_of_same (z1f _ _ hsz))|(go_at_call 89;rename_i X;exact Calls.ext_of ((z5v _ _ _ hsp hsz).mono fun _ _ hh=>⟨hh.1,by obtain⟨q,rfl⟩:=hh.2;exact Cv.drewN_below (Below.refl _ _) q⟩))|(go_at_call 60;rename_i X;exact Calls.ext_of (z2y _ s _ _ (HSV.out.below X.bel)))))
       refine wpQuiet_nil ?_;rintro w7 ⟨X,rfl⟩;go_wp2_with fail;go_meet;exact⟨congrArg Value.bool (by rw[←HBD.out];unfold entBad chkB;rw[HP.out];simp[hchk,hlt3]),X,rfl⟩
    ·have qc:(((checkL y.name.data.toList:Nat):Int) != 0)=true:=by rw[bne_iff_ne];omega
     refine wre ?_
     repeat (go_big_quiet_step (first|(go_at_call 88;rename_i X;exact Calls.ext_of_same (z1f _ _ hsz))|(go_at_call 89;rename_i X;exact Calls.ext_of ((z5v _ _ _ hsp hsz).mono fun _ _ hh=>⟨hh.1,by obtain⟨q,rfl⟩:=hh.2;exact Cv.drewN_below (Below.refl _ _) q⟩))|(go_at_call 60;rename_i X;exact Calls.ext_of (z2y _ s _ _ (HSV.out.below X.bel)))))
     refine wpQuiet_nil ?_;rintro w7 ⟨X,rfl⟩;go_wp2_with fail;go_meet;exact⟨congrArg Value.bool (by rw[←HBD.out];unfold entBad chkB;simp[hchk]),X,rfl⟩
   case rest=>
    obtain⟨rfl,X,rfl⟩:=hcut;generalize hZe:X.w=Z;have hZ:=hZe▸X.bel;clear hZe X;have hbx:=Cv.next HAL4.out hZ;have e0:=(hZ.cell (p:=⟨wr.heap.size,0,.none⟩) hlt4).trans v0;have hU:=Cv.next HB.out hbx;have HMZ:=hid (HM.out.below hbx);have HUZ:=hid hU;clear hx x0 x1 x2 x3 v0 v1 hbx hU hZ;cases BD;rotate_left
    ·have hr:=HC.out;rw[if_pos rfl] at hr;have HR2:=hid hr;clear hr;go_wp2_with fail;go_ret;exact⟨Cv.ret_bool HR2.out,Cv.next HAL.out HUZ.out⟩
    ·have hr:=HC.out;rw[if_neg (by simp)] at hr;obtain⟨b,hb⟩:∃b,hashL y.name.data.toList%8=b:=⟨_,rfl⟩;have hbk:bktB y.name=b:=hb;rw[hbk] at hr;have hb8:b<8:=by rw[←hb];exact Nat.mod_lt _ (by omega)
     have hfb:=HF.out b;obtain⟨cb,fz⟩:=HMZ.out.get b hb8;have b0:(0:Int)≤(b:Int):=by omega
     have b8:(b:Int)<8:=by omega
     have wf:IntKind.i64.wrap ((f b:Int)+1)=(f b:Int)+1:=by rw[IntKind.wrap_i64];omega
     have HBK:=hid hb;have HR2:=hid hr;clear hr hbk hb;go_wp2_with fail;refine(z3m y.name _ hsz).mono ?_;rintro e w2 ⟨rfl,rfl⟩;rw[HBK.out]
     by_cases h4:4<f b+1
     ·have hr:=HR2.out;rw[if_pos h4] at hr;have HR3:=hid hr;have q4:decide ((4:Int)<(f b:Int)+1)=true:=by simp;omega
      clear hr;go_wp2_with fail;go_ret;exact⟨Cv.ret_bool HR3.out,Cv.next HAL.out (HUZ.out.setCell (Nat.le_refl _) _)⟩
     ·have hr:=HR2.out;rw[if_neg h4] at hr;have HR3:=hid hr;have q4:decide ((4:Int)<(f b:Int)+1)=false:=by simp;omega
      clear hr;go_wp2_with fail;go_roundw
      case rel=>exact⟨k+1,fun j=>if j=b then f j+1 else f j,by go_num,by omega,HUZ.out.setCell (Nat.le_refl _) _,HMZ.out.set b hb8,fun j=>by have:=HF.out j;simp only;split<;>omega,by
       have e:prevN x.ents (k+1)=some y.name:=by unfold prevN;rw[if_neg (by omega),Nat.add_sub_cancel,HY.out];rfl
       rw[e];exact HR3.out⟩
      case measure=>simp[intOf];omega
  ·have:x.ents.drop k=[]:=List.drop_eq_nil_of_le (by have:=HEr.out.1;omega);rw[this,entsG] at hc;have HC:=hid hc;clear hc this;go_wp2_with fail;go_ret;exact⟨Cv.ret_bool HC.out,Cv.next HAL.out HB.out⟩
end Go.Proofs.YtkflaifopbodfaaGreatDoor
