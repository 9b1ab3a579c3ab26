/- Parts of the proof, side by side: MoMay, PlainSum, LaPutP, FsDo, FsSized, FsDo2, Rows0, DoRound. -/
import Derived.Test.YtmmpkfcdfcldlaaGreatM14
import Derived.Test.YtmmpkfcdfcldlaaGreatM12
import Derived.Test.YtmmpkfcdfcldlaaGreatFsMake
import Derived.Test.YtmmpkfcdfcldlaaGreatFsOpened
import Derived.Test.YtmmpkfcdfcldlaaGreatM06
import Derived.Test.YtmmpkfcdfcldlaaGreatM11
import Derived.Deep.RegionHeld3
import Derived.Lib.BufferWrite
import Derived.Deep.WholeRow
import Derived.Deep.RegionWith
import Derived.Test.YtmmpkfcdfcldlaaGreatM04
set_option linter.unusedVariables false
set_option linter.unusedSimpArgs false
namespace Go.Proofs.YtmmpkfcdfcldlaaGreat
open Lib (hid)
open Go.RowKit
theorem z9v (is:List Ino):∀(es:List En) (p:Option ByteArray) (many:Nat→Nat),entsG is es p many=true→∀e∈es,0≤atV is e.num
 | [],_,_,_,e,he=>by simp at he
 | y :: es, p, many, h, e, he => by
  unfold entsG at h
  split at h
  ·cases h
  ·rename_i hb
   split at h
   ·cases h
   ·rcases List.mem_cons.1 he with h1|h1
    ·subst h1;apply Classical.byContradiction;intro hn;exact hb (by unfold entBad;rw[decide_eq_true (show atV is e.num<0 by omega)];simp)
    ·exact z9v is es _ _ h e h1
theorem z3r (is:List Ino):∀(xs:List Ino),shapesM is xs=true→∀x∈xs,(x.dir=false→x.ents=[])∧∀e∈x.ents,0≤atV is e.num
 | [],_,x,hx=>by simp at hx
 | y :: xs, h, x, hx => by
  unfold shapesM at h
  by_cases hd:y.dir=true
  ·rw [if_pos hd] at h
   split at h
   ·cases h
   ·rename_i hc
    rcases List.mem_cons.1 hx with h1|h1
    ·subst h1;refine⟨fun h2=>(by rw[hd] at h2;cases h2),?_⟩
     have:entsV is x.ents=true:=by
      cases hv:entsV is x.ents
      ·exact absurd (.inr hv) hc
      ·rfl
     exact z9v is _ _ _ this
    ·exact z3r is xs h x h1
  ·rw [if_neg hd] at h
   split at h
   ·cases h
   ·rename_i hc
    rcases List.mem_cons.1 hx with h1|h1
    ·subst h1
     have he:x.ents=[]:=by
      apply Classical.byContradiction;intro hn;exact hc (.inl hn)
     exact⟨fun _=>he,by rw[he];simp⟩
    ·exact z3r is xs h x h1
theorem z5v {s:St} (hm:mMadeV s=true) (h:mInosV s=true):RiseI s.inos∧Linked s.inos∧s.inos.length≤257∧∃x0,s.inos[0]? =some x0∧x0.num=1:=by
 unfold mInosV at h;rw[Bool.and_eq_true,Bool.and_eq_true] at h;obtain⟨⟨h1,h2⟩,h3⟩:=h;unfold mMadeV at hm;rw[Bool.and_eq_true,Bool.and_eq_true] at hm;cases e:s.inos with
 | nil=>rw[e] at h1;cases h1
 | cons x xs=>
  rw[e] at h1 h2 h3;unfold rootB at h1;rw[Bool.and_eq_true,decide_eq_true_eq] at h1;refine⟨RiseI.of_nums h2,z3r _ _ h3,?_,x,rfl,h1.1⟩;have:=z8u s.made xs x.num hm.2 h2 (by omega);rw[List.length_cons];omega
set_option maxRecDepth 100000 in
set_option maxHeartbeats 8000000 in
theorem z8w (v : Value) (s : St) (w : World) (h : StAt none w v s) :
  Calls Tryz.prog 12 #[v] w fun e w'=>e=.returned (.bool (mayV s))∧Below w.heap.size w w':=by
 obtain⟨⟨A,n,c,B,m,d,D,k,e,rfl,hI,hD,hM,h5,h6,h7⟩,hz⟩:=h;obtain⟨W,hW,b0,b1,b2,hal,hlt0⟩:=z1l w A n c B m d D k e;obtain⟨R,hR⟩:∃R,mayV s=R:=⟨_,rfl⟩;rw[hR];rw[ze0] at hR;have hrow:W.heap[w.heap.size]? =some (.cells #[.slice A n c,.slice B m d,.slice D k e] 26 (0,0)):=by rw[←hW];exact heap_alloc_new w _
 have hp:PtrAt W w.heap.size s:=⟨⟨A,n,c,B,m,d,D,k,e,hrow,hI.below hal,hD.below hal,hM.below hal,h5,h6,h7⟩,hz⟩;have HP:=hid hp;have HI:=hid hI;have HAL:=hid hal;have HR:=hid hR;obtain⟨BM,hBM⟩:∃BM,mMadeV s=BM:=⟨_,rfl⟩;obtain⟨BI,hBI⟩:∃BI,mInosV s=BI:=⟨_,rfl⟩;obtain⟨BO,hBO⟩:∃BO,opensV s=BO:=⟨_,rfl⟩;have HBM:=hid hBM;have HBI:=hid hBI;have HBO:=hid hBO;clear hI hD hM hz hrow hp hal hR hBM hBI hBO
 go_enter Tryz.func12,Tryz.ntmps12
 go_wp2_with fail;refine(ze3 w.heap.size s W HP.out).mono ?_;rintro e1 w1 ⟨rfl,rfl⟩;rw[HBM.out];cases BM
 ·have hr:=HR.out;have hbm:=HBM.out;unfold mMadeV at hbm;rw[hbm,Bool.false_and,Bool.false_and,Bool.false_and] at hr;have HR2:=hid hr;clear hr hbm;go_wp2_with fail;go_ret;exact⟨Cv.ret_bool HR2.out,HAL.out⟩
 go_wp2_with fail;refine(ze5 w.heap.size s W HP.out).mono ?_;rintro e2 w2 ⟨rfl,hb2⟩;rw[HBI.out];have HP2:=hid (HP.out.below hb2);have HB2:=hid (Cv.next HAL.out hb2);clear hb2;cases BI
 ·have hr:=HR.out;have hbi:=HBI.out;unfold mInosV at hbi;rw[hbi,Bool.and_false,Bool.false_and,Bool.false_and] at hr;have HR2:=hid hr;clear hr hbi;go_wp2_with fail;go_ret;exact⟨Cv.ret_bool HR2.out,HB2.out⟩
 obtain⟨hri,hlk,hle,x0,hx0,hxn⟩:=z5v HBM.out HBI.out;have HRI:=hid hri;have HLK:=hid hlk;have HLE:=hid hle;have HX0:=hid hx0;have HXN:=hid hxn;clear hri hlk hle hx0 hxn;go_wp2_with fail;refine(ze6 w.heap.size s _ HP2.out HRI.out).mono ?_;rintro e3 w3 ⟨rfl,hb3⟩;rw[HBO.out];have HP3:=hid (HP2.out.below hb3);have HB3:=hid (Cv.next HB2.out hb3);clear hb3;cases BO
 ·have hr:=HR.out;rw[HBO.out,Bool.and_false,Bool.false_and] at hr;have HR2:=hid hr;clear hr;go_wp2_with fail;go_ret;exact⟨Cv.ret_bool HR2.out,HB3.out⟩
 have hr:=HR.out;have hbm:=HBM.out;unfold mMadeV at hbm;have hbi:=HBI.out;unfold mInosV at hbi;rw[hbm,hbi,HBO.out,Bool.true_and,Bool.true_and,Bool.true_and] at hr;have HR2:=hid hr;clear hr hbm hbi;go_wp2_with fail;refine(zcw w.heap.size s x0 _ HP3.out HRI.out HLK.out HX0.out HXN.out HLE.out).mono ?_;rintro e4 w4 ⟨G1,G2,rfl,hnu,hfl,hb4⟩;rw[show s.inos.length=n from HI.out.1] at hnu hfl ⊢;have HNU:=hid hnu;have HFL:=hid hfl;have HB4:=hid (Cv.next HB3.out hb4);have HP4:=hid (HP3.out.below hb4);obtain⟨MV,hMV⟩:∃MV,manyV s.inos=MV:=⟨_,rfl⟩;obtain⟨FV,hFV⟩:∃FV,reachV s.inos=FV:=⟨_,rfl⟩;rw[hMV] at HNU;rw[hFV] at HFL;have hr:=HR2.out;rw[hMV,hFV] at hr;have HR3:=hid hr;have hln:s.inos.length=n:=HI.out.1;have HLN:=hid hln;clear hnu hfl hb4 hMV hFV hr HR2 HR hln;obtain⟨A2,n2,c2,E2,m2,d2,D2,k2,e2,hp4,p0,p1,p2,hI4,_,_,hn4,_,_⟩:=HP4.out.val
 have hn2:n2=n:=by rw[←hI4.1];exact HLN.out
 subst hn2;have HI4:=hid hI4;clear hI4 p1 p2 b0 b1 b2 h5 h6 h7;go_wp2_with fail;clear hW
 go_loopw [5,24] (fun _ i wr=>∃q:Nat,i=.int .i64 q∧q≤n2∧Below w4.heap.size w4 wr∧finalM s (s.inos.drop q) (decide (q=0)) (MV.drop q) (FV.drop q)=R) (fun _ i _=>n2-(intOf i).toNat)
 case atStart=>exact⟨0,rfl,by omega,Below.refl _ _,HR3.out⟩
 case round =>
  obtain⟨q,rfl,hq,hbel,hc⟩:=hrel;have HBr:=hid hbel;have HIr:=hid (HI4.out.below hbel);have hnr:=(HNU.out.below hbel);have hfr:=(HFL.out.below hbel);have HPr:=hid (HP4.out.below hbel);clear hbel
  by_cases hlt:q<n2
  ·obtain⟨g,off,x,E3,m3,d3,rfl,hg,hx,hd,hmem,e0,e1,e2,hok,hE,e3⟩:=HIr.out.get q hlt;have k0:(0:Int)≤(q:Int):=by omega
   have k1:(q:Int)<(n2:Int):=by omega
   obtain⟨V1,hV1,u0,u1,u2,u3,hal,hlt1⟩:=z4c wr x.num x.dir E3 m3 d3 x.data;rw[hd] at hc;obtain⟨m,hm⟩:∃m,MV.getD q 0=m:=⟨_,rfl⟩;obtain⟨f,hf⟩:∃f,FV.getD q false=f:=⟨_,rfl⟩;obtain⟨mc,_⟩:=(hnr.below hal).get q hlt;obtain⟨fc,_⟩:=(hfr.below hal).get q hlt;rw[hm] at mc;rw[hf] at fc;have hh1:(MV.drop q).headD 0=m:=by rw[←hm];simp[List.headD_eq_head?_getD,List.head?_drop]
   have hh2:(FV.drop q).headD false=f:=by rw[←hf];simp[List.headD_eq_head?_getD,List.head?_drop]
   have ht1:(MV.drop q).tail=MV.drop (q+1):=by simp
   have ht2:(FV.drop q).tail=FV.drop (q+1):=by simp
   rw[finalM,hh1,hh2,ht1,ht2] at hc;have HBV:=hid (Cv.next HBr.out hal);have HPV:=hid (HPr.out.below hal);have q9:decide (q+1=0)=false:=by simp
   obtain⟨NX,hNX⟩:∃NX,finalM s (s.inos.drop (q+1)) false (MV.drop (q+1)) (FV.drop (q+1))=NX:=⟨_,rfl⟩;rw[hNX] at hc;have HNX:=hid hNX;have HQ9:=hid q9;clear hd hmem hok hE hx hh1 hh2 ht1 ht2 hm hf hnr hfr hal hNX q9
   by_cases hq0:q=0
   ·have qe:((q:Int)==0)=true:=by rw[beq_iff_eq];omega
    rw[decide_eq_true hq0,if_pos rfl] at hc;have HC:=hid hc;clear hc hq0;go_wp2_with fail;go_roundw
    case rel=>exact⟨q+1,by go_num,by omega,HBV.out,by rw[HQ9.out,HNX.out];exact HC.out⟩
    case measure=>simp[intOf];omega
   ·have qe:((q:Int)==0)=false:=by rw[beq_eq_false_iff_ne];omega
    rw[decide_eq_false hq0,if_neg (by simp)] at hc;clear hq0;obtain⟨DX,hDX⟩:∃DX,x.dir=DX:=⟨_,rfl⟩;rw[hDX] at hc e1 u1;have hV1':=hV1;rw[hDX] at hV1';clear hV1 hDX;cases DX
    ·cases f
     ·by_cases hm0:0<m
      ·have qm:decide ((0:Int)<(m:Int))=true:=by rw[decide_eq_true_eq];omega
       rw[if_neg (by simp),if_pos ⟨rfl,rfl,.inl hm0⟩] at hc;have HC:=hid hc;have hmz:¬m=0:=by omega
       clear hc;go_wp2_with fail;go_ret;exact⟨Cv.ret_bool HC.out,Cv.next HB4.out HBV.out⟩
      ·obtain rfl:m=0:=by omega
       obtain⟨OB,hOB⟩:∃OB,openB s.opn x.num=OB:=⟨_,rfl⟩;rw[hOB] at hc;have HC:=hid hc;have HOB:=hid hOB;clear hc hm0 hOB;go_wp2_with fail;refine(z9u w.heap.size s x.num _ HPV.out).mono ?_;rintro e9 w9 ⟨rfl,hb9⟩;rw[HOB.out];have HB9:=hid (Cv.next HBV.out hb9);clear hb9;cases OB
       ·have hc:false=R:=by have h:=HC.out;simpa using h
        have HC2:=hid hc;clear hc;go_wp2_with fail;go_ret;exact⟨Cv.ret_bool HC2.out,Cv.next HB4.out HB9.out⟩
       ·have hc:NX=R:=by have h:=HC.out;simpa using h
        have HC2:=hid hc;clear hc;go_wp2_with fail;go_roundw
        case rel=>exact⟨q+1,by go_num,by omega,HB9.out,by rw[HQ9.out,HNX.out];exact HC2.out⟩
        case measure=>simp[intOf];omega
     ·rw[if_neg (by simp),if_neg (by simp)] at hc;have HC:=hid hc;clear hc;go_wp2_with fail;go_roundw
      case rel=>exact⟨q+1,by go_num,by omega,HBV.out,by rw[HQ9.out,HNX.out];exact HC.out⟩
      case measure=>simp[intOf];omega
    ·by_cases hm1:m=1
     ·subst hm1;cases f
      ·rw[if_pos ⟨rfl,.inr rfl⟩] at hc;have HC:=hid hc;clear hc;go_wp2_with fail;go_ret;exact⟨Cv.ret_bool HC.out,Cv.next HB4.out HBV.out⟩
      ·rw[if_neg (by simp),if_neg (by simp)] at hc;have HC:=hid hc;clear hc;go_wp2_with fail;go_roundw
       case rel=>exact⟨q+1,by go_num,by omega,HBV.out,by rw[HQ9.out,HNX.out];exact HC.out⟩
       case measure=>simp[intOf];omega
     ·have qm:((m:Int) != 1)=true:=by rw[bne_iff_ne];omega
      rw[if_pos ⟨rfl,.inl hm1⟩] at hc;have HC:=hid hc;have qm2:(m==1)=false:=by rw[beq_eq_false_iff_ne];exact hm1
      have qm3:(m != 1)=true:=by rw[bne_iff_ne];exact hm1
      clear hc;go_wp2_with fail;go_ret;exact⟨Cv.ret_bool HC.out,Cv.next HB4.out HBV.out⟩
  ·have hnil:s.inos.drop q=[]:=List.drop_eq_nil_of_le (by have:=HIr.out.1;omega);rw[hnil,finalM] at hc;have HC:=hid hc;have q1:decide ((q:Int)<(n2:Int))=false:=by rw[decide_eq_false_iff_not];omega
   clear hc hnil hnr hfr;go_wp2_with fail;go_ret;exact⟨Cv.ret_bool HC.out,Cv.next HB4.out HBr.out⟩
end Go.Proofs.YtmmpkfcdfcldlaaGreat
namespace Go.Proofs.YtmmpkfcdfcldlaaGreat
open Lib (hid)
def hP:Nat:=1099511628211
def hM:Nat:=18446744073709551616
def hQ:Nat:=14886173955864302971
theorem zcx:∀(l:List Int),madeG l=true→∀x∈l,0≤x∧x≤32
 | [],_,x,hx=>by simp at hx
 | y :: l, h, x, hx => by
  unfold madeG at h
  split at h
  ·cases h
  ·rcases List.mem_cons.1 hx with h1|h1
   ·subst h1;omega
   ·exact zcx l h x h1
theorem z9w (is:List Ino):∀(es:List En) (p:Option ByteArray) (many:Nat→Nat),entsG is es p many=true→∀e∈es,e.name.size≤12
 | [],_,_,_,e,he=>by simp at he
 | y :: es, p, many, h, e, he => by
  unfold entsG at h
  split at h
  ·cases h
  ·rename_i hb
   split at h
   ·cases h
   ·rcases List.mem_cons.1 he with h1|h1
    ·subst h1;apply Classical.byContradiction;intro hn;apply hb;have hs:e.name.data.toList.length=e.name.size:=Array.length_toList
     have hc:chkB e.name=801:=by
      unfold chkB checkL;rw[if_pos (by omega)]
     unfold entBad;rw[hc];simp
    ·exact z9w is es _ _ h e h1
theorem z5w (is:List Ino):∀(xs:List Ino),shapesM is xs=true→∀x∈xs,x.data.size≤256∧∀e∈x.ents,e.name.size≤12
 | [],_,x,hx=>by simp at hx
 | y :: xs, h, x, hx => by
  unfold shapesM at h
  by_cases hd:y.dir=true
  ·rw [if_pos hd] at h
   split at h
   ·cases h
   ·rename_i hc
    rcases List.mem_cons.1 hx with h1|h1
    ·subst h1
     have:entsV is x.ents=true:=by
      cases hv:entsV is x.ents
      ·exact absurd (.inr hv) hc
      ·rfl
     refine⟨?_,z9w is _ _ _ this⟩
     have:x.data.size=0:=by
      apply Classical.byContradiction;intro hn;exact hc (.inl hn)
     omega
    ·exact z5w is xs h x h1
  ·rw [if_neg hd] at h
   split at h
   ·cases h
   ·rename_i hc
    rcases List.mem_cons.1 hx with h1|h1
    ·subst h1
     have he:x.ents=[]:=by
      apply Classical.byContradiction;intro hn;exact hc (.inl hn)
     refine⟨?_,by rw[he];simp⟩;apply Classical.byContradiction;intro hn;exact hc (.inr (by omega))
    ·exact z5w is xs h x h1
theorem zfe:∀(is:List Ino) (x:Ino),x∈is→x.ents.length≤bulkE is
 | [],x,h=>by simp at h
 | y::is,x,h=>by
  have h3:bulkE (y::is)=y.ents.length+bulkE is:=rfl
  rcases List.mem_cons.1 h with h1|h1
  ·subst h1;omega
  ·have:=zfe is x h1;omega
structure MayOk (s:St):Prop where
 made:1≤s.made.length∧s.made.length≤8∧∀m∈s.made,0≤m∧m≤32
 inos:1≤s.inos.length∧s.inos.length≤257
 nums:∀x∈s.inos,1≤x.num∧x.num≤257
 data:∀x∈s.inos,x.data.size≤256∧∀e∈x.ents,e.name.size≤12
 linked:Linked s.inos
 rise:RiseI s.inos
theorem z4h {s:St} (h:mayV s=true):MayOk s:=by
 rw[ze0,Bool.and_eq_true,Bool.and_eq_true,Bool.and_eq_true] at h;obtain⟨⟨⟨h1,h2⟩,_⟩,_⟩:=h;have hm:mMadeV s=true:=h1;have hi:mInosV s=true:=h2;obtain⟨f1,f2,f3,x0,f4,f5⟩:=z5v hm hi;rw[Bool.and_eq_true,Bool.and_eq_true,decide_eq_true_eq,decide_eq_true_eq] at h1;rw[Bool.and_eq_true,Bool.and_eq_true] at h2;refine⟨⟨h1.1.1,h1.1.2,zcx _ h1.2⟩,⟨?_,f3⟩,?_,z5w _ _ h2.2,f2,f1⟩
 ·have:=(List.getElem?_eq_some_iff.1 f4).1;omega
 ·cases e:s.inos with
  | nil=>intro x hx;simp at hx
  | cons y ys=>
   rw[e] at f4 h2;have hy:y=x0:=by simpa using f4
   subst hy;obtain⟨p1,_,p3⟩:=z4g s.made ys y.num h2.1.2;intro x hx
   rcases List.mem_cons.1 hx with h3|h3
   ·subst h3;omega
   ·have:=p1 x h3;have:=zfc h1.2 (p3 x h3);omega
theorem MayOk.ino {s:St} (h:MayOk s) (hb:bulkE s.inos≤1099511627776) (x:Ino) (hx:x∈s.inos):InoOk x:=by
 have h1:=h.nums x hx;have h2:=h.data x hx;refine⟨by omega,by omega,by have:=zfe _ _ hx;omega,fun e he=>?_⟩;have h3:=(h.linked x hx).2 e he;have h4:=h2.2 e he;obtain⟨y,hy,hn⟩:=z8d (is:=s.inos) (t:=e.num) (k:=(atV s.inos e.num).toNat) (by omega);have h5:=h.nums y (List.mem_of_getElem? hy);omega
end Go.Proofs.YtmmpkfcdfcldlaaGreat
namespace Go.Proofs.YtmmpkfcdfcldlaaGreat
open Lib (hid)
open Go.RowKit
theorem z1s {fn:Func} {p q u:Tmp} {ty tz:TypeId} (h:fn.results=#[.cell p ty,.cell q tz,.tmp u]) (tmps:Array Value) (P:Program) (w:World):
  (results fn tmps).run P w =
   ((asAddr (tmps.getD p undef)).run P w).andThen fun a w₁=>((loadVar ty a).run P w₁).andThen fun v w₂=>((asAddr (tmps.getD q undef)).run P w₂).andThen fun b w₃=>((loadVar tz b).run P w₃).andThen fun z w₄=>.ok (.tuple #[v,z,tmps.getD u undef]) w₄:=by
 simp only[results,h];simp[Sem.run_bind,Result.andThen]
theorem StAt.keep3 {B:Nat} {w w':World} {v:Value} {s:St} (h:StAt (some B) w v s) (k1:KeepT 59 w w') (k2:KeepT 73 w w') (k3:KeepT 75 w w') (k4:KeepT 3 w w'):StAt (some B) w' v s:=by
 obtain⟨⟨A,n,c,E,m,d,D,k,e,h1,h2,h3,h4,h5,h6,h7⟩,hz⟩:=h;exact⟨⟨A,n,c,E,m,d,D,k,e,h1,h2.keep k1 k2,h3.keep k3,h4.keep k4,h5,h6,h7⟩,hz⟩
theorem EntsAt.lower {B B':Nat} {w:World} {A:Option Addr} {n:Nat} {es:List En} (h:EntsAt (some B) w A n es) (hb:B'≤B):EntsAt (some B') w A n es:=
 ⟨h.1, fun hn => by
  obtain⟨g,off,hA,hg,hm,hc⟩:=h.2 hn;exact⟨g,off,hA,hg,hm.mono hb,hc⟩⟩
theorem StAt.lower {B B':Nat} {w:World} {v:Value} {s:St} (h:StAt (some B) w v s) (hb:B'≤B):StAt (some B') w v s:=by
 obtain⟨⟨A,n,c,E,m,d,D,k,e,h1,h2,h3,h4,h5,h6,h7⟩,hz⟩:=h;refine⟨⟨A,n,c,E,m,d,D,k,e,h1,⟨h2.1,fun hn=>?_⟩,⟨h3.1,fun hn=>?_⟩,⟨h4.1,fun hn=>?_⟩,h5,h6,h7⟩,hz⟩
 ·obtain⟨g,off,hA,hg,hm,hc⟩:=h2.2 hn;refine⟨g,off,hA,hg,hm.mono hb,fun j x hx=>?_⟩;obtain⟨a1,a2,⟨B2,m2,c2,a3,a4,a5⟩,a6⟩:=hc j x hx;exact⟨a1,a2,⟨B2,m2,c2,a3,a4,a5.lower hb⟩,a6⟩
 ·obtain⟨g,off,hA,hg,hm,hc⟩:=h3.2 hn;exact⟨g,off,hA,hg,hm.mono hb,hc⟩
 ·obtain⟨g,off,hA,hg,hm,hc⟩:=h4.2 hn;exact⟨g,off,hA,hg,hm.mono hb,hc⟩
theorem zio {s:St} (h:mayV s=true):Whole s.inos:=by
 have hm:=z4h h;refine⟨?_,fun x hx=>(hm.linked x hx).2⟩;rw[ze0,Bool.and_eq_true,Bool.and_eq_true,Bool.and_eq_true] at h;obtain⟨⟨⟨h1,h2⟩,_⟩,_⟩:=h;have h3:mMadeV s=true:=h1;have h4:mInosV s=true:=h2;obtain⟨f1,f2,f3,x0,f4,f5⟩:=z5v h3 h4;rw[z0g f1 f4 f5];omega
def MakeSized (s:St) (c:Ca):Prop:=
 Sized { s with made:=s.made.set c.core.toNat (s.made.getD c.core.toNat 0+1) }∧
 Sized { s with made:=s.made.set c.core.toNat (s.made.getD c.core.toNat 0+1),inos:=setEnts s.inos (parentV s.inos c.path).1 fun es=>putE es (parentV s.inos c.path).2.1 (2+c.core+8*s.made.getD c.core.toNat 0) }∧
 Sized (make1V s c).1∧(parentV s.inos c.path).2.1.size≤140737488355328
theorem z5x (l:List UInt8) (k:Nat) (h:l.length≤k):sizedL l k=l++List.replicate (k-l.length) 0:=by
 unfold sizedL;rw[List.take_append,List.take_of_length_le h]
 congr 1
 rw[List.take_replicate]
 congr 1
 omega
set_option maxRecDepth 100000 in
set_option maxHeartbeats 4000000 in
theorem zip (s:ByteArray) (k:Nat) (w:World) (hs:s.size≤k) (hk:k≤65536):
  Calls Tryz.prog 127 #[.string s,.int .i64 (k:Int)] w fun e w'=>∃g,e=.returned (.slice (some ⟨g,0,.none⟩) k k)∧Cv.ByteRow w' g (sizedL s.data.toList k)∧w.heap.size≤g∧Below w.heap.size w w':=by
 have hl:s.data.toList.length=s.size:=Array.length_toList;have hmk:=run_make_row' (P:=Tryz.prog) 148 5 (.int .u8 0) 1 Tryz.underlying148 z5d rfl .i64 .i64 k (by omega) (by omega) w;have hg0:=heap_alloc_new w (.cells (madeCells #[.int .u8 0] k) 5);have hcs:(madeCells #[Value.int .u8 0] k).size=k:=by simp[madeCells]
 have hcp:=fun ty=>Lib.run_copy_row_string (P:=Tryz.prog) (ty:=ty) (w.alloc (.cells (madeCells #[.int .u8 0] k) 5)) 148 9 5 w.heap.size 0 k k s _ _ Tryz.underlying148 (by kernel_rfl) hg0 hs (by rw[hcs];omega)
 obtain⟨NC,hNC⟩:∃NC:Array Value,(((madeCells #[Value.int .u8 0] k).toList.take 0)++Lib.byteCells s.data.toList++(madeCells #[Value.int .u8 0] k).toList.drop (0+s.size)).toArray=NC:=⟨_,rfl⟩
 have hnc:NC=(Lib.byteCells (sizedL s.data.toList k)).toArray:=by
  rw[←hNC,z5x _ _ (by omega),Lib.byteCells_append]
  congr 1
  have e1:(madeCells #[Value.int .u8 0] k).toList=List.replicate k (Value.int .u8 0):=by
   apply List.ext_getElem
   ·simp[madeCells]
   ·intro i h1 h2;simp[madeCells,Nat.mod_one]
  rw[e1,hl];simp[Lib.byteCells]
 rw[hNC,hnc] at hcp;obtain⟨W2,hW2⟩:∃W2,w.alloc (.cells (Lib.byteCells (sizedL s.data.toList k)).toArray 5)=W2:=⟨_,rfl⟩
 have hcp2:∀ty,(Builtin.copy_ #[148,9] ty #[.slice (some ⟨w.heap.size,0,none⟩) k k,.string s]).run Tryz.prog (w.alloc (.cells (madeCells #[.int .u8 0] k) 5))=.ok (goInt s.size) W2:=by
  intro ty;rw[hcp ty,World.setRow_alloc_new,hW2]
 have hrow:Cv.ByteRow W2 w.heap.size (sizedL s.data.toList k):=by
  have hh:W2.heap[w.heap.size]? =some (.cells (Lib.byteCells (sizedL s.data.toList k)).toArray 5 (0,0)):=by rw[←hW2];exact heap_alloc_new w _
  refine⟨(Array.getElem?_eq_some_iff.1 hh).1,fun j hj=>⟨?_,frozen_of_row W2 w.heap.size j _ _ hh⟩⟩;rw[cell_of_row W2 w.heap.size j _ _ (0,0) hh];simp[Lib.byteCells,hj]
 have hb:Below w.heap.size w W2:=by rw[←hW2];exact(Below.refl _ _).alloc (Nat.le_refl _) _
 have HR:=hid hrow;have HB:=hid hb;clear hg0 hcs hcp hNC hnc hW2 hrow hb hl
 go_enter Tryz.func127,Tryz.ntmps127
 go_wp2_with fail;go_ret;exact⟨w.heap.size,rfl,HR.out,Nat.le_refl _,HB.out⟩
theorem z6q {fn:Func} {p q:Tmp} {ty tz:TypeId} (h:fn.results=#[.cell p ty,.cell q tz]) (tmps:Array Value) (P:Program) (w:World):
  (results fn tmps).run P w =
   ((asAddr (tmps.getD p undef)).run P w).andThen fun a w₁=>((loadVar ty a).run P w₁).andThen fun v w₂=>((asAddr (tmps.getD q undef)).run P w₂).andThen fun b w₃=>((loadVar tz b).run P w₃).andThen fun z w₄=>.ok (.tuple #[v,z]) w₄:=by
 simp only[results,h];simp[Sem.run_bind,Result.andThen]
theorem z9x {w:World} {b:Nat} {t:TypeId} {a0 a1 a2:Value} (h:w.heap[b]? =some (.cells #[a0,a1,a2] t (0,0))) (x y z:Value):(((w.setCell ⟨b,0,none⟩ x).setCell ⟨b,1,none⟩ y).setCell ⟨b,2,none⟩ z).heap[b]? =some (.cells #[x,y,z] t (0,0)):=
 heap_setCell_same _ b 2 _ _ z (heap_setCell_same _ b 1 _ _ y (heap_setCell_same w b 0 _ _ x h))
theorem z3s {w:World} {b g k:Nat} {u:Value} {o:Option Obj} (h:w.heap[b]? =o) (hne:b≠g):(w.setCell ⟨g,k,none⟩ u).heap[b]? =o:=(Below.heap_setCell w ⟨g,k,none⟩ u b hne).trans h
theorem z6r {w:World} {b:Nat} {x:Obj} {o:Option Obj} (h:w.heap[b]? =o) (hlt:b<w.heap.size):(w.alloc x).heap[b]? =o:=(heap_alloc_old w x hlt).trans h
theorem z2k (w:World) (o:Obj) (b:Nat) (hb:b=w.heap.size):(w.alloc o).heap[b]? =some o:=by subst hb;exact heap_alloc_new w o
theorem z0z {u w5:World} {g:Nat} {o:Obj} (hb:Below u.heap.size u w5) (h:u.heap[g]? =some o):w5.heap[g]? =some o:=(hb.block g (Array.getElem?_eq_some_iff.1 h).1).trans h
theorem al1 (w:World) (o:Obj):(w.alloc o).drew.heap[w.heap.size]? =some o:=heap_alloc_new w o
theorem zn9 (w:World) (o o':Obj):((w.alloc o).alloc o').drew.heap[w.heap.size]? =some o:=z6r (heap_alloc_new w o) (by simp)
theorem zna (w:World) (o o':Obj):((w.alloc o).alloc o').drew.heap[w.heap.size+1]? =some o':=z2k (w.alloc o) o' _ (by simp)
theorem StAt.set {B:Nat} {w:World} {v:Value} {s:St} (h:StAt (some B) w v s) {g:Nat} {t:TypeId} (hg:∃cur,w.heap[g]? =some (.cells cur t (0,0))) (h1:t≠59) (h2:t≠73) (h3:t≠75) (h4:t≠3) (k:Nat) (u:Value):
  StAt (some B) (w.setCell ⟨g,k,none⟩ u) v s:=by
 obtain⟨cur,hc⟩:=hg;exact h.keep3 (KeepT.set hc h1) (KeepT.set hc h2) (KeepT.set hc h3) (KeepT.set hc h4)
theorem z0l {w:World} {g g' k:Nat} {u:Value} {t:TypeId} (h:∃cur,w.heap[g]? =some (.cells cur t (0,0))):∃cur,(w.setCell ⟨g',k,none⟩ u).heap[g]? =some (.cells cur t (0,0)):=by
 obtain⟨cur,hc⟩:=h
 by_cases e:g=g'
 ·subst e;exact⟨_,heap_setCell_same w g k _ _ u hc⟩
 ·exact⟨cur,(Below.heap_setCell w ⟨g',k,none⟩ u g e).trans hc⟩
theorem StAt.alloc {lo:Option Nat} {w:World} {v:Value} {s:St} (h:StAt lo w v s) (o:Obj):StAt lo (w.alloc o) v s:=h.below ((Below.refl _ _).alloc (Nat.le_refl _) _)
theorem StAt.set3 {B:Nat} {w:World} {v:Value} {s:St} (h:StAt (some B) w v s) {g:Nat} {cur:Array Value} (hg:w.heap[g]? =some (.cells cur 26 (0,0))) (x y z:Value):
  StAt (some B) (((w.setCell ⟨g,0,none⟩ x).setCell ⟨g,1,none⟩ y).setCell ⟨g,2,none⟩ z) v s:=
 (((h.set ⟨_,hg⟩ (by decide) (by decide) (by decide) (by decide) 0 x).set (z0l ⟨_,hg⟩) (by decide) (by decide) (by decide) (by decide) 1 y).set (z0l (z0l ⟨_,hg⟩)) (by decide) (by decide) (by decide) (by decide) 2 z)
theorem StAt.set6 {B:Nat} {w:World} {v:Value} {s:St} (h:StAt (some B) w v s) {g:Nat} {cur:Array Value} (hg:w.heap[g]? =some (.cells cur 32 (0,0))) (x y z p q r:Value):
  StAt (some B) ((((((w.setCell ⟨g,0,none⟩ x).setCell ⟨g,1,none⟩ y).setCell ⟨g,2,none⟩ z).setCell ⟨g,3,none⟩ p).setCell ⟨g,4,none⟩ q).setCell ⟨g,5,none⟩ r) v s:=
 ((((((h.set ⟨_, hg⟩ (by decide) (by decide) (by decide) (by decide) 0 x).set (z0l ⟨_, hg⟩) (by decide) (by decide) (by decide) (by decide) 1 y).set (z0l (z0l ⟨_, hg⟩)) (by decide) (by decide) (by decide) (by decide) 2 z).set (z0l (z0l (z0l ⟨_, hg⟩))) (by decide) (by decide) (by decide) (by decide) 3 p).set
  (z0l (z0l (z0l (z0l ⟨_,hg⟩)))) (by decide) (by decide) (by decide) (by decide) 4 q).set (z0l (z0l (z0l (z0l (z0l ⟨_,hg⟩))))) (by decide) (by decide) (by decide) (by decide) 5 r)
theorem z7m {B:Nat} {u w:World} (h:Below B u w) {g:Nat} (hg:B≤g) (x y z:Value):Below B u (((w.setCell ⟨g,0,none⟩ x).setCell ⟨g,1,none⟩ y).setCell ⟨g,2,none⟩ z):=
 ((h.setCell (p:=⟨g,0,none⟩) hg x).setCell (p:=⟨g,1,none⟩) hg y).setCell (p:=⟨g,2,none⟩) hg z
theorem z7n {B:Nat} {u w:World} (h:Below B u w) {g:Nat} (hg:B≤g) (x y z p q r:Value):Below B u ((((((w.setCell ⟨g,0,none⟩ x).setCell ⟨g,1,none⟩ y).setCell ⟨g,2,none⟩ z).setCell ⟨g,3,none⟩ p).setCell ⟨g,4,none⟩ q).setCell ⟨g,5,none⟩ r):=
 (((((h.setCell (p:=⟨g,0,none⟩) hg x).setCell (p:=⟨g,1,none⟩) hg y).setCell (p:=⟨g,2,none⟩) hg z).setCell (p:=⟨g,3,none⟩) hg p).setCell (p:=⟨g,4,none⟩) hg q).setCell (p:=⟨g,5,none⟩) hg r
theorem z2n {w:World} {b g:Nat} {o:Option Obj} (h:w.heap[b]? =o) (hne:b≠g) (x y z:Value):(((w.setCell ⟨g,0,none⟩ x).setCell ⟨g,1,none⟩ y).setCell ⟨g,2,none⟩ z).heap[b]? =o:=z3s (z3s (z3s h hne) hne) hne
theorem zff {w:World} {b g:Nat} {o:Option Obj} (h:w.heap[b]? =o) (hne:b≠g) (x y z p q r:Value):((((((w.setCell ⟨g,0,none⟩ x).setCell ⟨g,1,none⟩ y).setCell ⟨g,2,none⟩ z).setCell ⟨g,3,none⟩ p).setCell ⟨g,4,none⟩ q).setCell ⟨g,5,none⟩ r).heap[b]? =o:=
 z3s (z3s (z3s (z3s (z3s (z3s h hne) hne) hne) hne) hne) hne
theorem zke (w:World) (o:Obj):w.heap.size<(w.alloc o).heap.size:=by simp
theorem zmf (w:World) (o:Obj):w.heap.size+1=(w.alloc o).heap.size:=by simp
theorem ze7 (w:World) (g:Nat) (x y z:Value):w.heap.size=(((w.setCell ⟨g,0,none⟩ x).setCell ⟨g,1,none⟩ y).setCell ⟨g,2,none⟩ z).heap.size:=by simp[World.setCell]
theorem ze8 (w:World) (g:Nat) (x y z p q r:Value):w.heap.size=((((((w.setCell ⟨g,0,none⟩ x).setCell ⟨g,1,none⟩ y).setCell ⟨g,2,none⟩ z).setCell ⟨g,3,none⟩ p).setCell ⟨g,4,none⟩ q).setCell ⟨g,5,none⟩ r).heap.size:=by simp[World.setCell]
theorem zkf (n:Nat):n≠n+1:=by omega
theorem zbx (n:Nat):n+1≠n:=by omega
theorem zkg (n:Nat):n≤n+1:=by omega
theorem zmg {wr w5:World} {a b c x y z p q r v:Value} {s:St} {B:Nat} (h:StAt (some B) w5 v s) (hb:Below wr.heap.size wr w5):
  OutAt ((w5.alloc (.cells #[a,b,c] 26)).alloc (.cells #[x,y,z,p,q,r] 32)) w5.heap.size a b c∧StAt (some B) ((w5.alloc (.cells #[a,b,c] 26)).alloc (.cells #[x,y,z,p,q,r] 32)) v s∧Below wr.heap.size wr ((w5.alloc (.cells #[a,b,c] 26)).alloc (.cells #[x,y,z,p,q,r] 32))∧wr.heap.size≤w5.heap.size:=by
 have hle:=hb.size;exact⟨z6r (z2k w5 _ _ rfl) (zke _ _),((h.alloc _).alloc _),(hb.alloc hle _).alloc (Nat.le_trans hle (Nat.le_of_lt (zke _ _))) _,hle⟩
theorem zmh {wr w5:World} {a b c x y z p q r v:Value} {s:St} {B:Nat} (h:StAt (some B) w5 v s) (hb:Below wr.heap.size wr w5):
  OutAt ((w5.alloc (.cells #[x,y,z,p,q,r] 32)).alloc (.cells #[a,b,c] 26)) (w5.heap.size+1) a b c∧StAt (some B) ((w5.alloc (.cells #[x,y,z,p,q,r] 32)).alloc (.cells #[a,b,c] 26)) v s∧Below wr.heap.size wr ((w5.alloc (.cells #[x,y,z,p,q,r] 32)).alloc (.cells #[a,b,c] 26))∧wr.heap.size≤(w5.heap.size+1):=by
 have hle:=hb.size;exact⟨z2k (w5.alloc _) _ _ (zmf _ _),((h.alloc _).alloc _),(hb.alloc hle _).alloc (Nat.le_trans hle (Nat.le_of_lt (zke _ _))) _,Nat.le_trans hle (zkg _)⟩
theorem zmi {wr w5:World} {a b c x y z p q r v:Value} {s:St} {B:Nat} (h:StAt (some B) w5 v s) (hb:Below wr.heap.size wr w5) (h0:w5.heap[wr.heap.size]? =some (.cells #[.slice none 0 0,.slice none 0 0,.slice none 0 0] 26)):
  OutAt ((((w5.setCell ⟨wr.heap.size,0,none⟩ a).setCell ⟨wr.heap.size,1,none⟩ b).setCell ⟨wr.heap.size,2,none⟩ c).alloc (.cells #[x,y,z,p,q,r] 32)) wr.heap.size a b c∧StAt (some B) ((((w5.setCell ⟨wr.heap.size,0,none⟩ a).setCell ⟨wr.heap.size,1,none⟩ b).setCell ⟨wr.heap.size,2,none⟩ c).alloc (.cells #[x,y,z,p,q,r] 32)) v s∧Below wr.heap.size wr ((((w5.setCell ⟨wr.heap.size,0,none⟩ a).setCell ⟨wr.heap.size,1,none⟩ b).setCell ⟨wr.heap.size,2,none⟩ c).alloc (.cells #[x,y,z,p,q,r] 32))∧wr.heap.size≤wr.heap.size:=by
 have hle:=hb.size;have l0:=(Array.getElem?_eq_some_iff.1 h0).1;exact⟨z6r (z9x h0 _ _ _) (Nat.lt_of_lt_of_eq l0 (ze7 _ _ _ _ _)),((h.set3 h0 _ _ _).alloc _),(z7m hb (Nat.le_refl _) _ _ _).alloc (Nat.le_trans hle (Nat.le_of_eq (ze7 _ _ _ _ _))) _,Nat.le_refl _⟩
theorem zmj {wr w5:World} {a b c x y z p q r v:Value} {s:St} {B:Nat} (h:StAt (some B) w5 v s) (hb:Below wr.heap.size wr w5) (h0:w5.heap[wr.heap.size]? =some (.cells #[.slice none 0 0,.slice none 0 0,.slice none 0 0] 26)) (h1:w5.heap[wr.heap.size+1]? =some (.cells #[.int .i64 0,.int .i64 0,.int .i64 0,.bool false,.string ⟨#[]⟩,.slice none 0 0] 32)):
  OutAt (((((((((w5.setCell ⟨wr.heap.size,0,none⟩ a).setCell ⟨wr.heap.size,1,none⟩ b).setCell ⟨wr.heap.size,2,none⟩ c).setCell ⟨(wr.heap.size+1),0,none⟩ x).setCell ⟨(wr.heap.size+1),1,none⟩ y).setCell ⟨(wr.heap.size+1),2,none⟩ z).setCell ⟨(wr.heap.size+1),3,none⟩ p).setCell ⟨(wr.heap.size+1),4,none⟩ q).setCell ⟨(wr.heap.size+1),5,none⟩ r) wr.heap.size a b c∧StAt (some B) (((((((((w5.setCell ⟨wr.heap.size,0,none⟩ a).setCell ⟨wr.heap.size,1,none⟩ b).setCell ⟨wr.heap.size,2,none⟩ c).setCell ⟨(wr.heap.size+1),0,none⟩ x).setCell ⟨(wr.heap.size+1),1,none⟩ y).setCell ⟨(wr.heap.size+1),2,none⟩ z).setCell ⟨(wr.heap.size+1),3,none⟩ p).setCell ⟨(wr.heap.size+1),4,none⟩ q).setCell ⟨(wr.heap.size+1),5,none⟩ r) v s∧Below wr.heap.size wr (((((((((w5.setCell ⟨wr.heap.size,0,none⟩ a).setCell ⟨wr.heap.size,1,none⟩ b).setCell ⟨wr.heap.size,2,none⟩ c).setCell ⟨(wr.heap.size+1),0,none⟩ x).setCell ⟨(wr.heap.size+1),1,none⟩ y).setCell ⟨(wr.heap.size+1),2,none⟩ z).setCell ⟨(wr.heap.size+1),3,none⟩ p).setCell ⟨(wr.heap.size+1),4,none⟩ q).setCell ⟨(wr.heap.size+1),5,none⟩ r)∧wr.heap.size≤wr.heap.size:=by
 have hle:=hb.size;have l0:=(Array.getElem?_eq_some_iff.1 h0).1;exact⟨zff (z9x h0 _ _ _) (zkf _) _ _ _ _ _ _,((h.set3 h0 _ _ _).set6 (z2n h1 (zbx _) _ _ _) _ _ _ _ _ _),z7n (z7m hb (Nat.le_refl _) _ _ _) (zkg _) _ _ _ _ _ _,Nat.le_refl _⟩
theorem zmk {wr w5:World} {a b c x y z p q r v:Value} {s:St} {B:Nat} (h:StAt (some B) w5 v s) (hb:Below wr.heap.size wr w5) (h0:w5.heap[wr.heap.size]? =some (.cells #[.int .i64 0,.int .i64 0,.int .i64 0,.bool false,.string ⟨#[]⟩,.slice none 0 0] 32)):
  OutAt (((((((w5.setCell ⟨wr.heap.size,0,none⟩ x).setCell ⟨wr.heap.size,1,none⟩ y).setCell ⟨wr.heap.size,2,none⟩ z).setCell ⟨wr.heap.size,3,none⟩ p).setCell ⟨wr.heap.size,4,none⟩ q).setCell ⟨wr.heap.size,5,none⟩ r).alloc (.cells #[a,b,c] 26)) w5.heap.size a b c∧StAt (some B) (((((((w5.setCell ⟨wr.heap.size,0,none⟩ x).setCell ⟨wr.heap.size,1,none⟩ y).setCell ⟨wr.heap.size,2,none⟩ z).setCell ⟨wr.heap.size,3,none⟩ p).setCell ⟨wr.heap.size,4,none⟩ q).setCell ⟨wr.heap.size,5,none⟩ r).alloc (.cells #[a,b,c] 26)) v s∧Below wr.heap.size wr (((((((w5.setCell ⟨wr.heap.size,0,none⟩ x).setCell ⟨wr.heap.size,1,none⟩ y).setCell ⟨wr.heap.size,2,none⟩ z).setCell ⟨wr.heap.size,3,none⟩ p).setCell ⟨wr.heap.size,4,none⟩ q).setCell ⟨wr.heap.size,5,none⟩ r).alloc (.cells #[a,b,c] 26))∧wr.heap.size≤w5.heap.size:=by
 have hle:=hb.size;have l0:=(Array.getElem?_eq_some_iff.1 h0).1;exact⟨z2k _ _ _ (ze8 _ _ _ _ _ _ _ _),((h.set6 h0 _ _ _ _ _ _).alloc _),(z7n hb (Nat.le_refl _) _ _ _ _ _ _).alloc (Nat.le_trans hle (Nat.le_of_eq (ze8 _ _ _ _ _ _ _ _))) _,hle⟩
theorem zml {wr w5:World} {a b c x y z p q r v:Value} {s:St} {B:Nat} (h:StAt (some B) w5 v s) (hb:Below wr.heap.size wr w5) (h0:w5.heap[wr.heap.size]? =some (.cells #[.int .i64 0,.int .i64 0,.int .i64 0,.bool false,.string ⟨#[]⟩,.slice none 0 0] 32)) (h1:w5.heap[wr.heap.size+1]? =some (.cells #[.slice none 0 0,.slice none 0 0,.slice none 0 0] 26)):
  OutAt (((((((((w5.setCell ⟨(wr.heap.size+1),0,none⟩ a).setCell ⟨(wr.heap.size+1),1,none⟩ b).setCell ⟨(wr.heap.size+1),2,none⟩ c).setCell ⟨wr.heap.size,0,none⟩ x).setCell ⟨wr.heap.size,1,none⟩ y).setCell ⟨wr.heap.size,2,none⟩ z).setCell ⟨wr.heap.size,3,none⟩ p).setCell ⟨wr.heap.size,4,none⟩ q).setCell ⟨wr.heap.size,5,none⟩ r) (wr.heap.size+1) a b c∧StAt (some B) (((((((((w5.setCell ⟨(wr.heap.size+1),0,none⟩ a).setCell ⟨(wr.heap.size+1),1,none⟩ b).setCell ⟨(wr.heap.size+1),2,none⟩ c).setCell ⟨wr.heap.size,0,none⟩ x).setCell ⟨wr.heap.size,1,none⟩ y).setCell ⟨wr.heap.size,2,none⟩ z).setCell ⟨wr.heap.size,3,none⟩ p).setCell ⟨wr.heap.size,4,none⟩ q).setCell ⟨wr.heap.size,5,none⟩ r) v s∧Below wr.heap.size wr (((((((((w5.setCell ⟨(wr.heap.size+1),0,none⟩ a).setCell ⟨(wr.heap.size+1),1,none⟩ b).setCell ⟨(wr.heap.size+1),2,none⟩ c).setCell ⟨wr.heap.size,0,none⟩ x).setCell ⟨wr.heap.size,1,none⟩ y).setCell ⟨wr.heap.size,2,none⟩ z).setCell ⟨wr.heap.size,3,none⟩ p).setCell ⟨wr.heap.size,4,none⟩ q).setCell ⟨wr.heap.size,5,none⟩ r)∧wr.heap.size≤(wr.heap.size+1):=by
 have hle:=hb.size;have l0:=(Array.getElem?_eq_some_iff.1 h0).1;exact⟨zff (z9x h1 _ _ _) (zbx _) _ _ _ _ _ _,((h.set3 h1 _ _ _).set6 (z2n h0 (zkf _) _ _ _) _ _ _ _ _ _),z7n (z7m hb (zkg _) _ _ _) (Nat.le_refl _) _ _ _ _ _ _,zkg _⟩
end Go.Proofs.YtmmpkfcdfcldlaaGreat
