/- Parts of the proof, side by side: MoMay, PlainSum, LaPutP, FsByFd2. -/
import Derived.Test.YtkflaifopbodfaaGreatDoorM12
import Derived.Test.YtkflaifopbodfaaGreatDoorM10
set_option linter.unusedVariables false
set_option linter.unusedSimpArgs false
namespace Go.Proofs.YtkflaifopbodfaaGreatDoor
open Lib (hid)
open Go.RowKit
theorem za4 (is:List Ino):∀(es:List En) (p:Option ByteArray) (many:Nat→Nat),entsG is es p many=true→∀e∈es,0≤atV is e.num
 | [],_,_,_,e,he=>by simp at he
 | y :: es, p, many, h, e, he => by
  unfold entsG at h
  split at h
  ·cases h
  ·rename_i hb
   split at h
   ·cases h
   ·rcases List.mem_cons.1 he with h1|h1
    ·subst h1;apply Classical.byContradiction;intro hn;exact hb (by unfold entBad;rw[decide_eq_true (show atV is e.num<0 by omega)];simp)
    ·exact za4 is es _ _ h e h1
theorem z3p (is:List Ino):∀(xs:List Ino),shapesM is xs=true→∀x∈xs,(x.dir=false→x.ents=[])∧∀e∈x.ents,0≤atV is e.num
 | [],_,x,hx=>by simp at hx
 | y :: xs, h, x, hx => by
  unfold shapesM at h
  by_cases hd:y.dir=true
  ·rw [if_pos hd] at h
   split at h
   ·cases h
   ·rename_i hc
    rcases List.mem_cons.1 hx with h1|h1
    ·subst h1;refine⟨fun h2=>(by rw[hd] at h2;cases h2),?_⟩
     have:entsV is x.ents=true:=by
      cases hv:entsV is x.ents
      ·exact absurd (.inr hv) hc
      ·rfl
     exact za4 is _ _ _ this
    ·exact z3p is xs h x h1
  ·rw [if_neg hd] at h
   split at h
   ·cases h
   ·rename_i hc
    rcases List.mem_cons.1 hx with h1|h1
    ·subst h1
     have he:x.ents=[]:=by
      apply Classical.byContradiction;intro hn;exact hc (.inl hn)
     exact⟨fun _=>he,by rw[he];simp⟩
    ·exact z3p is xs h x h1
theorem z6a {s:St} (hm:mMadeV s=true) (h:mInosV s=true):RiseI s.inos∧Linked s.inos∧s.inos.length≤257∧∃x0,s.inos[0]? =some x0∧x0.num=1:=by
 unfold mInosV at h;rw[Bool.and_eq_true,Bool.and_eq_true] at h;obtain⟨⟨h1,h2⟩,h3⟩:=h;unfold mMadeV at hm;rw[Bool.and_eq_true,Bool.and_eq_true] at hm;cases e:s.inos with
 | nil=>rw[e] at h1;cases h1
 | cons x xs=>
  rw[e] at h1 h2 h3;unfold rootB at h1;rw[Bool.and_eq_true,decide_eq_true_eq] at h1;refine⟨RiseI.of_nums h2,z3p _ _ h3,?_,x,rfl,h1.1⟩;have:=z9c s.made xs x.num hm.2 h2 (by omega);rw[List.length_cons];omega
set_option maxRecDepth 100000 in
set_option maxHeartbeats 8000000 in
theorem zch (v : Value) (s : St) (w : World) (h : StAt none w v s) :
  Calls Tryz.prog 20 #[v] w fun e w'=>e=.returned (.bool (mayV s))∧Below w.heap.size w w':=by
 obtain⟨⟨A,n,c,B,m,d,D,k,e,rfl,hI,hD,hM,h5,h6,h7⟩,hz⟩:=h;obtain⟨W,hW,b0,b1,b2,hal,hlt0⟩:=z0u w A n c B m d D k e;obtain⟨R,hR⟩:∃R,mayV s=R:=⟨_,rfl⟩;rw[hR];rw[zfb] at hR;have hrow:W.heap[w.heap.size]? =some (.cells #[.slice A n c,.slice B m d,.slice D k e] 27 (0,0)):=by rw[←hW];exact heap_alloc_new w _
 have hp:PtrAt W w.heap.size s:=⟨⟨A,n,c,B,m,d,D,k,e,hrow,hI.below hal,hD.below hal,hM.below hal,h5,h6,h7⟩,hz⟩;have HP:=hid hp;have HI:=hid hI;have HAL:=hid hal;have HR:=hid hR;obtain⟨BM,hBM⟩:∃BM,mMadeV s=BM:=⟨_,rfl⟩;obtain⟨BI,hBI⟩:∃BI,mInosV s=BI:=⟨_,rfl⟩;obtain⟨BO,hBO⟩:∃BO,opensV s=BO:=⟨_,rfl⟩;have HBM:=hid hBM;have HBI:=hid hBI;have HBO:=hid hBO;clear hI hD hM hz hrow hp hal hR hBM hBI hBO
 go_enter Tryz.func20,Tryz.ntmps20
 go_wp2_with fail;refine(zfd w.heap.size s W HP.out).mono ?_;rintro e1 w1 ⟨rfl,rfl⟩;rw[HBM.out];cases BM
 ·have hr:=HR.out;have hbm:=HBM.out;unfold mMadeV at hbm;rw[hbm,Bool.false_and,Bool.false_and,Bool.false_and] at hr;have HR2:=hid hr;clear hr hbm;go_wp2_with fail;go_ret;exact⟨Cv.ret_bool HR2.out,HAL.out⟩
 go_wp2_with fail;refine(zfi w.heap.size s W HP.out).mono ?_;rintro e2 w2 ⟨rfl,hb2⟩;rw[HBI.out];have HP2:=hid (HP.out.below hb2);have HB2:=hid (Cv.next HAL.out hb2);clear hb2;cases BI
 ·have hr:=HR.out;have hbi:=HBI.out;unfold mInosV at hbi;rw[hbi,Bool.and_false,Bool.false_and,Bool.false_and] at hr;have HR2:=hid hr;clear hr hbi;go_wp2_with fail;go_ret;exact⟨Cv.ret_bool HR2.out,HB2.out⟩
 obtain⟨hri,hlk,hle,x0,hx0,hxn⟩:=z6a HBM.out HBI.out;have HRI:=hid hri;have HLK:=hid hlk;have HLE:=hid hle;have HX0:=hid hx0;have HXN:=hid hxn;clear hri hlk hle hx0 hxn;go_wp2_with fail;refine(zfj w.heap.size s _ HP2.out HRI.out).mono ?_;rintro e3 w3 ⟨rfl,hb3⟩;rw[HBO.out];have HP3:=hid (HP2.out.below hb3);have HB3:=hid (Cv.next HB2.out hb3);clear hb3;cases BO
 ·have hr:=HR.out;rw[HBO.out,Bool.and_false,Bool.false_and] at hr;have HR2:=hid hr;clear hr;go_wp2_with fail;go_ret;exact⟨Cv.ret_bool HR2.out,HB3.out⟩
 have hr:=HR.out;have hbm:=HBM.out;unfold mMadeV at hbm;have hbi:=HBI.out;unfold mInosV at hbi;rw[hbm,hbi,HBO.out,Bool.true_and,Bool.true_and,Bool.true_and] at hr;have HR2:=hid hr;clear hr hbm hbi;go_wp2_with fail;refine(zdy w.heap.size s x0 _ HP3.out HRI.out HLK.out HX0.out HXN.out HLE.out).mono ?_;rintro e4 w4 ⟨G1,G2,rfl,hnu,hfl,hb4⟩;rw[show s.inos.length=n from HI.out.1] at hnu hfl ⊢;have HNU:=hid hnu;have HFL:=hid hfl;have HB4:=hid (Cv.next HB3.out hb4);have HP4:=hid (HP3.out.below hb4);obtain⟨MV,hMV⟩:∃MV,manyV s.inos=MV:=⟨_,rfl⟩;obtain⟨FV,hFV⟩:∃FV,reachV s.inos=FV:=⟨_,rfl⟩;rw[hMV] at HNU;rw[hFV] at HFL;have hr:=HR2.out;rw[hMV,hFV] at hr;have HR3:=hid hr;have hln:s.inos.length=n:=HI.out.1;have HLN:=hid hln;clear hnu hfl hb4 hMV hFV hr HR2 HR hln;obtain⟨A2,n2,c2,E2,m2,d2,D2,k2,e2,hp4,p0,p1,p2,hI4,_,_,hn4,_,_⟩:=HP4.out.val
 have hn2:n2=n:=by rw[←hI4.1];exact HLN.out
 subst hn2;have HI4:=hid hI4;clear hI4 p1 p2 b0 b1 b2 h5 h6 h7;go_wp2_with fail;clear hW
 go_loopw [5,24] (fun _ i wr=>∃q:Nat,i=.int .i64 q∧q≤n2∧Below w4.heap.size w4 wr∧finalM s (s.inos.drop q) (decide (q=0)) (MV.drop q) (FV.drop q)=R) (fun _ i _=>n2-(intOf i).toNat)
 case atStart=>exact⟨0,rfl,by omega,Below.refl _ _,HR3.out⟩
 case round =>
  obtain⟨q,rfl,hq,hbel,hc⟩:=hrel;have HBr:=hid hbel;have HIr:=hid (HI4.out.below hbel);have hnr:=(HNU.out.below hbel);have hfr:=(HFL.out.below hbel);have HPr:=hid (HP4.out.below hbel);clear hbel
  by_cases hlt:q<n2
  ·obtain⟨g,off,x,E3,m3,d3,rfl,hg,hx,hd,hmem,e0,e1,e2,hok,hE,e3⟩:=HIr.out.get q hlt;have k0:(0:Int)≤(q:Int):=by omega
   have k1:(q:Int)<(n2:Int):=by omega
   obtain⟨V1,hV1,u0,u1,u2,u3,hal,hlt1⟩:=z2v wr x.num x.dir E3 m3 d3 x.data;rw[hd] at hc;obtain⟨m,hm⟩:∃m,MV.getD q 0=m:=⟨_,rfl⟩;obtain⟨f,hf⟩:∃f,FV.getD q false=f:=⟨_,rfl⟩;obtain⟨mc,_⟩:=(hnr.below hal).get q hlt;obtain⟨fc,_⟩:=(hfr.below hal).get q hlt;rw[hm] at mc;rw[hf] at fc;have hh1:(MV.drop q).headD 0=m:=by rw[←hm];simp[List.headD_eq_head?_getD,List.head?_drop]
   have hh2:(FV.drop q).headD false=f:=by rw[←hf];simp[List.headD_eq_head?_getD,List.head?_drop]
   have ht1:(MV.drop q).tail=MV.drop (q+1):=by simp
   have ht2:(FV.drop q).tail=FV.drop (q+1):=by simp
   rw[finalM,hh1,hh2,ht1,ht2] at hc;have HBV:=hid (Cv.next HBr.out hal);have HPV:=hid (HPr.out.below hal);have q9:decide (q+1=0)=false:=by simp
   obtain⟨NX,hNX⟩:∃NX,finalM s (s.inos.drop (q+1)) false (MV.drop (q+1)) (FV.drop (q+1))=NX:=⟨_,rfl⟩;rw[hNX] at hc;have HNX:=hid hNX;have HQ9:=hid q9;clear hd hmem hok hE hx hh1 hh2 ht1 ht2 hm hf hnr hfr hal hNX q9
   by_cases hq0:q=0
   ·have qe:((q:Int)==0)=true:=by rw[beq_iff_eq];omega
    rw[decide_eq_true hq0,if_pos rfl] at hc;have HC:=hid hc;clear hc hq0;go_wp2_with fail;go_roundw
    case rel=>exact⟨q+1,by go_num,by omega,HBV.out,by rw[HQ9.out,HNX.out];exact HC.out⟩
    case measure=>simp[intOf];omega
   ·have qe:((q:Int)==0)=false:=by rw[beq_eq_false_iff_ne];omega
    rw[decide_eq_false hq0,if_neg (by simp)] at hc;clear hq0;obtain⟨DX,hDX⟩:∃DX,x.dir=DX:=⟨_,rfl⟩;rw[hDX] at hc e1 u1;have hV1':=hV1;rw[hDX] at hV1';clear hV1 hDX;cases DX
    ·cases f
     ·by_cases hm0:0<m
      ·have qm:decide ((0:Int)<(m:Int))=true:=by rw[decide_eq_true_eq];omega
       rw[if_neg (by simp),if_pos ⟨rfl,rfl,.inl hm0⟩] at hc;have HC:=hid hc;have hmz:¬m=0:=by omega
       clear hc;go_wp2_with fail;go_ret;exact⟨Cv.ret_bool HC.out,Cv.next HB4.out HBV.out⟩
      ·obtain rfl:m=0:=by omega
       obtain⟨OB,hOB⟩:∃OB,openB s.opn x.num=OB:=⟨_,rfl⟩;rw[hOB] at hc;have HC:=hid hc;have HOB:=hid hOB;clear hc hm0 hOB;go_wp2_with fail;refine(za3 w.heap.size s x.num _ HPV.out).mono ?_;rintro e9 w9 ⟨rfl,hb9⟩;rw[HOB.out];have HB9:=hid (Cv.next HBV.out hb9);clear hb9;cases OB
       ·have hc:false=R:=by have h:=HC.out;simpa using h
        have HC2:=hid hc;clear hc;go_wp2_with fail;go_ret;exact⟨Cv.ret_bool HC2.out,Cv.next HB4.out HB9.out⟩
       ·have hc:NX=R:=by have h:=HC.out;simpa using h
        have HC2:=hid hc;clear hc;go_wp2_with fail;go_roundw
        case rel=>exact⟨q+1,by go_num,by omega,HB9.out,by rw[HQ9.out,HNX.out];exact HC2.out⟩
        case measure=>simp[intOf];omega
     ·rw[if_neg (by simp),if_neg (by simp)] at hc;have HC:=hid hc;clear hc;go_wp2_with fail;go_roundw
      case rel=>exact⟨q+1,by go_num,by omega,HBV.out,by rw[HQ9.out,HNX.out];exact HC.out⟩
      case measure=>simp[intOf];omega
    ·by_cases hm1:m=1
     ·subst hm1;cases f
      ·rw[if_pos ⟨rfl,.inr rfl⟩] at hc;have HC:=hid hc;clear hc;go_wp2_with fail;go_ret;exact⟨Cv.ret_bool HC.out,Cv.next HB4.out HBV.out⟩
      ·rw[if_neg (by simp),if_neg (by simp)] at hc;have HC:=hid hc;clear hc;go_wp2_with fail;go_roundw
       case rel=>exact⟨q+1,by go_num,by omega,HBV.out,by rw[HQ9.out,HNX.out];exact HC.out⟩
       case measure=>simp[intOf];omega
     ·have qm:((m:Int) != 1)=true:=by rw[bne_iff_ne];omega
      rw[if_pos ⟨rfl,.inl hm1⟩] at hc;have HC:=hid hc;have qm2:(m==1)=false:=by rw[beq_eq_false_iff_ne];exact hm1
      have qm3:(m != 1)=true:=by rw[bne_iff_ne];exact hm1
      clear hc;go_wp2_with fail;go_ret;exact⟨Cv.ret_bool HC.out,Cv.next HB4.out HBV.out⟩
  ·have hnil:s.inos.drop q=[]:=List.drop_eq_nil_of_le (by have:=HIr.out.1;omega);rw[hnil,finalM] at hc;have HC:=hid hc;have q1:decide ((q:Int)<(n2:Int))=false:=by rw[decide_eq_false_iff_not];omega
   clear hc hnil hnr hfr;go_wp2_with fail;go_ret;exact⟨Cv.ret_bool HC.out,Cv.next HB4.out HBr.out⟩
end Go.Proofs.YtkflaifopbodfaaGreatDoor
namespace Go.Proofs.YtkflaifopbodfaaGreatDoor
open Lib (hid)
def hP:Nat:=1099511628211
def hM:Nat:=18446744073709551616
def hQ:Nat:=14886173955864302971
theorem zdz:∀(l:List Int),madeG l=true→∀x∈l,0≤x∧x≤32
 | [],_,x,hx=>by simp at hx
 | y :: l, h, x, hx => by
  unfold madeG at h
  split at h
  ·cases h
  ·rcases List.mem_cons.1 hx with h1|h1
   ·subst h1;omega
   ·exact zdz l h x h1
theorem za5 (is:List Ino):∀(es:List En) (p:Option ByteArray) (many:Nat→Nat),entsG is es p many=true→∀e∈es,e.name.size≤12
 | [],_,_,_,e,he=>by simp at he
 | y :: es, p, many, h, e, he => by
  unfold entsG at h
  split at h
  ·cases h
  ·rename_i hb
   split at h
   ·cases h
   ·rcases List.mem_cons.1 he with h1|h1
    ·subst h1;apply Classical.byContradiction;intro hn;apply hb;have hs:e.name.data.toList.length=e.name.size:=Array.length_toList
     have hc:chkB e.name=801:=by
      unfold chkB checkL;rw[if_pos (by omega)]
     unfold entBad;rw[hc];simp
    ·exact za5 is es _ _ h e h1
theorem z6b (is:List Ino):∀(xs:List Ino),shapesM is xs=true→∀x∈xs,x.data.size≤256∧∀e∈x.ents,e.name.size≤12
 | [],_,x,hx=>by simp at hx
 | y :: xs, h, x, hx => by
  unfold shapesM at h
  by_cases hd:y.dir=true
  ·rw [if_pos hd] at h
   split at h
   ·cases h
   ·rename_i hc
    rcases List.mem_cons.1 hx with h1|h1
    ·subst h1
     have:entsV is x.ents=true:=by
      cases hv:entsV is x.ents
      ·exact absurd (.inr hv) hc
      ·rfl
     refine⟨?_,za5 is _ _ _ this⟩
     have:x.data.size=0:=by
      apply Classical.byContradiction;intro hn;exact hc (.inl hn)
     omega
    ·exact z6b is xs h x h1
  ·rw [if_neg hd] at h
   split at h
   ·cases h
   ·rename_i hc
    rcases List.mem_cons.1 hx with h1|h1
    ·subst h1
     have he:x.ents=[]:=by
      apply Classical.byContradiction;intro hn;exact hc (.inl hn)
     refine⟨?_,by rw[he];simp⟩;apply Classical.byContradiction;intro hn;exact hc (.inr (by omega))
    ·exact z6b is xs h x h1
theorem zgt:∀(is:List Ino) (x:Ino),x∈is→x.ents.length≤bulkE is
 | [],x,h=>by simp at h
 | y::is,x,h=>by
  have h3:bulkE (y::is)=y.ents.length+bulkE is:=rfl
  rcases List.mem_cons.1 h with h1|h1
  ·subst h1;omega
  ·have:=zgt is x h1;omega
structure MayOk (s:St):Prop where
 made:1≤s.made.length∧s.made.length≤8∧∀m∈s.made,0≤m∧m≤32
 inos:1≤s.inos.length∧s.inos.length≤257
 nums:∀x∈s.inos,1≤x.num∧x.num≤257
 data:∀x∈s.inos,x.data.size≤256∧∀e∈x.ents,e.name.size≤12
 linked:Linked s.inos
 rise:RiseI s.inos
theorem z4f {s:St} (h:mayV s=true):MayOk s:=by
 rw[zfb,Bool.and_eq_true,Bool.and_eq_true,Bool.and_eq_true] at h;obtain⟨⟨⟨h1,h2⟩,_⟩,_⟩:=h;have hm:mMadeV s=true:=h1;have hi:mInosV s=true:=h2;obtain⟨f1,f2,f3,x0,f4,f5⟩:=z6a hm hi;rw[Bool.and_eq_true,Bool.and_eq_true,decide_eq_true_eq,decide_eq_true_eq] at h1;rw[Bool.and_eq_true,Bool.and_eq_true] at h2;refine⟨⟨h1.1.1,h1.1.2,zdz _ h1.2⟩,⟨?_,f3⟩,?_,z6b _ _ h2.2,f2,f1⟩
 ·have:=(List.getElem?_eq_some_iff.1 f4).1;omega
 ·cases e:s.inos with
  | nil=>intro x hx;simp at hx
  | cons y ys=>
   rw[e] at f4 h2;have hy:y=x0:=by simpa using f4
   subst hy;obtain⟨p1,_,p3⟩:=z4c s.made ys y.num h2.1.2;intro x hx
   rcases List.mem_cons.1 hx with h3|h3
   ·subst h3;omega
   ·have:=p1 x h3;have:=zgm h1.2 (p3 x h3);omega
theorem MayOk.ino {s:St} (h:MayOk s) (hb:bulkE s.inos≤1099511627776) (x:Ino) (hx:x∈s.inos):InoOk x:=by
 have h1:=h.nums x hx;have h2:=h.data x hx;refine⟨by omega,by omega,by have:=zgt _ _ hx;omega,fun e he=>?_⟩;have h3:=(h.linked x hx).2 e he;have h4:=h2.2 e he;obtain⟨y,hy,hn⟩:=z8j (is:=s.inos) (t:=e.num) (k:=(atV s.inos e.num).toNat) (by omega);have h5:=h.nums y (List.mem_of_getElem? hy);omega
end Go.Proofs.YtkflaifopbodfaaGreatDoor
namespace Go.Proofs.YtkflaifopbodfaaGreatDoor
open Lib (hid)
open Go.RowKit
theorem zbj {is:List Ino} {num:Int} {i:Nat} {x:Ino} (h1:atV is num=(i:Int)) (h2:is[i]? =some x) (d:ByteArray):setData is num d=is.set i { x with data:=d }:=by
 unfold setData;rw[h1,Int.toNat_natCast,z1k _ _ _ _ h2]
end Go.Proofs.YtkflaifopbodfaaGreatDoor
