/- Parts of the proof, side by side: FsGrab, FsOpened. -/
import Derived.Test.YtmmpkfcdfcldlaaGreatM10
import Derived.Test.YtmmpkfcdfcldlaaGreatM07
import Derived.Test.YtmmpkfcdfcldlaaGreatM04
import Derived.Test.YtmmpkfcdfcldlaaGreatFsMake
import Derived.Test.YtmmpkfcdfcldlaaGreatM05
set_option linter.unusedVariables false
set_option linter.unusedSimpArgs false
namespace Go.Proofs.YtmmpkfcdfcldlaaGreat
open Lib (hid)
open Go.RowKit
def putDR (ds:List Ds) (y:Ds) (done:Bool):List Ds:=if done then ds else putD ds y
def dsLt (y d:Ds):Bool:=decide (y.core<d.core)||(decide (d.core=y.core)&&decide (y.fd<d.fd))
theorem zht (d:Ds) (ds:List Ds) (y:Ds):putD (d::ds) y=if dsLt y d=true then y::d::ds else d::putD ds y:=by
 show(if y.core<d.core∨(d.core=y.core∧y.fd<d.fd) then y::d::ds else d::putD ds y)=_;unfold dsLt
 by_cases h1:y.core<d.core<;>by_cases h2:d.core=y.core<;>by_cases h3:y.fd<d.fd<;>simp[h1,h2,h3]
set_option maxRecDepth 100000 in
set_option maxHeartbeats 8000000 in
theorem zew (B p:Nat) (s:St) (core fd num:Int) (w:World) (h:Own B w p s) (hB:B≤w.heap.size) (hz:Sized { s with opn:=putD s.opn ⟨core,fd,num⟩ }):
  Calls Tryz.prog 125 #[.pointer (some ⟨p,0,.none⟩),.int .i64 core,.int .i64 fd,.int .i64 num] w fun e w'=>e=.returned (.tuple #[])∧Own B w' p { s with opn:=putD s.opn ⟨core,fd,num⟩ }∧Below B w w'∧Aside p w w':=by
 obtain⟨A,n,c,E,m,d,D,k,e,hBp,hp,c0,c1,c2,fz,hst,hI,hD,hM⟩:=h.val;have hbig:=h.sized.big;have hdl:=hD.1;have hm2:m≤1099511627776:=by omega
 obtain⟨RR,hRR⟩:∃RR,putD s.opn ⟨core,fd,num⟩=RR:=⟨_,rfl⟩;obtain⟨Z,hZ,u0,u1,u2,hal,hlt0⟩:=z4e w core fd num;obtain⟨i1,hi1,hq0,hq1,hq2⟩:=info_parts z5b;have z1:=(hal.cell (p:=⟨p,1,.none⟩) hp).trans c1;have HO:=hid h;have HZB:=hid hal;have HC1:=hid c1;have HFZ:=hid (fz 1);have HRR:=hid hRR;have HZS:=hid hz;have HD:=hid (hD.below hal);have hpZ:p<Z.heap.size:=Nat.lt_of_lt_of_le hp hal.size;have HZe:=hid hZ;clear h hst hI hD hM hz hbig hdl hRR hal c0 c1 c2 fz hZ
 go_enter Tryz.func125,Tryz.ntmps125
 go_wp2_with fail;rw[HZe.out]
 go_loopw [9,10,11,12] (fun o b j _ wr=>∃(q:Nat) (done:Bool) (V:Value) (ds:List Ds),V=o∧b=.bool done∧j=.int .i64 q∧q≤m∧wr.ownsRow Z.heap.size 75 3 V ds.length (ds.flatMap dsV)∧Below Z.heap.size Z wr∧ds++putDR (s.opn.drop q) ⟨core,fd,num⟩ done=RR∧ds.length≤2*q+1) (fun _ _ j _ _=>m-(intOf j).toNat)
 case atStart=>exact⟨0,false,_,[],rfl,rfl,rfl,by omega,World.ownsRow_nil _ _ _ _,Below.refl _ _,HRR.out,by simp⟩
 case round =>
  obtain⟨q,done,V,ds,hV,rfl,rfl,hq,hrow,hbel,hc,hlen⟩:=hrel;subst hV;have y1:=(hbel.cell (p:=⟨p,1,.none⟩) hpZ).trans z1;have x0:=(hbel.cell (p:=⟨w.heap.size,0,.none⟩) hlt0).trans u0;have x1:=(hbel.cell (p:=⟨w.heap.size,1,.none⟩) hlt0).trans u1;have x2:=(hbel.cell (p:=⟨w.heap.size,2,.none⟩) hlt0).trans u2;have HDr:=hid (HD.out.below hbel);have HB:=hid hbel;obtain⟨L,hL⟩:∃L,ds.length=L:=⟨_,rfl⟩;rw[hL] at hrow;have hll:L≤2199023255553:=by omega
  have hlq:L≤2*q+1:=by omega
  have HL:=hid hL;have HR2:=hid hrow;clear hrow hbel hL hlen
  by_cases hlt:q<m
  ·obtain⟨g2,off2,y,rfl,hg2,hy,hdr,_,e0,e1,e2⟩:=HDr.out.get q hlt;rw[hdr] at hc;have k0:(0:Int)≤(q:Int):=by omega
   have k1:(q:Int)<(m:Int):=by omega
   obtain⟨V2,hV2,v0,v1,v2,hal4,hlt4⟩:=z4e wr y.core y.fd y.num;have hbv:=HB.out.trans (hal4.mono HB.out.size);have w0:=(hbv.cell (p:=⟨w.heap.size,0,.none⟩) hlt0).trans u0;have w1:=(hbv.cell (p:=⟨w.heap.size,1,.none⟩) hlt0).trans u1;have w2:=(hbv.cell (p:=⟨w.heap.size,2,.none⟩) hlt0).trans u2;have HB4:=hid hbv;have HR4:=hid (z0z HR2.out hal4);obtain⟨LT,hLT⟩:∃LT,dsLt ⟨core,fd,num⟩ y=LT:=⟨_,rfl⟩;have HLT:=hid hLT;clear hdr hy hal4 hbv hLT;go_upto_region 7 with fail
   clear hV2 x0 x1 x2 e0 e1 e2 y1
   go_cut [52] (fun c wx=>c=.bool (!done&&LT)∧V2=wx)
   case first=>
    cases done
    ·by_cases a1:core<y.core
     ·have hb:LT=true:=by rw[←HLT.out];unfold dsLt;simp[a1]
      go_wp2_with fail;go_meet;exact⟨congrArg Value.bool (by rw[hb];rfl),rfl⟩
     ·have qa:decide (core<y.core)=false:=by rw[decide_eq_false_iff_not];exact a1
      by_cases a2:y.core=core
      ·have qb:(y.core==core)=true:=by rw[a2];exact beq_self_eq_true _
       have HA2:=hid a2;have HA1:=hid a1;clear a2 a1;go_wp2_with fail;go_meet;exact⟨congrArg Value.bool (by rw[←HLT.out];unfold dsLt;simp[HA2.out]),rfl⟩
      ·have qb:(y.core==core)=false:=by rw[beq_eq_false_iff_ne];exact a2
       have hb:LT=false:=by rw[←HLT.out];unfold dsLt;simp[a2];omega
       go_wp2_with fail;go_meet;exact⟨congrArg Value.bool (by rw[hb];rfl),rfl⟩
    ·go_wp2_with fail;go_meet;exact⟨rfl,rfl⟩
   case rest=>
    obtain⟨rfl,rfl⟩:=hcut;cases done
    ·have hstep:ds++(if dsLt ⟨core,fd,num⟩ y=true then(⟨core,fd,num⟩:Ds)::y::s.opn.drop (q+1) else y::putD (s.opn.drop (q+1)) ⟨core,fd,num⟩)=RR:=by rw[←zht];exact hc
     rw[HLT.out] at hstep;cases LT
     ·have HC:=hid (show ds++(y::putD (s.opn.drop (q+1)) ⟨core,fd,num⟩)=RR from hstep);clear hc hstep;go_wp2_with (at_builtin;refine wpList_append_own _ rfl _ _ 23 rfl Z.heap.size 75 i1 (.agg #[.int .i64 0,.int .i64 0,.int .i64 0]) 3 24 Tryz.underlying23 hi1 hq0 hq1 hq2 rfl (by decide) _ L _ rfl (HR4.out.alloc _) ⟨V2.heap.size,0,.none⟩ 1 1 [.int .i64 y.core,.int .i64 y.fd,.int .i64 y.num] rfl rfl (z0y V2 [.int .i64 y.core,.int .i64 y.fd,.int .i64 y.num] _) ?ca2 ?ca3 ?ca4 ?ca5 ?_)
      case ca2=>first|(intro u hu;simp at hu;rcases hu with rfl|rfl|rfl<;>rfl)|(simp;done)|exact⟨rfl,rfl,rfl⟩
      case ca3=>unfold maxLen;omega
      case ca4=>omega
      case ca5=>have:=HB4.out.size;first|omega|(simp;omega)
      intro v7 w7 hown hgrow _;have hbel:Below Z.heap.size Z w7:=(HB4.out.alloc (by have:=HB4.out.size;simpa using this) _).grown hgrow (by have:=HB4.out.size;simp;omega) (fun k hk=>(HR4.out.lt k hk).1);obtain⟨A_v7,c_v7,hv9,_,_,_⟩:=z1e hown (by decide);subst hv9;have HO7:=hid hown;have HB7:=hid hbel;clear hown hgrow hbel;go_wp2_with fail;go_roundw
      case rel=>exact⟨q+1,false,_,ds++[y],rfl,rfl,by go_num,by omega,by rw[List.length_append,HL.out,List.flatMap_append];exact HO7.out,HB7.out,by rw[List.append_assoc];exact HC.out,by rw[List.length_append,HL.out];simp;omega⟩
      case measure=>simp[intOf];omega
     ·have HC:=hid (show ds++((⟨core,fd,num⟩:Ds)::y::s.opn.drop (q+1))=RR from hstep);clear hc hstep;go_wp2_with (at_builtin;refine wpList_append_own _ rfl _ _ 23 rfl Z.heap.size 75 i1 (.agg #[.int .i64 0,.int .i64 0,.int .i64 0]) 3 24 Tryz.underlying23 hi1 hq0 hq1 hq2 rfl (by decide) _ L _ rfl (HR4.out.alloc _) ⟨V2.heap.size,0,.none⟩ 1 1 [.int .i64 core,.int .i64 fd,.int .i64 num] rfl rfl (z0y V2 [.int .i64 core,.int .i64 fd,.int .i64 num] _) ?ca2 ?ca3 ?ca4 ?ca5 ?_)
      case ca2=>first|(intro u hu;simp at hu;rcases hu with rfl|rfl|rfl<;>rfl)|(simp;done)|exact⟨rfl,rfl,rfl⟩
      case ca3=>unfold maxLen;omega
      case ca4=>omega
      case ca5=>have:=HB4.out.size;first|omega|(simp;omega)
      intro v7 w7 hown hgrow _;have hbel:Below Z.heap.size Z w7:=(HB4.out.alloc (by have:=HB4.out.size;simpa using this) _).grown hgrow (by have:=HB4.out.size;simp;omega) (fun k hk=>(HR4.out.lt k hk).1);obtain⟨A_v7,c_v7,hv9,_,_,_⟩:=z1e hown (by decide);subst hv9;have HO7:=hid hown;have HB7:=hid hbel
      have hblk:w7.heap[wr.heap.size]? =V2.heap[wr.heap.size]?:=by
       rw[hgrow.block _ (by simp;omega) (fun e=>by have:=(HR2.out.lt _ e.symm).2;omega),Below.heap_alloc _ _ _ hlt4]
      have o0:=(z1a hblk 0).trans v0;have o1:=(z1a hblk 1).trans v1;have o2:=(z1a hblk 2).trans v2;clear hown hgrow hbel hblk w0 w1 w2 v0 v1 v2;go_wp2_with (at_builtin;refine wpList_append_own _ rfl _ _ 23 rfl Z.heap.size 75 i1 (.agg #[.int .i64 0,.int .i64 0,.int .i64 0]) 3 24 Tryz.underlying23 hi1 hq0 hq1 hq2 rfl (by decide) _ (L+1) _ rfl (HO7.out.alloc _) ⟨w7.heap.size,0,.none⟩ 1 1 [.int .i64 y.core,.int .i64 y.fd,.int .i64 y.num] rfl rfl (z0y w7 [.int .i64 y.core,.int .i64 y.fd,.int .i64 y.num] _) ?ca2 ?ca3 ?ca4 ?ca5 ?_)
      case ca2=>first|(intro u hu;simp at hu;rcases hu with rfl|rfl|rfl<;>rfl)|(simp;done)|exact⟨rfl,rfl,rfl⟩
      case ca3=>unfold maxLen;omega
      case ca4=>omega
      case ca5=>have:=HB7.out.size;first|omega|(simp;omega)
      intro v8 w8 hown hgrow _;have hbel:Below Z.heap.size Z w8:=(HB7.out.alloc (by have:=HB7.out.size;simpa using this) _).grown hgrow (by have:=HB7.out.size;simp;omega) (fun k hk=>(HO7.out.lt k hk).1);obtain⟨A_v8,c_v8,hv9,_,_,_⟩:=z1e hown (by decide);subst hv9;have HO8:=hid hown;have HB8:=hid hbel;clear hown hgrow hbel;go_wp2_with fail;go_roundw
      case rel=>exact⟨q+1,true,_,ds++[⟨core,fd,num⟩]++[y],rfl,rfl,by go_num,by omega,by
       rw[List.length_append,List.length_append,HL.out,List.flatMap_append,List.flatMap_append,List.append_assoc];exact HO8.out,HB8.out,by rw[List.append_assoc,List.append_assoc];exact HC.out,by rw[List.length_append,List.length_append,HL.out];simp;omega⟩
      case measure=>simp[intOf];omega
    ·have HC:=hid (show ds++(y::s.opn.drop (q+1))=RR from hc);simp only[Bool.not_true,Bool.false_and];clear hc;go_wp2_with (at_builtin;refine wpList_append_own _ rfl _ _ 23 rfl Z.heap.size 75 i1 (.agg #[.int .i64 0,.int .i64 0,.int .i64 0]) 3 24 Tryz.underlying23 hi1 hq0 hq1 hq2 rfl (by decide) _ L _ rfl (HR4.out.alloc _) ⟨V2.heap.size,0,.none⟩ 1 1 [.int .i64 y.core,.int .i64 y.fd,.int .i64 y.num] rfl rfl (z0y V2 [.int .i64 y.core,.int .i64 y.fd,.int .i64 y.num] _) ?ca2 ?ca3 ?ca4 ?ca5 ?_)
     case ca2=>first|(intro u hu;simp at hu;rcases hu with rfl|rfl|rfl<;>rfl)|(simp;done)|exact⟨rfl,rfl,rfl⟩
     case ca3=>unfold maxLen;omega
     case ca4=>omega
     case ca5=>have:=HB4.out.size;first|omega|(simp;omega)
     intro v7 w7 hown hgrow _;have hbel:Below Z.heap.size Z w7:=(HB4.out.alloc (by have:=HB4.out.size;simpa using this) _).grown hgrow (by have:=HB4.out.size;simp;omega) (fun k hk=>(HR4.out.lt k hk).1);obtain⟨A_v7,c_v7,hv9,_,_,_⟩:=z1e hown (by decide);subst hv9;have HO7:=hid hown;have HB7:=hid hbel;clear hown hgrow hbel;go_wp2_with fail;go_roundw
     case rel=>exact⟨q+1,true,_,ds++[y],rfl,rfl,by go_num,by omega,by rw[List.length_append,HL.out,List.flatMap_append];exact HO7.out,HB7.out,by rw[List.append_assoc];exact HC.out,by rw[List.length_append,HL.out];simp;omega⟩
     case measure=>simp[intOf];omega
  ·have hnil:s.opn.drop q=[]:=List.drop_eq_nil_of_le (by have:=HD.out.1;omega);rw[hnil] at hc;cases done
   ·have HC:=hid (show ds++[(⟨core,fd,num⟩:Ds)]=RR from hc);clear hc hnil;go_wp2_with (at_builtin;refine wpList_append_own _ rfl _ _ 23 rfl Z.heap.size 75 i1 (.agg #[.int .i64 0,.int .i64 0,.int .i64 0]) 3 24 Tryz.underlying23 hi1 hq0 hq1 hq2 rfl (by decide) _ L _ rfl (HR2.out.alloc _) ⟨wr.heap.size,0,.none⟩ 1 1 [.int .i64 core,.int .i64 fd,.int .i64 num] rfl rfl (z0y wr [.int .i64 core,.int .i64 fd,.int .i64 num] _) ?ca2 ?ca3 ?ca4 ?ca5 ?_)
    case ca2=>first|(intro u hu;simp at hu;rcases hu with rfl|rfl|rfl<;>rfl)|(simp;done)|exact⟨rfl,rfl,rfl⟩
    case ca3=>unfold maxLen;omega
    case ca4=>omega
    case ca5=>have:=HB.out.size;first|omega|(simp;omega)
    intro v7 w7 hown hgrow _;have hbel:Below Z.heap.size Z w7:=(HB.out.alloc (by have:=HB.out.size;simpa using this) _).grown hgrow (by have:=HB.out.size;simp;omega) (fun k hk=>(HR2.out.lt k hk).1);obtain⟨A_v7,c_v7,hv9,_,_,_⟩:=z1e hown (by decide);subst hv9;have HO7:=hid hown;have HB7:=hid hbel;clear hown hgrow hbel;obtain⟨AV,cV,hv,hcV,hnV,hDV⟩:=DescsAt.of_row (B:=Z.heap.size) (n:=(L+1)) (ds:=(ds++[⟨core,fd,num⟩])) (w:=w7) (v:=(.slice A_v7 (L+1) c_v7)) (by rw[List.flatMap_append];exact HO7.out);injection hv with e1 e2 e3
    subst e1 e3;rw[HC.out] at hDV;have hbw:=Cv.next HZB.out HB7.out;have pf:=(hbw.frozen (p:=⟨p,1,.none⟩) hp).trans HFZ.out;have pp:=(hbw.cell (p:=⟨p,1,.none⟩) hp).trans HC1.out;have hown7:=(HO.out.below hbw).setOpn (ds:=RR) (hDV.mono (by have:=HZB.out.size;omega)) ⟨hcV,fun e=>(hnV e).2⟩ (by rw[←HRR.out];exact HZS.out);obtain⟨_,_,_,_,_,_,_,_,_,_,hpb,_⟩:=(HO.out.below hbw).at_
    have HOWN:=hid hown7;have HBF:Hid (Below B w (World.setCell w7 ⟨p,1,.none⟩ (.slice A_v7 (L+1) c_v7))):=hid ((hbw.mono hB).setCell (by exact hBp) _);have HAS:Hid (Aside p w (World.setCell w7 ⟨p,1,.none⟩ (.slice A_v7 (L+1) c_v7))):=hid ((Aside.below hbw).trans (Aside.set hpb (.inr (.inr rfl))));clear hcV hnV hDV hbw hown7 hpb;go_wp2_with fail
    go_returns
    rw[HRR.out];exact⟨rfl,HOWN.out,HBF.out,HAS.out⟩
   ·have HC:=hid (show ds++[]=RR from hc);clear hc hnil;obtain⟨AV,cV,hv,hcV,hnV,hDV⟩:=DescsAt.of_row (B:=Z.heap.size) (n:=L) (ds:=ds) (w:=wr) (v:=V) (by exact HR2.out);subst hv;rw[show ds=RR by rw[←HC.out,List.append_nil]] at hDV;have hbw:=Cv.next HZB.out HB.out;have pf:=(hbw.frozen (p:=⟨p,1,.none⟩) hp).trans HFZ.out;have pp:=(hbw.cell (p:=⟨p,1,.none⟩) hp).trans HC1.out;have hown7:=(HO.out.below hbw).setOpn (ds:=RR) (hDV.mono (by have:=HZB.out.size;omega)) ⟨hcV,fun e=>(hnV e).2⟩ (by rw[←HRR.out];exact HZS.out);obtain⟨_,_,_,_,_,_,_,_,_,_,hpb,_⟩:=(HO.out.below hbw).at_
    have HOWN:=hid hown7;have HBF:Hid (Below B w (World.setCell wr ⟨p,1,.none⟩ (.slice AV L cV))):=hid ((hbw.mono hB).setCell (by exact hBp) _);have HAS:Hid (Aside p w (World.setCell wr ⟨p,1,.none⟩ (.slice AV L cV))):=hid ((Aside.below hbw).trans (Aside.set hpb (.inr (.inr rfl))));clear hcV hnV hDV hbw hown7 hpb;go_wp2_with fail
    go_returns
    rw[HRR.out];exact⟨rfl,HOWN.out,HBF.out,HAS.out⟩
def freeK (ds:List Ds) (core:Int):Nat→Nat→Int
 | 0,_=> -1
 | n+1,k=>if fdV ds core k=0 then k else freeK ds core n (k+1)
theorem zhu (ds:List Ds) (core:Int):freeK ds core 4 0=if freeFd ds core=4 then -1 else(freeFd ds core:Int):=by
 have hl:freeK ds core 4 0=if fdV ds core 0=0 then 0 else if fdV ds core 1=0 then 1 else if fdV ds core 2=0 then 2 else if fdV ds core 3=0 then 3 else -1:=rfl
 rw[hl];unfold freeFd
 by_cases h0:fdV ds core 0=0
 ·simp[h0]
 by_cases h1:fdV ds core 1=0
 ·simp[h0,h1]
 by_cases h2:fdV ds core 2=0
 ·simp[h0,h1,h2]
 by_cases h3:fdV ds core 3=0
 ·simp[h0,h1,h2,h3]
 simp[h0,h1,h2,h3]
theorem zdm (ds:List Ds) (core:Int) (h:freeFd ds core≠4):(freeFd ds core:Int)<4∧fdV ds core (freeFd ds core:Int)=0:=by
 unfold freeFd at h ⊢
 by_cases h0:fdV ds core 0=0
 ·simp[h0]
 by_cases h1:fdV ds core 1=0
 ·simp[h0,h1]
 by_cases h2:fdV ds core 2=0
 ·simp[h0,h1,h2]
 by_cases h3:fdV ds core 3=0
 ·simp[h0,h1,h2,h3]
 simp[h0,h1,h2,h3] at h
theorem zg3 (ds:List Ds) (core:Int) (k:Nat) (h:k<4):freeK ds core (4-k) k=if fdV ds core k=0 then(k:Int) else freeK ds core (4-(k+1)) (k+1):=by
 obtain⟨n,hn⟩:∃n,4-k=n+1:=⟨3-k,by omega⟩;rw[hn,show 4-(k+1)=n by omega]
 rfl
theorem z7s {is:List Ino} (hw:Whole is) (path:ByteArray) (h:(findV is path).2=0):0≤atV is (findV is path).1:=by
 unfold findV at h ⊢
 by_cases h1:(parseL path.data.toList).2≠0
 ·rw[if_pos h1] at h;unfold codeP at h;rw[if_neg h1] at h
  split at h<;>cases h
 rw[if_neg h1] at h ⊢;exact z4r hw _ _ hw.1 h
set_option maxRecDepth 100000 in
set_option maxHeartbeats 16000000 in
theorem zg4 (B p:Nat) (s:St) (c:Ca) (want:Int) (w:World) (h:Own B w p s) (hB:B≤w.heap.size) (hw:Whole s.inos) (hpz:c.path.size≤140737488355328)
  (hz1:Sized (openedV s c want).1):
  Calls Tryz.prog 81 #[.pointer (some ⟨p,0,.none⟩),caV c,.int .i64 want] w fun e w'=>e=.returned (.tuple #[resV (openedV s c want).2.1,.bool (openedV s c want).2.2])∧Own B w' p (openedV s c want).1∧Below B w w'∧Aside p w w':=by
 obtain⟨A,n,cp,E,m,d,D,k,e,hBp,hp,c0,c1,c2,fz,hst,hI,hD,hM⟩:=h.val;obtain⟨RV,hRV⟩:∃RV,openedV s c want=RV:=⟨_,rfl⟩;rw[hRV] at hz1 ⊢;unfold openedV at hRV;obtain⟨⟨NU,CD⟩,hFI⟩:∃P,findV s.inos c.path=P:=⟨_,rfl⟩;rw[hFI] at hRV;dsimp only at hRV;obtain⟨W,hW,hbc,hal,hsz1⟩:=z7a w c;obtain⟨W2,hW2⟩:∃W2,W.alloc (.cells #[.int .i64 0,.int .i64 0,.int .i64 0,.bool false,.string ⟨#[]⟩,.slice none 0 0] 32)=W2:=⟨_,rfl⟩;have hr2:ResAt W2 W.heap.size (.int .i64 0) (.int .i64 0) (.int .i64 0) (.bool false) (.string ⟨#[]⟩) (.slice none 0 0):=by rw[←hW2];exact heap_alloc_new W _
 have hal2:Below W.heap.size W W2:=by rw[←hW2];exact(Below.refl _ _).alloc (Nat.le_refl _) _
 have hsz2:W2.heap.size=W.heap.size+1:=by rw[←hW2];simp
 have hb2:Below w.heap.size w W2:=Cv.next hal hal2;have hbc2:=(hal2.block w.heap.size (by omega)).trans hbc;obtain⟨G,hG⟩:∃G,W.heap.size=G:=⟨_,rfl⟩;rw[hG] at hr2;have h2:=h.below hb2;have x0:=(hb2.cell (p:=⟨p,0,.none⟩) hp).trans c0;have x1:=(hb2.cell (p:=⟨p,1,.none⟩) hp).trans c1;have x2:=(hb2.cell (p:=⟨p,2,.none⟩) hp).trans c2;have k5:W2.cell? ⟨w.heap.size,5,.none⟩=some (.string c.path):=by rw[cell_of_row W2 w.heap.size _ _ _ (0,0) hbc2];rfl
 have HST:=hid (hst.below hb2).weak;have HOW:=hid h2;have HRES:=hid hr2;have HBC:=hid hbc2;have HB2:=hid hb2;have HRV:=hid hRV;have HFI:=hid hFI;have HW:=hid hw;have HZ1:=hid hz1;have hGs:G<W2.heap.size:=by omega
 have hwG:w.heap.size<G:=by omega
 have hps:p<w.heap.size:=hp;clear h h2 hst hI hD hM hRV hFI hw hz1 hbc hbc2 hal hal2 hr2 hb2 c0 c1 c2 fz hsz1 hsz2;unfold caV
 go_enter Tryz.func81,Tryz.ntmps81
 go_wp2_with fail;clear hW hW2 hG;have hX:=@Ext.cell W2;refine wre ?_
 repeat (go_big_quiet_step (first|(go_at_call 22;rename_i X;exact Calls.ext_of (by have:=z4q _ s c.path _ (HST.out.below X.bel) HW.out hpz;rw[HFI.out] at this;dsimp only at this;exact this))))
 refine wpQuiet_nil ?_;rintro w7 ⟨X,rfl⟩;generalize hZe:X.w=Z1;have hZ1:=hZe▸X.bel;have HB3:=hid (Cv.next HB2.out hZ1);have HO1:=hid (HOW.out.below hZ1);have hs1:W2.heap.size≤Z1.heap.size:=hZ1.size;have HR1:Hid (ResAt Z1 G _ _ _ _ _ _):=hid ((hZ1.block G hGs).trans HRES.out);have HC1:=hid ((hZ1.block w.heap.size (by omega)).trans HBC.out);have HS1:=hid (HST.out.below hZ1);have y0:=(hZ1.cell (p:=⟨p,0,.none⟩) (by show p<_;omega)).trans x0;have y1:=(hZ1.cell (p:=⟨p,1,.none⟩) (by show p<_;omega)).trans x1;have y2:=(hZ1.cell (p:=⟨p,2,.none⟩) (by show p<_;omega)).trans x2;clear hZe X hX hZ1 x0 x1 x2 k5
 by_cases hcd:CD=0
 rotate_left
 ·have q0:(CD==0)=false:=by rw[beq_eq_false_iff_ne];exact hcd
  have q1:(CD != 0)=true:=by rw[bne_iff_ne];exact hcd
  have hr:=HRV.out;rw[if_pos hcd] at hr;have HR9:=hid hr;clear hr;have hX:=@Ext.cell Z1;go_wp2_with fail;refine wre ?_
  repeat (go_big_quiet_step (fail))
  refine wpQuiet_nil ?_;rintro w7 ⟨X,rfl⟩;generalize hZe:X.w=Z3;have hZ3:=hZe▸X.bel;have HB5:=hid (Cv.next HB3.out hZ3);have HO3:=hid (HO1.out.below hZ3);have hs3:W2.heap.size≤Z3.heap.size:=Nat.le_trans hs1 hZ3.size;have HR3:Hid (ResAt Z3 G _ _ _ _ _ _):=hid ((hZ3.block G (by omega)).trans HR1.out);clear hZe X hX hZ3;go_wp2_with fail;refine(z0d CD _).mono ?_;rintro e5 w5 ⟨rfl,hb5⟩;have hres5:ResAt w5 G _ _ _ _ _ _:=(hb5.block G (by omega)).trans HR3.out;obtain⟨g0,g1,g2,g3,g4,g5,gf⟩:=hres5.get;obtain⟨W9,hW9,hr9,k9,b9,_,_⟩:=hres5.six (.int .i64 CD) (.int .i64 0) (.int .i64 0) (.bool false) (.string ⟨#[]⟩) (.slice none 0 0);have HR5:=hid hr9;have HOF:=hid ((HO3.out.below hb5).keep k9);have HBF:=hid (b9 B w (by omega) ((HB5.out.trans (hb5.mono (by have:=HB5.out.size;omega))).mono hB));have HAS:=hid (Aside.below (p:=p) (b9 w.heap.size w (by omega) (HB5.out.trans (hb5.mono (by have:=HB5.out.size;omega)))))
  clear hres5 hr9 k9 b9 hb5;go_wp2_with fail
  (try simp only[Exit.inBlock,Exit.then])
  refine bodyPost_ret (v:=.tuple #[.agg #[.int .i64 CD,.int .i64 0,.int .i64 0,.bool false,.string ⟨#[]⟩,.slice none 0 0],.bool true]) ?_ rfl ?_
  ·rw[results_cell_tmp rfl];have hload:=run_loadVar_row (P:=Tryz.prog) W9 G _ 32 _ (0,0) _ HR5.out Tryz.underlying32 rfl (by kernel_rfl);simp[asAddr,hload,Result.andThen]
  ·refine⟨?_,?_,HBF.out,HAS.out⟩
   ·rw[←HR9.out];rfl
   ·rw[←HR9.out];exact HOF.out
 subst hcd;have hX:=@Ext.cell Z1;obtain⟨DI,hDI⟩:∃DI,dirAt s.inos NU=DI:=⟨_,rfl⟩;have hat:0≤atV s.inos NU:=by have:=z7s HW.out c.path (by rw[HFI.out]);rw[HFI.out] at this;exact this
 have hr:=HRV.out;rw[if_neg (by simp),hDI] at hr;obtain⟨i,x,hai,hxi,hxn⟩:=z0r hat;have hDI2:=hDI;unfold dirAt at hDI2;rw[hai,z0c,hxi] at hDI2;dsimp only at hDI2;subst hDI2;obtain⟨⟨A',n',c',E',m',d',D',k',e',hval,hI,hD,hM,h5,h6,h7⟩,hzz⟩:=HS1.out;injection hval with hval
 have hv1:(Value.slice A n cp)=.slice A' n' c':=by
  have:=congrArg (fun a=>a[0]?) hval
  simpa using this
 injection hv1 with v1 v2 v3
 subst v1 v2 v3;have hin:i<n:=by have:=(List.getElem?_eq_some_iff.1 hxi).1;have:=hI.1;omega
 obtain⟨g,off,x',E2,m2,d2,rfl,hg,hx',_,_,_,xc1,_,_,_,_⟩:=hI.get i hin;have ex:x=x':=by rw[hxi] at hx';exact Option.some.inj hx'
 subst ex;have HRV1:=hid hr;have HDI:=hid hDI;have HAI:=hid hai;have i0:(0:Int)≤(i:Int):=by omega
 have i1:(i:Int)<(n:Int):=by omega
 clear hr hDI hat hxi hxn hval hI hD hM h5 h6 h7 hzz hx' hai;go_wp2_with fail;refine wre ?_
 repeat (go_big_quiet_step (first|(go_at_call 94;rename_i X;exact Calls.ext_of (by have:=z0o _ s NU _ (HS1.out.below X.bel);rw[HAI.out] at this;exact this))))
 refine wpQuiet_nil ?_;rintro w7 ⟨X,rfl⟩;generalize hZe:X.w=Z2;have hZ2:=hZe▸X.bel;have HB4:=hid (Cv.next HB3.out hZ2);have HO2:=hid (HO1.out.below hZ2);have hs2:W2.heap.size≤Z2.heap.size:=Nat.le_trans hs1 hZ2.size;have HR2:Hid (ResAt Z2 G _ _ _ _ _ _):=hid ((hZ2.block G (by omega)).trans HR1.out);have HC2:=hid ((hZ2.block w.heap.size (by omega)).trans HC1.out);have HS2:=hid (HS1.out.below hZ2);have z0:=(hZ2.cell (p:=⟨p,0,.none⟩) (by show p<_;omega)).trans y0;have z1:=(hZ2.cell (p:=⟨p,1,.none⟩) (by show p<_;omega)).trans y1;have z2:=(hZ2.cell (p:=⟨p,2,.none⟩) (by show p<_;omega)).trans y2;have k1:Z2.cell? ⟨w.heap.size,1,.none⟩=some (.int .i64 c.core):=by rw[cell_of_row Z2 w.heap.size _ _ _ (0,0) HC2.out];rfl
 clear hZe X hX hZ2 y0 y1 y2 xc1;obtain⟨DI,hdd⟩:∃DI,x.dir=DI:=⟨_,rfl⟩;rw[hdd];have hr:=HRV1.out;rw[hdd] at hr;have HRV2:=hid hr;clear hr hdd;cases DI;rotate_left
 ·have hr:=HRV2.out;rw[if_pos rfl] at hr;have HR9:=hid hr;clear hr;go_wp2_with fail;refine(z0d 8 _).mono ?_;rintro e5 w5 ⟨rfl,hb5⟩;have hres5:ResAt w5 G _ _ _ _ _ _:=(hb5.block G (by omega)).trans HR2.out;obtain⟨g0,g1,g2,g3,g4,g5,gf⟩:=hres5.get;obtain⟨W9,hW9,hr9,k9,b9,_,_⟩:=hres5.six (.int .i64 8) (.int .i64 0) (.int .i64 0) (.bool false) (.string ⟨#[]⟩) (.slice none 0 0);have HR5:=hid hr9;have HOF:=hid ((HO2.out.below hb5).keep k9);have HBF:=hid (b9 B w (by omega) ((HB4.out.trans (hb5.mono (by have:=HB4.out.size;omega))).mono hB));have HAS:=hid (Aside.below (p:=p) (b9 w.heap.size w (by omega) (HB4.out.trans (hb5.mono (by have:=HB4.out.size;omega)))));clear hres5 hr9 k9 b9 hb5;go_wp2_with fail
  (try simp only[Exit.inBlock,Exit.then])
  refine bodyPost_ret (v:=.tuple #[.agg #[.int .i64 8,.int .i64 0,.int .i64 0,.bool false,.string ⟨#[]⟩,.slice none 0 0],.bool true]) ?_ rfl ?_
  ·rw[results_cell_tmp rfl];have hload:=run_loadVar_row (P:=Tryz.prog) W9 G _ 32 _ (0,0) _ HR5.out Tryz.underlying32 rfl (by kernel_rfl);simp[asAddr,hload,Result.andThen]
  ·refine⟨?_,?_,HBF.out,HAS.out⟩
   ·rw[←HR9.out];rfl
   ·rw[←HR9.out];exact HOF.out
 have hr:=HRV2.out;rw[if_neg (by decide)] at hr;have HRV3:=hid hr;obtain⟨FF,hFF⟩:∃FF,freeK s.opn c.core 4 0=FF:=⟨_,rfl⟩;have HFF:=hid hFF;clear hr hFF;go_wp2_with fail
 go_loopw [10,11] (fun fv iv wr=>∃(k:Nat) (fz iz:Int),fv=.int .i64 fz∧iv=.int .i64 iz∧iz=(k:Int)-1∧freeK s.opn c.core (4-k) k=fz∧k≤4∧Below Z2.heap.size Z2 wr) (fun _ iv _=>(intOf iv+1).toNat)
 case atStart=>exact⟨4,-1,3,rfl,rfl,rfl,rfl,by omega,Below.refl _ _⟩
 case round =>
  obtain⟨kk,fz,iz,rfl,rfl,hiz,hfz,hk4,hbel⟩:=hrel;have HB:=hid (Cv.next HB4.out hbel);have HOr:=hid (HO2.out.below hbel);have hsr:W2.heap.size≤wr.heap.size:=Nat.le_trans hs2 hbel.size;have HRr:Hid (ResAt wr G _ _ _ _ _ _):=hid ((hbel.block G (by omega)).trans HR2.out);have HCr:=hid ((hbel.block w.heap.size (by omega)).trans HC2.out);have HSr:=hid (HS2.out.below hbel);have r0:=(hbel.cell (p:=⟨p,0,.none⟩) (by show p<_;omega)).trans z0;have r1:=(hbel.cell (p:=⟨p,1,.none⟩) (by show p<_;omega)).trans z1;have r2:=(hbel.cell (p:=⟨p,2,.none⟩) (by show p<_;omega)).trans z2;have kr:wr.cell? ⟨w.heap.size,1,.none⟩=some (.int .i64 c.core):=by rw[cell_of_row wr w.heap.size _ _ _ (0,0) HCr.out];rfl
  have hX:=@Ext.cell wr;have HBL:=hid hbel;have HFZ:=hid hfz;clear hbel z0 z1 z2 k1 hfz
  rcases kk with _|kk
  ·have eiz:iz=-1:=by omega
   have hff:=HFZ.out;rw[HFF.out] at hff;have hall:=zhu s.opn c.core;rw[HFF.out,hff] at hall;have HALL:=hid hall;have qm:decide ((0:Int)≤iz)=false:=by rw[decide_eq_false_iff_not];omega
   clear eiz hiz;clear hall
   by_cases hfree:freeFd s.opn c.core=4
   ·have hr:=HRV3.out;rw[if_pos hfree] at hr;have HR9:=hid hr;have efz:fz=-1:=by have:=HALL.out;rw[if_pos hfree] at this;exact this
    subst efz;clear hr hX;go_wp2_with fail;refine(z0d 10 _).mono ?_;rintro e5 w5 ⟨rfl,hb5⟩;have hres5:ResAt w5 G _ _ _ _ _ _:=(hb5.block G (by omega)).trans HRr.out;obtain⟨g0,g1,g2,g3,g4,g5,gf⟩:=hres5.get;obtain⟨W9,hW9,hr9,k9,b9,_,_⟩:=hres5.six (.int .i64 10) (.int .i64 0) (.int .i64 0) (.bool false) (.string ⟨#[]⟩) (.slice none 0 0);have HR5:=hid hr9;have HOF:=hid ((HOr.out.below hb5).keep k9);have HBF:=hid (b9 B w (by omega) ((HB.out.trans (hb5.mono (by have:=HB.out.size;omega))).mono hB));have HAS:=hid (Aside.below (p:=p) (b9 w.heap.size w (by omega) (HB.out.trans (hb5.mono (by have:=HB.out.size;omega)))));clear hres5 hr9 k9 b9 hb5;go_wp2_with fail
    (try simp only[Exit.inBlock,Exit.then])
    refine bodyPost_ret (v:=.tuple #[.agg #[.int .i64 10,.int .i64 0,.int .i64 0,.bool false,.string ⟨#[]⟩,.slice none 0 0],.bool true]) ?_ rfl ?_
    ·rw[results_cell_tmp rfl];have hload:=run_loadVar_row (P:=Tryz.prog) W9 G _ 32 _ (0,0) _ HR5.out Tryz.underlying32 rfl (by kernel_rfl);simp[asAddr,hload,Result.andThen]
    ·refine⟨?_,?_,HBF.out,HAS.out⟩
     ·rw[←HR9.out];rfl
     ·rw[←HR9.out];exact HOF.out
   have hr:=HRV3.out;rw[if_neg hfree] at hr;have efz:fz=(freeFd s.opn c.core:Int):=by have:=HALL.out;rw[if_neg hfree] at this;exact this
   obtain⟨fr,hfr⟩:∃fr,freeFd s.opn c.core=fr:=⟨_,rfl⟩;rw[hfr] at efz hr;have hfrz:=zdm s.opn c.core (by rw[hfr];rw[hfr] at hfree;exact hfree);rw[hfr] at hfrz;subst efz;have HFR:=hid hfr;have q0:decide ((fr:Int)<0)=false:=by rw[decide_eq_false_iff_not];omega
   by_cases hwa:0≤want
   ·rw[if_pos hwa] at hr;have HRX:=hid hr;have qw:decide ((0:Int)≤want)=true:=decide_eq_true hwa;obtain⟨FD,hFD⟩:∃FD,want=FD:=⟨_,rfl⟩;subst hFD;clear hr;obtain⟨FW,hFW⟩:∃FW,fdV s.opn c.core want=FW:=⟨_,rfl⟩;have HFW:=hid hFW;obtain⟨Q4,hQ4⟩:∃Q4,decide ((4:Int)≤want)=Q4:=⟨_,rfl⟩;have HQ4:=hid hQ4;clear hFW;go_wp2_with fail;refine wre ?_
    repeat (go_big_quiet_step (first|(go_at_call 124;rename_i X;exact Calls.ext_of (by have:=z2k _ s c.core want _ (HSr.out.below X.bel);rw[HFW.out] at this;exact this))))
    cases Q4;rotate_left
    ·repeat (go_big_quiet_step (fail))
     refine wpQuiet_nil ?_;rintro w7 ⟨X,rfl⟩;generalize hZe:X.w=Z4;have hZ4:=hZe▸X.bel;have HB6:=hid (Cv.next HB.out hZ4);have HO4:=hid (HOr.out.below hZ4);have hs4:W2.heap.size≤Z4.heap.size:=Nat.le_trans hsr hZ4.size;have HR4:Hid (ResAt Z4 G _ _ _ _ _ _):=hid ((hZ4.block G (by omega)).trans HRr.out);have hge:(4:Int)≤want:=by have:=HQ4.out;rw[decide_eq_true_eq] at this;exact this
     have hr:=HRX.out;rw[if_pos (.inl hge)] at hr;have HR9:=hid hr;clear hX hr hZe X hZ4 r0 r1 r2 hQ4;obtain⟨g0,g1,g2,g3,g4,g5,gf⟩:=HR4.out.get;obtain⟨W9,hW9,hr9,k9,b9,_,_⟩:=HR4.out.six (.int .i64 0) (.int .i64 0) (.int .i64 0) (.bool false) (.string ⟨#[]⟩) (.slice none 0 0);have HR5:=hid hr9;have HOF:=hid (HO4.out.keep k9);have HBF:=hid (b9 B w (by omega) (HB6.out.mono hB));have HAS:=hid (Aside.below (p:=p) (b9 w.heap.size w (by omega) HB6.out));clear hr9 k9 b9;go_wp2_with fail
     (try simp only[Exit.inBlock,Exit.then])
     refine bodyPost_ret (v:=.tuple #[.agg #[.int .i64 0,.int .i64 0,.int .i64 0,.bool false,.string ⟨#[]⟩,.slice none 0 0],.bool false]) ?_ rfl ?_
     ·rw[results_cell_tmp rfl];have hload:=run_loadVar_row (P:=Tryz.prog) W9 G _ 32 _ (0,0) _ HR5.out Tryz.underlying32 rfl (by kernel_rfl);simp[asAddr,hload,Result.andThen]
     ·refine⟨?_,?_,HBF.out,HAS.out⟩
      ·rw[←HR9.out];rfl
      ·rw[←HR9.out];exact HOF.out
    repeat (go_big_quiet_step (first|(go_at_call 124;rename_i X;exact Calls.ext_of (by have:=z2k _ s c.core want _ (HSr.out.below X.bel);rw[HFW.out] at this;exact this))))
    refine wpQuiet_nil ?_;rintro w7 ⟨X,rfl⟩;generalize hZe:X.w=Z4;have hZ4:=hZe▸X.bel;have HB6:=hid (Cv.next HB.out hZ4);have HO4:=hid (HOr.out.below hZ4);have hs4:W2.heap.size≤Z4.heap.size:=Nat.le_trans hsr hZ4.size;have HR4:Hid (ResAt Z4 G _ _ _ _ _ _):=hid ((hZ4.block G (by omega)).trans HRr.out);have k4:=(hZ4.cell (p:=⟨w.heap.size,1,.none⟩) (by show w.heap.size<_;omega)).trans kr;have hge:¬(4:Int)≤want:=by have:=HQ4.out;rw[decide_eq_false_iff_not] at this;exact this
    clear hZe X hX hZ4 r0 r1 r2 hQ4
    by_cases hfw:FW=0
    ·have qf:(FW != 0)=false:=by subst hfw;rfl
     have hr:=HRX.out;rw[HFW.out,if_neg (by omega)] at hr;have HRZ:=hid hr;clear hr;have hr:=HRZ.out;have HR9:=hid hr;clear hr;go_wp2_with fail;refine(zew B p s c.core want NU _ HO4.out (by have:=HB6.out.size;omega) (by have:=HZ1.out;rw[←HR9.out] at this;exact this)).mono ?_;rintro e5 w5 ⟨rfl,hown5,hbel5,has5⟩;have hres5:ResAt w5 G _ _ _ _ _ _:=(has5.same G _ _ HR4.out (by decide) (by decide) (by omega)).trans HR4.out;obtain⟨g0,g1,g2,g3,g4,g5,gf⟩:=hres5.get;obtain⟨W9,hW9,hr9,k9,b9,a9,_⟩:=hres5.six (.int .i64 0) (.int .i64 want) (.int .i64 0) (.bool false) (.string ⟨#[]⟩) (.slice none 0 0);have HR5:=hid hr9;have HOF:=hid (hown5.keep k9);have HBF:=hid (b9 B w (by omega) ((HB6.out.mono hB).trans hbel5))
     have HAS:Hid (Aside p w W9):=hid ⟨by have:=HBF.out.size;omega,fun b cur t hb h1 h2 h3=>by
      have hlt:b<w.heap.size:=(Array.getElem?_eq_some_iff.1 hb).1;have e1:=HB6.out.block b hlt;have e2:=has5.same b cur t (e1.trans hb) h1 h2 h3;exact((a9 b (by omega)).trans e2).trans e1⟩
     clear hres5 hr9 k9 b9 a9 has5 hown5 hbel5;go_wp2_with fail
     (try simp only[Exit.inBlock,Exit.then])
     refine bodyPost_ret (v:=.tuple #[.agg #[.int .i64 0,.int .i64 want,.int .i64 0,.bool false,.string ⟨#[]⟩,.slice none 0 0],.bool true]) ?_ rfl ?_
     ·rw[results_cell_tmp rfl];have hload:=run_loadVar_row (P:=Tryz.prog) W9 G _ 32 _ (0,0) _ HR5.out Tryz.underlying32 rfl (by kernel_rfl);simp[asAddr,hload,Result.andThen]
     ·refine⟨?_,?_,HBF.out,HAS.out⟩
      ·rw[←HR9.out];rfl
      ·rw[←HR9.out];exact HOF.out
    ·have qf:(FW != 0)=true:=by rw[bne_iff_ne];exact hfw
     have hr:=HRX.out;rw[HFW.out,if_pos (.inr hfw)] at hr;have HR9:=hid hr;clear hr;obtain⟨g0,g1,g2,g3,g4,g5,gf⟩:=HR4.out.get;obtain⟨W9,hW9,hr9,k9,b9,_,_⟩:=HR4.out.six (.int .i64 0) (.int .i64 0) (.int .i64 0) (.bool false) (.string ⟨#[]⟩) (.slice none 0 0);have HR5:=hid hr9;have HOF:=hid (HO4.out.keep k9);have HBF:=hid (b9 B w (by omega) (HB6.out.mono hB));have HAS:=hid (Aside.below (p:=p) (b9 w.heap.size w (by omega) HB6.out));clear hr9 k9 b9;go_wp2_with fail
     (try simp only[Exit.inBlock,Exit.then])
     refine bodyPost_ret (v:=.tuple #[.agg #[.int .i64 0,.int .i64 0,.int .i64 0,.bool false,.string ⟨#[]⟩,.slice none 0 0],.bool false]) ?_ rfl ?_
     ·rw[results_cell_tmp rfl];have hload:=run_loadVar_row (P:=Tryz.prog) W9 G _ 32 _ (0,0) _ HR5.out Tryz.underlying32 rfl (by kernel_rfl);simp[asAddr,hload,Result.andThen]
     ·refine⟨?_,?_,HBF.out,HAS.out⟩
      ·rw[←HR9.out];rfl
      ·rw[←HR9.out];exact HOF.out
   ·rw[if_neg hwa] at hr;have HRZ:=hid hr;have qw:decide ((0:Int)≤want)=false:=decide_eq_false hwa;obtain⟨FD,hFD⟩:∃FD:Int,(fr:Int)=FD:=⟨_,rfl⟩;rw[hFD] at HRZ hfrz ⊢;clear hr;obtain⟨FW,hFW⟩:∃FW,fdV s.opn c.core FD=FW:=⟨_,rfl⟩;have HFW:=hid hFW;obtain⟨Q4,hQ4⟩:∃Q4,decide ((4:Int)≤FD)=Q4:=⟨_,rfl⟩;have HQ4:=hid hQ4;clear hFW;go_wp2_with fail;refine wre ?_
    repeat (go_big_quiet_step (first|(go_at_call 124;rename_i X;exact Calls.ext_of (by have:=z2k _ s c.core FD _ (HSr.out.below X.bel);rw[HFW.out] at this;exact this))))
    cases Q4;rotate_left
    ·repeat (go_big_quiet_step (fail))
     refine wpQuiet_nil ?_;rintro w7 ⟨X,rfl⟩;generalize hZe:X.w=Z4;have hZ4:=hZe▸X.bel;have HB6:=hid (Cv.next HB.out hZ4);have HO4:=hid (HOr.out.below hZ4);have hs4:W2.heap.size≤Z4.heap.size:=Nat.le_trans hsr hZ4.size;have HR4:Hid (ResAt Z4 G _ _ _ _ _ _):=hid ((hZ4.block G (by omega)).trans HRr.out);have hge:(4:Int)≤FD:=by have:=HQ4.out;rw[decide_eq_true_eq] at this;exact this
     exact absurd hge (by omega)
    repeat (go_big_quiet_step (first|(go_at_call 124;rename_i X;exact Calls.ext_of (by have:=z2k _ s c.core FD _ (HSr.out.below X.bel);rw[HFW.out] at this;exact this))))
    refine wpQuiet_nil ?_;rintro w7 ⟨X,rfl⟩;generalize hZe:X.w=Z4;have hZ4:=hZe▸X.bel;have HB6:=hid (Cv.next HB.out hZ4);have HO4:=hid (HOr.out.below hZ4);have hs4:W2.heap.size≤Z4.heap.size:=Nat.le_trans hsr hZ4.size;have HR4:Hid (ResAt Z4 G _ _ _ _ _ _):=hid ((hZ4.block G (by omega)).trans HRr.out);have k4:=(hZ4.cell (p:=⟨w.heap.size,1,.none⟩) (by show w.heap.size<_;omega)).trans kr;have hge:¬(4:Int)≤FD:=by have:=HQ4.out;rw[decide_eq_false_iff_not] at this;exact this
    clear hZe X hX hZ4 r0 r1 r2 hQ4;have qf:FW=0:=by rw[←HFW.out];exact hfrz.2
    subst qf;have hr:=HRZ.out;have HR9:=hid hr;clear hr;go_wp2_with fail;refine(zew B p s c.core FD NU _ HO4.out (by have:=HB6.out.size;omega) (by have:=HZ1.out;rw[←HR9.out] at this;exact this)).mono ?_;rintro e5 w5 ⟨rfl,hown5,hbel5,has5⟩;have hres5:ResAt w5 G _ _ _ _ _ _:=(has5.same G _ _ HR4.out (by decide) (by decide) (by omega)).trans HR4.out;obtain⟨g0,g1,g2,g3,g4,g5,gf⟩:=hres5.get;obtain⟨W9,hW9,hr9,k9,b9,a9,_⟩:=hres5.six (.int .i64 0) (.int .i64 FD) (.int .i64 0) (.bool false) (.string ⟨#[]⟩) (.slice none 0 0);have HR5:=hid hr9;have HOF:=hid (hown5.keep k9);have HBF:=hid (b9 B w (by omega) ((HB6.out.mono hB).trans hbel5))
    have HAS:Hid (Aside p w W9):=hid ⟨by have:=HBF.out.size;omega,fun b cur t hb h1 h2 h3=>by
     have hlt:b<w.heap.size:=(Array.getElem?_eq_some_iff.1 hb).1;have e1:=HB6.out.block b hlt;have e2:=has5.same b cur t (e1.trans hb) h1 h2 h3;exact((a9 b (by omega)).trans e2).trans e1⟩
    clear hres5 hr9 k9 b9 a9 has5 hown5 hbel5;go_wp2_with fail
    (try simp only[Exit.inBlock,Exit.then])
    refine bodyPost_ret (v:=.tuple #[.agg #[.int .i64 0,.int .i64 FD,.int .i64 0,.bool false,.string ⟨#[]⟩,.slice none 0 0],.bool true]) ?_ rfl ?_
    ·rw[results_cell_tmp rfl];have hload:=run_loadVar_row (P:=Tryz.prog) W9 G _ 32 _ (0,0) _ HR5.out Tryz.underlying32 rfl (by kernel_rfl);simp[asAddr,hload,Result.andThen]
    ·refine⟨?_,?_,HBF.out,HAS.out⟩
     ·rw[←HR9.out];rfl
     ·rw[←HR9.out];exact HOF.out
  ·have eiz:iz=(kk:Int):=by omega
   subst eiz;have hst:=zg3 s.opn c.core kk (by omega);rw[HFZ.out] at hst;have HST2:=hid hst;clear hst;obtain⟨FV,hFV⟩:∃FV,fdV s.opn c.core (kk:Int)=FV:=⟨_,rfl⟩;have HFV:=hid hFV;clear hFV hiz;have k0:(0:Int)≤(kk:Int):=by omega
   go_wp2_with fail;refine wre ?_
   repeat (go_big_quiet_step (first|(go_at_call 124;rename_i X;exact Calls.ext_of (by have:=z2k _ s c.core (kk:Int) _ (HSr.out.below X.bel);rw[HFV.out] at this;exact this))))
   refine wpQuiet_nil ?_;rintro w7 ⟨X,rfl⟩;have HB7:=hid (HBL.out.trans (X.bel.mono HBL.out.size));clear hX
   by_cases hz:FV=0
   ·subst hz;go_wp2_with fail;go_roundw
    case rel=>exact⟨kk,(kk:Int),(kk:Int)-1,rfl,by go_num,rfl,by rw[HST2.out,if_pos HFV.out],by omega,HB7.out⟩
    case measure=>simp[intOf]<;>omega
   ·have q1:(FV==0)=false:=by rw[beq_eq_false_iff_ne];exact hz
    go_wp2_with fail;go_roundw
    case rel=>exact⟨kk,fz,(kk:Int)-1,rfl,by go_num,rfl,by rw[HST2.out,if_neg (by rw[HFV.out];exact hz)],by omega,HB7.out⟩
    case measure=>simp[intOf]<;>omega
end Go.Proofs.YtmmpkfcdfcldlaaGreat
