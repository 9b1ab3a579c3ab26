/- Parts of the proof, side by side: MoOpenD, MoClose. -/
import Derived.Test.YtkflaifopbodfaaGreatDoorM23
import Derived.Test.YtkflaifopbodfaaGreatDoorM19
import Derived.Test.YtkflaifopbodfaaGreatDoorM25
import Derived.Test.YtkflaifopbodfaaGreatDoorM24
import Derived.Test.YtkflaifopbodfaaGreatDoorM16
import Derived.Deep.RegionLaw
set_option linter.unusedVariables false
set_option linter.unusedSimpArgs false
namespace Go.Proofs.YtkflaifopbodfaaGreatDoor
open Lib (hid)
open Go.RowKit
theorem zhi (ds:List Ds):∀u∈ds.flatMap dsV,u.oneCell'=true:=by
 intro u hu;obtain⟨e,_,h⟩:=List.mem_flatMap.1 hu;simp[dsV] at h
 rcases h with rfl|rfl|rfl<;>rfl
set_option maxRecDepth 100000 in
set_option maxHeartbeats 16000000 in
theorem zkn (B q p:Nat) (s:St) (c:Ca) (zs:List (Ino×Value)) (vI vO vM:Value) (w:World) (hN:Now B q p s c zs vI vO vM w w) (hg:Good s) (hp1:c.path.size≤140737488355328):
  Calls Tryz.prog 113 #[.pointer (some ⟨q,0,.none⟩)] w (Ran B q p c ((openedV s c (-1)).1,(openedV s c (-1)).2.1) w):=by
 obtain⟨R,hR⟩:∃R,openedV s c (-1)=R:=⟨_,rfl⟩;have hsz:=zih hg c (-1);rw[hR] at hsz ⊢;unfold openedV at hR;rw[if_neg (show ¬((0:Int)≤-1) by omega)] at hR;have HR:=hid hR;have HSZ:=hid hsz;have HN0:=hid hN;have HG:=hid hg;have d6:=hN.doer.c6;clear hR hN hg hsz
 go_enter Tryz.func113,Tryz.ntmps113
 go_wp2_with fail;refine(zab B q p s c 0 0 false ⟨#[]⟩ (.slice none 0 0) zs vI vO vM c.path w HN0.out.doer HN0.out.own HG.out hp1).mono ?_;rintro e1 w1 ⟨hb1,⟨hc,rfl⟩|⟨hc,g,n,d,i,x,hvI,hx,hxn,rfl⟩⟩
 ·have hr:=HR.out;rw[if_pos hc] at hr
  go_simp
  exact z0b rfl ((HN0.out.step hb1).fail (by rw[←hr];exact hc) (by rw[←hr]))
 have hr:=HR.out;rw[if_neg (by rw[hc];simp)] at hr;have HN1:=hid (HN0.out.step hb1);have hat:=HG.out.at_ hx hxn;rw[z3s hat hx,←hxn] at hr;have HR1:=hid hr;obtain⟨E,m,e,x0,x1,x2,x3,hE,hgl,hm⟩:=HN1.out.ino hvI hx;have HX:=hid hx;have HVI:=hid hvI;clear hr hb1 d6 hE hx hxn hvI hat HR hm hc;cases hd:x.dir;rotate_left
 ·have hr:=HR1.out;rw[if_pos hd] at hr;rw[hd] at x1;go_wp2_with fail;refine(z0f _ _).mono ?_;rintro e3 w3 ⟨rfl,rfl⟩;go_wp2_with fail;exact z0b rfl (HN1.out.fail (by rw[←hr];simp) (by rw[←hr]))
 have hr:=HR1.out;rw[if_neg (by rw[hd];simp)] at hr;have HR2:=hid hr;rw[hd] at x1;have d0:=HN1.out.doer.c0;have d2:=HN1.out.doer.c2;have s1:=HN1.out.own.s1;obtain⟨AO,cO,hvO,hokO,hOD⟩:=HN1.out.own.rowO.descs;rw[hvO] at s1;obtain⟨ML,hML⟩:∃ML,s.opn.length=ML:=⟨_,rfl⟩;rw[hML] at s1 hOD hokO;have hml:ML≤32:=by rw[←hML];exact HG.out.opn_len
 have HML:=hid hML;have HOD:=hid hOD;have HVO:=hid hvO;have HOK:=hid hokO;have hq1:=HN1.out.doer.lt;have hp1':=HN1.out.own.lt;obtain⟨CO,hCO⟩:∃CO,c.core=CO:=⟨_,rfl⟩;rw[hCO] at d2;have HCO:=hid hCO;clear hr HR1 hd hML hOD hvO hokO hCO;go_wp2_with fail;refine(z0h _ _).mono ?_;rintro e3 w3 ⟨rfl,rfl⟩;go_wp2_with fail
 go_loopw [3,4,27] (fun a b j wr=>∃(r fd at_:Nat),j=.int .i64 r∧a=.int .i64 fd∧b=.int .i64 at_∧r≤ML∧fd≤r∧Below w1.heap.size w1 wr∧Scan s.opn CO r fd at_) (fun _ _ j _=>ML-(intOf j).toNat)
 case atStart=>exact⟨0,0,0,rfl,rfl,rfl,by omega,by omega,Below.refl _ _,Scan.start _ _⟩
 case round =>
  obtain⟨r,fd,at_,rfl,rfl,rfl,hrm,hfr,hbel,hsc⟩:=hrel;have HB:=hid hbel;have HSC:=hid hsc;have HNr:=hid (HN1.out.step hbel);have HODr:=hid (HOD.out.below hbel);have d0r:=(hbel.cell (p:=⟨q,0,none⟩) hq1).trans d0;have d2r:=(hbel.cell (p:=⟨q,2,none⟩) hq1).trans d2;have hqr:q<wr.heap.size:=Nat.lt_of_lt_of_le hq1 hbel.size;have fw:IntKind.i64.wrap ((fd:Int)+1)=(fd:Int)+1:=by rw[IntKind.wrap_i64];omega
  have rw_:IntKind.i64.wrap ((r:Int)+1)=(r:Int)+1:=by rw[IntKind.wrap_i64];omega
  clear hbel hsc
  by_cases hlt:r<ML
  ·obtain⟨go,oo,o,rfl,hgo,hoo,_,hmem,e0,e1,e2⟩:=HODr.out.get r hlt;have hst:=HSC.out.step HG.out.riseD (fun d hd=>(HG.out.opens d hd).2.2.1) hoo;have HST:=hid hst;obtain⟨V,hV,v0,v1,v2,hal,hlt4⟩:=z5h wr o.core o.fd o.num;have d2v:=(hal.cell (p:=⟨q,2,none⟩) hqr).trans d2r;have HBV:=hid (Cv.next HB.out hal);have k0:(0:Int)≤(r:Int):=by omega
   have k1:(r:Int)<(ML:Int):=by omega
   clear hst hal hmem hoo
   by_cases hA:o.core<CO
   ·have qa:decide (o.core<CO)=true:=decide_eq_true hA;have qb:(o.core==CO)=false:=by rw[beq_eq_false_iff_ne];omega
    have HNX:=hid (HST.out.1 hA);clear hA;go_wp2_with fail;go_quiet (fail);go_wp2_with fail;go_quiet (fail);go_wp2_with fail;go_roundw
    case rel=>exact⟨r+1,fd,r+1,by go_num,rfl,by go_num,by omega,by omega,Cv.next HBV.out ((Cv.drewN_below (Below.refl _ _) _)),HNX.out⟩
    case measure=>simp[intOf];omega
   ·by_cases hB2:o.core=CO∧o.fd=(fd:Int)
    ·skip
     have qa:decide (o.core<CO)=false:=decide_eq_false hA;have qb:(o.core==CO)=true:=by rw[beq_iff_eq];exact hB2.1
     have qc:(o.fd==(fd:Int))=true:=by rw[beq_iff_eq];exact hB2.2
     have HNX:=hid (HST.out.2.1 hA hB2.1 hB2.2);clear hA hB2;go_wp2_with fail;go_quiet (fail);go_wp2_with fail;go_quiet (fail);go_wp2_with fail;go_roundw
     case rel=>exact⟨r+1,fd+1,r+1,by go_num,by first|rfl|go_num,by first|rfl|go_num,by omega,by omega,Cv.next HBV.out ((Cv.drewN_below (Below.refl _ _) _)),HNX.out⟩
     case measure=>simp[intOf];omega
    ·by_cases hC2:o.core=CO
     ·skip
      have qa:decide (o.core<CO)=false:=decide_eq_false hA;have qb:(o.core==CO)=true:=by rw[beq_iff_eq];exact hC2
      have qc:(o.fd==(fd:Int))=false:=by rw[beq_eq_false_iff_ne];exact fun h=>hB2 ⟨hC2,h⟩
      have HNX:=hid (HST.out.2.2 hA hB2);clear hA hB2 hC2;go_wp2_with fail;go_quiet (fail);go_wp2_with fail;go_quiet (fail);go_wp2_with fail;go_roundw
      case rel=>exact⟨r+1,fd,at_,by go_num,by first|rfl|go_num,by first|rfl|go_num,by omega,by omega,Cv.next HBV.out ((Cv.drewN_below (Below.refl _ _) _)),HNX.out⟩
      case measure=>simp[intOf];omega
     ·skip
      have qa:decide (o.core<CO)=false:=decide_eq_false hA;have qb:(o.core==CO)=false:=by rw[beq_eq_false_iff_ne];exact hC2
      have HNX:=hid (HST.out.2.2 hA hB2);clear hA hB2 hC2;go_wp2_with fail;go_quiet (fail);go_wp2_with fail;go_quiet (fail);go_wp2_with fail;go_roundw
      case rel=>exact⟨r+1,fd,at_,by go_num,by first|rfl|go_num,by first|rfl|go_num,by omega,by omega,Cv.next HBV.out ((Cv.drewN_below (Below.refl _ _) _)),HNX.out⟩
      case measure=>simp[intOf];omega
  ·have hrl:r=ML:=by omega
   subst hrl;have hend:=HG.out.scan (core:=CO) (fd:=fd) (at_:=at_) (by rw[HML.out];exact HSC.out);obtain⟨hf4,hff,hput⟩:=hend;have hr:=HR2.out;rw[HCO.out,hff] at hr;have HR3:=hid hr;have HPUT:=hid hput;have hatl:=HSC.out.le;have q9:decide ((r:Int)<(r:Int))=false:=by rw[decide_eq_false_iff_not];omega
   clear hr hff hput
   by_cases h4:fd=4
   ·have hr:=HR3.out;rw[if_pos h4] at hr;have q10:decide ((4:Int)≤(fd:Int))=true:=by rw[decide_eq_true_eq];omega
    subst h4;go_wp2_with fail;refine(z0f _ _).mono ?_;rintro e3 w3 ⟨rfl,rfl⟩;go_wp2_with fail;exact z0b rfl (HNr.out.fail (by rw[←hr];simp) (by rw[←hr]))
   have hr:=HR3.out;rw[if_neg h4] at hr;have HR4:=hid hr;have q10:decide ((4:Int)≤(fd:Int))=false:=by rw[decide_eq_false_iff_not];omega
   have x0r:=(HB.out.cell (p:=⟨g,i*4,none⟩) hgl).trans x0;have s1r:=HNr.out.own.s1;rw[HVO.out,HML.out] at s1r;clear hr;go_wp2_with fail;refine(z0h _ _).mono ?_;rintro e3 w3 ⟨rfl,rfl⟩;go_wp2_with fail;obtain⟨V,hV⟩:∃V,wr.drew.alloc (.cells #[.int .i64 CO,.int .i64 (fd:Int),.int .i64 x.num] 89)=V:=⟨_,rfl⟩;have hal:Below wr.heap.size wr V:=by rw[←hV];exact(Cv.drewN_below (Below.refl _ _) 1).alloc (Nat.le_refl _) _
   have hbv:V.heap[wr.heap.size]? =some (.cells #[.int .i64 CO,.int .i64 (fd:Int),.int .i64 x.num] 89 (0,0)):=by rw[←hV];exact Go.heap_alloc_new wr.drew _
   have hgr_:g<wr.heap.size:=Nat.lt_of_lt_of_le hgl HB.out.size;have hOV:=HNr.out.own.below hal;have hDV:=HNr.out.doer.below hal;have e0V:=hDV.c0;have e2V:=hDV.c2;rw[HCO.out] at e2V;have x0V:=(hal.cell (p:=⟨g,i*4,none⟩) hgr_).trans x0r;have f1V:=hOV.s1;rw[HVO.out,HML.out] at f1V;have fpV:V.frozen? ⟨p,1,none⟩=false:=frozen_of_row V p 1 _ _ hOV.cell;have hqV:=hDV.lt;have hpV:=hOV.lt;have hgV:g<V.heap.size:=Nat.lt_of_lt_of_le hgr_ hal.size;have hqp:q≠p:=HNr.out.ne;have hBV:B≤V.heap.size:=Nat.le_trans HNr.out.hB' hal.size
   have hrow:RowAt B V 89 3 (.slice AO r cO) r (s.opn.flatMap dsV):=by
    have h:=hOV.rowO
    rwa [HVO.out,HML.out] at h
   have hvb:rowBlk (.slice AO r cO)≠some wr.heap.size:=fun e=>by
    have h:=HNr.out.own.rowO;rw[HVO.out,HML.out] at h;have:=(h.blk _ e).2.1;omega
   have hnQ:some q≠rowBlk (.slice AO r cO):=fun e=>by
    obtain⟨_,_,c1,h1⟩:=hrow.blk q e.symm;exact z0i hDV.cell h1 (by decide) rfl
   have hnP:some p≠rowBlk (.slice AO r cO):=fun e=>by
    obtain⟨_,_,c1,h1⟩:=hrow.blk p e.symm;exact z0i hOV.cell h1 (by decide) rfl
   obtain⟨c9',hc9⟩:∃c1,V.heap[g]? =some (.cells c1 53 (0,0)):=by
    obtain⟨gg,_,cur,hvv,_,_,_,hgc,_⟩:=hOV.rowI.open_ (by
     have h1:=(List.getElem?_eq_some_iff.1 HX.out).1;have h2:=congrArg List.length hOV.inos;rw[List.length_map] at h2;omega)
    rw[HVI.out] at hvv;injection hvv with e1 _ _
    injection e1 with e1
    injection e1 with e1
    subst e1;exact⟨cur,hgc⟩
   have hnG:some g≠rowBlk (.slice AO r cO):=fun e=>by
    obtain⟨_,_,c1,h1⟩:=hrow.blk g e.symm;exact z0i hc9 h1 (by decide) rfl
   have hgp:g≠p:=z0i hc9 hOV.cell (by decide);have h1x:∀v∈[Value.int .i64 CO,.int .i64 (fd:Int),.int .i64 x.num],v.oneCell'=true:=by intro v hv;simp at hv;rcases hv with rfl|rfl|rfl<;>rfl
   have hflat:(s.opn.flatMap dsV).take (at_*3)++[.int .i64 CO,.int .i64 (fd:Int),.int .i64 x.num]++(s.opn.flatMap dsV).drop (at_*3)=(putD s.opn ⟨CO,(fd:Int),x.num⟩).flatMap dsV:=by
    rw[HPUT.out,z1o dsV 3 (fun _=>rfl),z1p dsV 3 (fun _=>rfl),List.flatMap_append,List.flatMap_append]
    rfl
   have hpl:(putD s.opn ⟨CO,(fd:Int),x.num⟩).length=r+1:=by rw[HPUT.out,List.length_append,List.length_append,List.length_take,List.length_drop,HML.out];simp;omega
   have hsF:Sized { s with opn:=putD s.opn ⟨CO,(fd:Int),x.num⟩ }:=by
    have h:=HSZ.out;rw[←HR4.out] at h;exact h
   have hR1:R=({ s with opn:=putD s.opn ⟨CO,(fd:Int),x.num⟩ },{ fd:=(fd:Int) },true):=HR4.out.symm;have HFL:=hid hflat;have HPL:=hid hpl;have HSF:=hid hsF;have HRF:=hid hR1;have HROW:=hid hrow;have HOV:=hid hOV;have HDV:=hid hDV;have HAL:=hid hal;have HBV:=hid hbv;have HVB:=hid hvb;have H1X:=hid h1x;clear hrow hOV hDV hal hbv hvb h1x hflat hpl hsF hR1 hc9 x0 x1 x2 x3 d0 d2 s1;refine z2p (S:=(fun w'=>w'.cell? ⟨q,0,none⟩=some (.pointer (some ⟨p,0,none⟩))∧w'.cell? ⟨q,2,none⟩=some (.int .i64 CO)∧w'.cell? ⟨p,1,none⟩=some (.slice AO r cO)∧w'.cell? ⟨g,i*4,none⟩=some (.int .i64 x.num))) 27 (by kernel_rfl) (by kernel_rfl) ?_;have hHeld:=(⟨HNr.out.doer.c0,HNr.out.doer.c2.trans (by rw[HCO.out]),s1r,x0r⟩:(fun w'=>w'.cell? ⟨q,0,none⟩=some (.pointer (some ⟨p,0,none⟩))∧w'.cell? ⟨q,2,none⟩=some (.int .i64 CO)∧w'.cell? ⟨p,1,none⟩=some (.slice AO r cO)∧w'.cell? ⟨g,i*4,none⟩=some (.int .i64 x.num)) wr.drew)
   intro hh
   try simp only[List.size_toArray,List.length_cons,List.length_nil,Nat.zero_add,Nat.reduceAdd,Array.replicate,List.replicate]
   refine z0a hh (i:=0) (oi:=_) (v:=?tv0) rfl (by decide) (by kernel_rfl) (by kernel_rfl) (fun _ _ _ h=>h) (Or.inl ⟨by kernel_rfl,?ty0⟩) hHeld ?tr0
   case ty0=>(intro w7 hS7;obtain⟨s0,s1,s2,s3⟩:=hS7;go_simp;try (with_reducible rfl))
   clear hh;intro hh
   try simp only[Act.put,List.setIfInBounds_toArray,List.set_cons_zero,List.set_cons_succ]
   refine z0a hh (i:=1) (oi:=_) (v:=?tv1) rfl (by decide) (by kernel_rfl) (by kernel_rfl) (fun _ _ _ h=>h) (Or.inl ⟨by kernel_rfl,?ty1⟩) hHeld ?tr1
   case ty1=>(intro w7 hS7;obtain⟨s0,s1,s2,s3⟩:=hS7;go_simp;try (with_reducible rfl))
   clear hh;intro hh
   try simp only[Act.put,List.setIfInBounds_toArray,List.set_cons_zero,List.set_cons_succ]
   refine z0a hh (i:=2) (oi:=_) (v:=?tv2) rfl (by decide) (by kernel_rfl) (by kernel_rfl) (fun _ _ _ h=>h) (Or.inl ⟨by kernel_rfl,?ty2⟩) hHeld ?tr2
   case ty2=>(intro w7 hS7;obtain⟨s0,s1,s2,s3⟩:=hS7;go_simp;try (with_reducible rfl))
   clear hh;intro hh
   try simp only[Act.put,List.setIfInBounds_toArray,List.set_cons_zero,List.set_cons_succ]
   refine z0a hh (i:=3) (oi:=_) (v:=?tv3) rfl (by decide) (by kernel_rfl) (by kernel_rfl) (fun _ _ _ h=>h) (Or.inl ⟨by kernel_rfl,?ty3⟩) hHeld ?tr3
   case ty3=>(intro w7 hS7;obtain⟨s0,s1,s2,s3⟩:=hS7;go_simp;try (with_reducible rfl))
   clear hh;intro hh
   try simp only[Act.put,List.setIfInBounds_toArray,List.set_cons_zero,List.set_cons_succ]
   refine z0a hh (i:=4) (oi:=_) (v:=?tv4) rfl (by decide) (by kernel_rfl) (by kernel_rfl) (fun _ _ _ h=>h) (Or.inl ⟨by kernel_rfl,?ty4⟩) hHeld ?tr4
   case ty4=>(intro w7 hS7;obtain⟨s0,s1,s2,s3⟩:=hS7;go_simp;try (with_reducible rfl))
   clear hh;intro hh
   try simp only[Act.put,List.setIfInBounds_toArray,List.set_cons_zero,List.set_cons_succ]
   refine z0a hh (i:=5) (oi:=_) (v:=?tv5) rfl (by decide) (by kernel_rfl) (by kernel_rfl) (fun _ _ _ h=>h) (Or.inl ⟨by kernel_rfl,?ty5⟩) hHeld ?tr5
   case ty5=>(intro w7 hS7;obtain⟨s0,s1,s2,s3⟩:=hS7;go_simp;try (with_reducible rfl))
   clear hh;intro hh
   try simp only[Act.put,List.setIfInBounds_toArray,List.set_cons_zero,List.set_cons_succ]
   refine z0a hh (i:=6) (oi:=_) (v:=?tv6) rfl (by decide) (by kernel_rfl) (by kernel_rfl) (fun _ _ _ h=>h) (Or.inl ⟨by kernel_rfl,?ty6⟩) hHeld ?tr6
   case ty6=>(intro w7 hS7;obtain⟨s0,s1,s2,s3⟩:=hS7;go_simp;try (with_reducible rfl))
   clear hh;intro hh
   try simp only[Act.put,List.setIfInBounds_toArray,List.set_cons_zero,List.set_cons_succ]
   refine z0a hh (i:=7) (oi:=_) (v:=?tv7) rfl (by decide) (by kernel_rfl) (by kernel_rfl) (fun _ _ _ h=>h) (Or.inl ⟨by kernel_rfl,?ty7⟩) hHeld ?tr7
   case ty7=>(intro w7 hS7;obtain⟨s0,s1,s2,s3⟩:=hS7;go_simp;try (with_reducible rfl))
   clear hh;intro hh
   try simp only[Act.put,List.setIfInBounds_toArray,List.set_cons_zero,List.set_cons_succ]
   refine z0a hh (i:=8) (oi:=_) (v:=?tv8) rfl (by decide) (by kernel_rfl) (by kernel_rfl) (fun _ _ _ h=>h) (Or.inl ⟨by kernel_rfl,?ty8⟩) hHeld ?tr8
   case ty8=>(intro w7 hS7;obtain⟨s0,s1,s2,s3⟩:=hS7;go_simp;try (with_reducible rfl))
   clear hh;intro hh
   try simp only[Act.put,List.setIfInBounds_toArray,List.set_cons_zero,List.set_cons_succ]
   refine z0a hh (i:=9) (oi:=_) (v:=?tv9) rfl (by decide) (by kernel_rfl) (by kernel_rfl) (fun _ _ _ h=>h) (Or.inl ⟨by kernel_rfl,?ty9⟩) hHeld ?tr9
   case ty9=>(intro w7 hS7;obtain⟨s0,s1,s2,s3⟩:=hS7;go_simp;try (with_reducible rfl))
   clear hh;intro hh
   try simp only[Act.put,List.setIfInBounds_toArray,List.set_cons_zero,List.set_cons_succ]
   refine z0a hh (i:=10) (oi:=_) (v:=?tv10) rfl (by decide) (by kernel_rfl) (by kernel_rfl) (fun _ _ _ h=>h) (Or.inl ⟨by kernel_rfl,?ty10⟩) hHeld ?tr10
   case ty10=>(intro w7 hS7;obtain⟨s0,s1,s2,s3⟩:=hS7;go_simp;try (with_reducible rfl))
   clear hh;intro hh
   try simp only[Act.put,List.setIfInBounds_toArray,List.set_cons_zero,List.set_cons_succ]
   refine z0a hh (i:=11) (oi:=_) (v:=?tv11) rfl (by decide) (by kernel_rfl) (by kernel_rfl) (fun _ _ _ h=>h) (Or.inl ⟨by kernel_rfl,?ty11⟩) hHeld ?tr11
   case ty11=>(intro w7 hS7;obtain⟨s0,s1,s2,s3⟩:=hS7;go_simp;try (with_reducible rfl))
   clear hh;intro hh
   try simp only[Act.put,List.setIfInBounds_toArray,List.set_cons_zero,List.set_cons_succ]
   refine z0a hh (i:=12) (oi:=_) (v:=?tv12) rfl (by decide) (by kernel_rfl) (by kernel_rfl) (fun _ _ _ h=>h) (Or.inl ⟨by kernel_rfl,?ty12⟩) hHeld ?tr12
   case ty12=>(intro w7 hS7;obtain⟨s0,s1,s2,s3⟩:=hS7;go_simp;try (with_reducible rfl))
   clear hh;intro hh
   try simp only[Act.put,List.setIfInBounds_toArray,List.set_cons_zero,List.set_cons_succ]
   refine z0a hh (i:=13) (oi:=_) (v:=?tv13) rfl (by decide) (by kernel_rfl) (by kernel_rfl) (fun _ _ _ h=>h) (Or.inl ⟨by kernel_rfl,?ty13⟩) hHeld ?tr13
   case ty13=>(intro w7 hS7;obtain⟨s0,s1,s2,s3⟩:=hS7;go_simp;try (with_reducible rfl))
   clear hh;intro hh
   try simp only[Act.put,List.setIfInBounds_toArray,List.set_cons_zero,List.set_cons_succ]
   refine z0a hh (i:=14) (oi:=_) (v:=?tv14) rfl (by decide) (by kernel_rfl) (by kernel_rfl) (fun _ _ _ h=>h) (Or.inl ⟨by kernel_rfl,?ty14⟩) hHeld ?tr14
   case ty14=>(intro w7 hS7;obtain⟨s0,s1,s2,s3⟩:=hS7;go_simp;try (with_reducible rfl))
   clear hh;intro hh
   try simp only[Act.put,List.setIfInBounds_toArray,List.set_cons_zero,List.set_cons_succ]
   refine z0a hh (i:=15) (oi:=_) (v:=?tv15) rfl (by decide) (by kernel_rfl) (by kernel_rfl) (fun _ _ _ h=>h) (Or.inl ⟨by kernel_rfl,?ty15⟩) hHeld ?tr15
   case ty15=>(intro w7 hS7;obtain⟨s0,s1,s2,s3⟩:=hS7;go_simp;try (with_reducible rfl))
   clear hh;intro hh
   try simp only[Act.put,List.setIfInBounds_toArray,List.set_cons_zero,List.set_cons_succ]
   refine z0a hh (i:=16) (oi:=_) (v:=?tv16) rfl (by decide) (by kernel_rfl) (by kernel_rfl) (fun _ _ _ h=>h) (Or.inl ⟨by kernel_rfl,?ty16⟩) hHeld ?tr16
   case ty16=>(intro w7 hS7;obtain⟨s0,s1,s2,s3⟩:=hS7;go_simp;try (with_reducible rfl))
   clear hh;intro hh
   try simp only[Act.put,List.setIfInBounds_toArray,List.set_cons_zero,List.set_cons_succ]
   refine z0a hh (i:=17) (oi:=_) (v:=?tv17) rfl (by decide) (by kernel_rfl) (by kernel_rfl) (fun _ _ _ h=>h) (Or.inl ⟨by kernel_rfl,?ty17⟩) hHeld ?tr17
   case ty17=>(intro w7 hS7;obtain⟨s0,s1,s2,s3⟩:=hS7;go_simp;try (with_reducible rfl))
   clear hh;intro hh
   try simp only[Act.put,List.setIfInBounds_toArray,List.set_cons_zero,List.set_cons_succ]
   refine z0a hh (i:=18) (oi:=_) (v:=?tv18) rfl (by decide) (by kernel_rfl) (by kernel_rfl) (fun _ _ _ h=>h) (Or.inl ⟨by kernel_rfl,?ty18⟩) hHeld ?tr18
   case ty18=>(intro w7 hS7;obtain⟨s0,s1,s2,s3⟩:=hS7;go_simp;try (with_reducible rfl))
   clear hh;intro hh
   try simp only[Act.put,List.setIfInBounds_toArray,List.set_cons_zero,List.set_cons_succ]
   refine z0a hh (i:=19) (oi:=_) (v:=?tv19) rfl (by decide) (by kernel_rfl) (by kernel_rfl) (fun _ _ _ h=>h) (Or.inl ⟨by kernel_rfl,?ty19⟩) hHeld ?tr19
   case ty19=>(intro w7 hS7;obtain⟨s0,s1,s2,s3⟩:=hS7;go_simp;try (with_reducible rfl))
   clear hh;intro hh
   try simp only[Act.put,List.setIfInBounds_toArray,List.set_cons_zero,List.set_cons_succ]
   refine z0a hh (i:=20) (oi:=_) (v:=?tv20) rfl (by decide) (by kernel_rfl) (by kernel_rfl) (fun _ _ _ h=>h) (Or.inl ⟨by kernel_rfl,?ty20⟩) hHeld ?tr20
   case ty20=>(intro w7 hS7;obtain⟨s0,s1,s2,s3⟩:=hS7;go_simp;try (with_reducible rfl))
   clear hh;intro hh
   try simp only[Act.put,List.setIfInBounds_toArray,List.set_cons_zero,List.set_cons_succ]
   refine z0a hh (i:=21) (oi:=_) (v:=?tv21) rfl (by decide) (by kernel_rfl) (by kernel_rfl) (fun _ _ _ h=>h) (Or.inl ⟨by kernel_rfl,?ty21⟩) hHeld ?tr21
   case ty21=>(intro w7 hS7;obtain⟨s0,s1,s2,s3⟩:=hS7;go_simp;try (with_reducible rfl))
   clear hh;intro hh
   try simp only[Act.put,List.setIfInBounds_toArray,List.set_cons_zero,List.set_cons_succ]
   refine z0a hh (i:=22) (oi:=_) (v:=?tv22) rfl (by decide) (by kernel_rfl) (by kernel_rfl) (fun _ _ _ h=>h) (Or.inl ⟨by kernel_rfl,?ty22⟩) hHeld ?tr22
   case ty22=>(intro w7 hS7;obtain⟨s0,s1,s2,s3⟩:=hS7;go_simp;try (with_reducible rfl))
   clear hh;intro hh
   try simp only[Act.put,List.setIfInBounds_toArray,List.set_cons_zero,List.set_cons_succ]
   refine z3f hh (i:=23) (oi:=_) rfl (by decide) (by kernel_rfl) rfl ?_;clear hh
   go_simp
   refine⟨⟨e0V,e2V,f1V,x0V⟩,fun hh=>?_⟩
   try clear hHeld
   try simp only[Act.put,List.setIfInBounds_toArray,List.set_cons_zero,List.set_cons_succ]
   refine z3f hh (i:=24) (oi:=_) rfl (by decide) (by kernel_rfl) rfl ?_;clear hh
   go_simp
   go_at_call 84
   (refine(zhh B r at_ wr.heap.size (.slice AO r cO) (s.opn.flatMap dsV) [.int .i64 CO,.int .i64 (fd:Int),.int .i64 x.num] V HROW.out hBV hatl (by omega) rfl HBV.out HVB.out H1X.out (zhi _)).mono ?_;rintro e11 w11 ⟨v',rfl,hrow',hgr,hbl⟩;obtain⟨A',c9,rfl,hok'⟩:=hrow'.slice;have q6:w11.cell? ⟨q,0,none⟩=some (.pointer (some ⟨p,0,none⟩)):=(World.cell?_of_block (a:=⟨q,0,none⟩) (hgr.block q hqV hnQ)).trans e0V;have q7:w11.cell? ⟨q,2,none⟩=some (.int .i64 CO):=(World.cell?_of_block (a:=⟨q,2,none⟩) (hgr.block q hqV hnQ)).trans e2V;have q8:w11.cell? ⟨g,i*4,none⟩=some (.int .i64 x.num):=(World.cell?_of_block (a:=⟨g,i*4,none⟩) (hgr.block g hgV hnG)).trans x0V;have p6:w11.cell? ⟨p,1,none⟩=some (.slice AO r cO):=(World.cell?_of_block (a:=⟨p,1,none⟩) (hgr.block p hpV hnP)).trans f1V;have f6:w11.frozen? ⟨p,1,none⟩=false:=(World.frozen?_of_block (a:=⟨p,1,none⟩) (hgr.block p hpV hnP)).trans fpV)
   refine⟨⟨q6,q7,p6,q8⟩,fun hh=>?_⟩
   try clear hHeld
   have hHeld:(fun w'=>w'.cell? ⟨q,0,none⟩=some (.pointer (some ⟨p,0,none⟩))∧w'.cell? ⟨q,2,none⟩=some (.int .i64 CO)∧w'.cell? ⟨p,1,none⟩=some (.slice AO r cO)∧w'.cell? ⟨g,i*4,none⟩=some (.int .i64 x.num)) w11:=⟨q6,q7,p6,q8⟩
   try simp only[Act.put,List.setIfInBounds_toArray,List.set_cons_zero,List.set_cons_succ]
   refine z0a hh (i:=25) (oi:=_) (v:=?tv25) rfl (by decide) (by kernel_rfl) (by kernel_rfl) (fun _ _ _ h=>h) (Or.inl ⟨by kernel_rfl,?ty25⟩) hHeld ?tr25
   case ty25=>(intro w7 hS7;obtain⟨s0,s1,s2,s3⟩:=hS7;go_simp;try (with_reducible rfl))
   clear hh;intro hh
   try simp only[Act.put,List.setIfInBounds_toArray,List.set_cons_zero,List.set_cons_succ]
   refine z0a hh (i:=26) (oi:=_) (v:=?tv26) rfl (by decide) (by kernel_rfl) (by kernel_rfl) (fun _ _ _ h=>h) (Or.inl ⟨by kernel_rfl,?ty26⟩) hHeld ?tr26
   case ty26=>(intro w7 hS7;obtain⟨s0,s1,s2,s3⟩:=hS7;go_simp;try (with_reducible rfl))
   clear hh;intro hh
   try simp only[Act.put,List.setIfInBounds_toArray,List.set_cons_zero,List.set_cons_succ]
   refine zap (oi:=_) rfl (by kernel_rfl) (by kernel_rfl) rfl ?_
   go_simp
   clear hh
   all_goals (
    rw[HFL.out] at hrow';rw[←HPL.out] at hrow' hbl;have hgr2:V.grownBy w11 (rowBlk vO):=by rw[HVO.out,HML.out];exact hgr
    have hfin:=HOV.out.setO hBV hgr2 hrow' HSF.out;rw[HPL.out] at hfin;obtain⟨W,hW⟩:∃W,w11.setCell ⟨p,1,none⟩ (.slice A' (r+1) c9)=W:=⟨_,rfl⟩;rw[hW] at hfin ⊢;have hDW:=HDV.out.turns HNr.out.ne hfin.2;have g10:=hDW.r10;have z10:=hDW.fz 10;have HFIN:=hid hfin;have HDW:=hid hDW;clear hfin hrow' hgr hgr2 hbl hW hDW;go_wp2_with fail
    go_returns
    refine⟨((HNr.out.low.trans (HAL.out.mono HNr.out.hB')).trans HFIN.out.2.below).trans (z4l HNr.out.hq),.inr ⟨by rw[HRF.out],rfl,⟨zs,vI,_,vM,by rw[HRF.out];exact HDW.out.set_own HFIN.out.1⟩,.slice none 0 0,by rw[HRF.out];exact HDW.out.setFd _,by rw[HRF.out];exact⟨rfl,.inl ⟨none,rfl,rfl⟩⟩⟩⟩)
theorem zbu:∀(l:List Ds) (core fd:Int),(∀x∈l,¬(x.core=core∧x.fd=fd))→dropD l core fd=l
 | [],_,_,_=>rfl
 | y::ys,core,fd,hl=>by
  unfold dropD;rw[if_neg (hl y (by simp)),zbu ys core fd (fun x hx=>hl x (by simp[hx]))]
theorem RiseD.tail {e:Ds} {t:List Ds} (h:RiseD (e::t)):RiseD t:=fun i j x y hij hx hy=>h (i+1) (j+1) x y (by omega) (by simpa using hx) (by simpa using hy)
theorem zej:∀(ds:List Ds) (k:Nat) (d:Ds),RiseD ds→ds[k]? =some d→dropD ds d.core d.fd=ds.take k++ds.drop (k+1)
 | [],k,d,hr,h=>by simp at h
 | e::t,0,d,hr,h=>by
  have:e=d:=by simpa using h
  subst this;unfold dropD;rw[if_pos ⟨rfl,rfl⟩,zbu t e.core e.fd (fun y hy e2=>?_)]
  ·rfl
  ·obtain⟨j,hj⟩:=List.getElem?_of_mem hy;have h1:=hr 0 (j+1) e y (by omega) rfl (by simpa using hj);unfold ltD at h1;omega
 | e::t,k+1,d,hr,h=>by
  have hd:t[k]? =some d:=by simpa using h
  have h1:=hr 0 (k+1) e d (by omega) rfl h;unfold ltD at h1;unfold dropD;rw[if_neg (by omega),zej t k d hr.tail hd]
  rfl
set_option maxRecDepth 100000 in
set_option maxHeartbeats 16000000 in
theorem zp0 (B q p:Nat) (s:St) (c:Ca) (zs:List (Ino×Value)) (vI vO vM:Value) (w:World) (hN:Now B q p s c zs vI vO vM w w) (hg:Good s) (hk:c.kind=3):
  Calls Tryz.prog 87 #[.pointer (some ⟨q,0,.none⟩)] w (Ran B q p c (byFdV s c) w):=by
 obtain⟨R,hR⟩:∃R,byFdV s c=R:=⟨_,rfl⟩;have hsz:=zck hg c;rw[hR] at hsz ⊢;unfold byFdV at hR;have d1:=hN.doer.c1;rw[hk] at d1;have HN:=hid hN;have HR:=hid hR;have HG:=hid hg;have HK:=hid hk;have HSZ:=hid hsz;clear hN hk hR hg hsz
 go_enter Tryz.func87,Tryz.ntmps87
 go_wp2_with fail;refine(z3e B q p s c 0 0 false ⟨#[]⟩ (.slice none 0 0) zs vI vO vM w HN.out.doer HN.out.own HG.out).mono ?_;rintro e1 w1 ⟨hb1,⟨h0,rfl⟩|⟨h0,g,n,d,i,x,k,hvI,hx,hxn,hxd,hfp,rfl⟩⟩
 ·have hr:=HR.out;rw[if_pos h0] at hr
  go_simp
  exact z0b rfl ((HN.out.step hb1).fail (by rw[←hr];simp) (by rw[←hr]))
 have hr:=HR.out;rw[if_neg h0,if_pos HK.out,←hxn] at hr;have HN1:=hid (HN.out.step hb1);obtain⟨y,hy,hyc,hyf,_⟩:=z9e _ _ _ _ hfp;have hdp:=zej s.opn k y HG.out.riseD hy;rw[hyc,hyf] at hdp;obtain⟨ds,hds⟩:∃ds,dropD s.opn c.core c.fd=ds:=⟨_,rfl⟩;rw[hds] at hr hdp;obtain⟨S2,hS2⟩:∃S2:St,({ s with opn:=ds }:St)=S2:=⟨_,rfl⟩;rw[hS2] at hr;have hs:=HSZ.out;rw[←hr] at hs;have HS:=hid hs;have HRF:=hid hr
 have hso:Sized { s with opn:=ds }:=((Small.opn HG.out.small ds (by
  rw[hdp,List.length_append,List.length_take,List.length_drop];have:=HG.out.opn_len;omega)).sized (by omega) (by omega) (by omega))
 obtain⟨AO,cO,hvO,_,hOD⟩:=HN1.out.own.rowO.descs;obtain⟨ML,hML⟩:∃ML,s.opn.length=ML:=⟨_,rfl⟩;have s11:=HN1.out.own.s1;rw[hvO,hML] at s11;have d01:=HN1.out.doer.c0;have hkm:k<ML:=by have:=(List.getElem?_eq_some_iff.1 hy).1;omega
 have hml:ML≤32:=by have:=HG.out.opn_len;omega
 have hrow:RowAt B w1.drew 89 3 (.slice AO ML cO) ML (s.opn.flatMap dsV):=by
  have h:=HN1.out.own.rowO;rw[hvO,hML] at h;exact h
 have hq1:=HN1.out.doer.lt;have hp1:=HN1.out.own.lt;have hqp:=HN1.out.ne
 have hnQ:some q≠rowBlk (.slice AO ML cO):=fun e=>by
  obtain⟨_,_,c1,h1⟩:=hrow.blk q e.symm;exact z0i HN1.out.doer.cell h1 (by decide) rfl
 have hnP:some p≠rowBlk (.slice AO ML cO):=fun e=>by
  obtain⟨_,_,c1,h1⟩:=hrow.blk p e.symm;exact z0i HN1.out.own.cell h1 (by decide) rfl
 have hflat:(s.opn.flatMap dsV).take (k*3)++(s.opn.flatMap dsV).drop ((k+1)*3)=ds.flatMap dsV:=by
  rw[z1o dsV 3 (fun _=>rfl),z1p dsV 3 (fun _=>rfl),hdp,List.flatMap_append]
 have hpl:ds.length=ML-1:=by rw[hdp,List.length_append,List.length_take,List.length_drop];omega
 have fp:w1.frozen? ⟨p,1,none⟩=false:=frozen_of_row w1 p 1 _ _ HN1.out.own.cell;have kw:IntKind.i64.wrap ((k:Int)+1)=(k:Int)+1:=by rw[IntKind.wrap_i64];omega
 have HROW:=hid hrow;have HFL:=hid hflat;have HPL:=hid hpl;have HSO:=hid hso;have HS2:=hid hS2;have HVO:Hid (vO=.slice AO ML cO):=by rw[hvO,hML];exact rfl
 have HX:=hid hx;have HXD:=hid hxd;have HVI:=hid hvI;clear hr hs hb1 hdp hds hS2 hso hvO hOD hML hrow hflat hpl hy hyc hyf hfp h0 hx hxn hxd hvI d1;go_wp2_with fail
 go_region_law (go_simp;go_at_call 83;(refine(zhg B ML k (.slice AO ML cO) (s.opn.flatMap dsV) w1.drew HROW.out hkm (zhi _)).mono ?_;rintro e6 w6 ⟨v',rfl,hrow',hgr,hbl⟩;obtain⟨A',c9,rfl,hok'⟩:=hrow'.slice;have q6:w6.cell? ⟨q,0,none⟩=some (.pointer (some ⟨p,0,none⟩)):=(World.cell?_of_block (a:=⟨q,0,none⟩) (hgr.block q hq1 hnQ)).trans d01;have p6:w6.cell? ⟨p,1,none⟩=some (.slice AO ML cO):=(World.cell?_of_block (a:=⟨p,1,none⟩) (hgr.block p hp1 hnP)).trans s11;have f6:w6.frozen? ⟨p,1,none⟩=false:=(World.frozen?_of_block (a:=⟨p,1,none⟩) (hgr.block p hp1 hnP)).trans fp;have q9:(w6.setCell ⟨p,1,none⟩ (.slice A' (ML-1) c9)).cell? ⟨q,0,none⟩=some (.pointer (some ⟨p,0,none⟩)):=(World.cell?_setCell_other w6 ⟨p,1,none⟩ ⟨q,0,none⟩ _ (by simp[hqp,hqp.symm])).trans q6))
 all_goals (
  rw[HFL.out] at hrow';rw[←HPL.out] at hrow' hbl;have hgr2:=z3q hgr;rw[←HVO.out] at hgr2;have hfin:=HN1.out.own.setO HN1.out.hB' hgr2 hrow' HSO.out;rw[HPL.out] at hfin;obtain⟨W,hW⟩:∃W,w6.setCell ⟨p,1,none⟩ (.slice A' (ML-1) c9)=W:=⟨_,rfl⟩;rw[hW] at hfin ⊢;rw[HS2.out] at hfin;have hDW:=HN1.out.doer.turns HN1.out.ne hfin.2;have hBW:B≤W.heap.size:=Nat.le_trans HN1.out.hB' hfin.2.below.size;have hx2:S2.inos[i]? =some x:=by rw[←HS2.out];exact HX.out
  have hri:RiseI S2.inos:=by rw[←HS2.out];exact HG.out.riseI
  obtain⟨g2,c2,E2,m2,e2,hv2,_,_,_,_,y0,_⟩:=hfin.1.at_ hx2;have hgg:g2=g:=by have h:=HVI.out;rw[hv2] at h;injection h with e1 _ _;injection e1 with e1;injection e1 with e1
  subst hgg;have htid:=zei B q p S2 c 0 0 false ⟨#[]⟩ (.slice none 0 0) zs vI (.slice A' (ML-1) c9) vM i x W hDW hfin.1 hBW hri hx2 HXD.out HS.out;have HFIN:=hid hfin;have HTID:=hid htid;clear hfin hrow' hgr hgr2 hbl hW hDW htid hx2 hri hv2 q9;go_wp2_with fail;refine HTID.out.mono ?_;rintro e7 w7 ⟨rfl,ht7,zs7,vI7,ho7⟩;go_wp2_with fail
  go_returns
  exact HN1.out.done (by rw[←HRF.out]) rfl (HFIN.out.2.trans ht7) ⟨zs7,vI7,_,vM,by rw[←HRF.out];exact ho7⟩)
end Go.Proofs.YtkflaifopbodfaaGreatDoor
