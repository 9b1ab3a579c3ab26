/- Parts of the proof, side by side: FsMayDoc, LaBuild, FsMay. -/
import Derived.Test.YtmmpkfcdfcldlaaGreatFsMayReg
import Derived.Test.YtmmpkfcdfcldlaaGreatM02
import Derived.Lib.Builder
import Derived.Lib.FrozenHead2
import Derived.Lib.UnsafeStr
import Derived.Shelf.RegionOpenPlain
import Derived.Test.YtmmpkfcdfcldlaaGreatM00
set_option linter.unusedVariables false
set_option linter.unusedSimpArgs false
namespace Go.Proofs.YtmmpkfcdfcldlaaGreat
open Lib (hid)
open Go.RowKit
theorem zid (l:List Bool) (k:Nat):(l.drop k).headD false=l.getD k false:=by
 rw[List.getD_eq_getElem?_getD];cases h:l.drop k with
 | nil=>
  have:l.length≤k:=List.drop_eq_nil_iff.1 h;rw[List.getElem?_eq_none this]
  rfl
 | cons a t =>
  have:l[k]? =some a:=by
   have h2:=congrArg (·[0]?) h
   simpa using h2
  rw[this]
  rfl
theorem zie (l:List Bool) (k:Nat):(l.drop k).tail=l.drop (k+1):=by simp
set_option maxRecDepth 100000 in
set_option maxHeartbeats 16000000 in
theorem zif (v : Value) (s : St) (w : World) (h : StAt none w v s) :
  Calls Tryz.prog 13 #[v] w fun e w'=>e=.returned (.bool (mayV s))∧Below w.heap.size w w':=by
 obtain⟨⟨A,n,c,B,m,d,D,k,e,rfl,hI,hD,hM,h5,h6,h7⟩,hz⟩:=h;obtain⟨R,hR⟩:∃R,mayV s=R:=⟨_,rfl⟩;rw[hR];unfold mayV at hR;have hbig:=hz.big;have hn:=hI.1;have hkm:=hM.1;have hn2:n≤1099511627776:=by omega
 have hk2:k≤1099511627776:=by omega
 have hB2:bulkE s.inos≤1099511627776:=by omega
 rw[hn,hkm] at hR;obtain⟨W,hW,b0,b1,b2,hal,hlt0⟩:=z1l w A n c B m d D k e;have HS:=hid ((StAt.of_parts hI hD hM h5 h6 h7 hz).below hal);have HI:=hid (hI.below hal);have HM:=hid (hM.below hal);have HAL:=hid hal;have HR:=hid hR;have HZ:=hid hz;have HN:=hid hn;have HK:=hid hkm;have HB2:=hid hB2;clear hI hD hM hz hR hal hbig hn hkm hB2;obtain⟨B1,hB1⟩:∃B1,(decide (1≤k)&&decide (k≤8)&&rootB s.inos&&opensV s)=B1:=⟨_,rfl⟩
 have hR1:B1=false→R=false:=fun hb=>by
  have h:=HR.out;rw[hB1,hb] at h
  simpa using h.symm
 have HB1:=hid hB1;have HR1:=hid hR1;clear hB1 hR1
 go_enter Tryz.func13,Tryz.ntmps13
 go_upto_region 1 with fail
 clear hW
 go_cut [44] (fun c wx=>c=.bool (!B1)∧∃X:Ext W,wx=X.w)
 case first=>
  by_cases a1:k<1
  ·have hb:B1=false:=by rw[←HB1.out];simp;omega
   go_wp2_with fail;go_meet;exact⟨congrArg Value.bool (by rw[hb];rfl),⟨W,Below.refl _ _⟩,rfl⟩
  by_cases a2:8<k
  ·have hb:B1=false:=by rw[←HB1.out];simp;omega
   have qa:decide ((8:Int)<(k:Int))=true:=by rw[decide_eq_true_eq];omega
   have qb:decide ((k:Int)<1)=false:=by rw[decide_eq_false_iff_not];omega
   go_wp2_with fail;go_meet;exact⟨congrArg Value.bool (by rw[hb];rfl),⟨W,Below.refl _ _⟩,rfl⟩
  have qa:decide ((8:Int)<(k:Int))=false:=by rw[decide_eq_false_iff_not];omega
  have qb:decide ((k:Int)<1)=false:=by rw[decide_eq_false_iff_not];omega
  by_cases a3:n<1
  ·have hb:B1=false:=by
    rw[←HB1.out];have:s.inos=[]:=List.eq_nil_of_length_eq_zero (by have:=HN.out;omega);rw[this];simp[rootB]
   have qc:decide ((n:Int)<1)=true:=by rw[decide_eq_true_eq];omega
   go_wp2_with fail;go_meet;exact⟨congrArg Value.bool (by rw[hb];rfl),⟨W,Below.refl _ _⟩,rfl⟩
  have qc:decide ((n:Int)<1)=false:=by rw[decide_eq_false_iff_not];omega
  obtain⟨g,off,x,E,m2,d2,rfl,hg,hx,hd,hmem,c0,c1,_,_,_,_⟩:=HI.out.get 0 (by omega)
  have hroot:rootB s.inos=(decide (x.num=1)&&x.dir):=by
   have:s.inos=x::s.inos.drop 1:=by simpa using hd
   rw[this]
   rfl
  have n0:(0:Int)<(n:Int):=by omega
  have HRO:=hid hroot;rw[Nat.zero_mul,Nat.add_zero] at c0 c1;clear hx hd hmem hroot
  by_cases a4:x.num=1
  ·have qn:(x.num != 1)=false:=by rw[a4];rfl
   by_cases a5:x.dir=true
   ·have HA4:=hid a4;have HA5:=hid a5;rw[a5] at c1;clear a4 a5;go_wp2_with fail;refine(zib _ s _ HS.out).mono ?_;rintro e5 w5 ⟨rfl,hb5⟩;have HX5:=hid hb5;clear hb5;go_wp2_with fail;go_meet;exact⟨congrArg Value.bool (by rw[←HB1.out,HRO.out,HA4.out,HA5.out];simp;omega),⟨w5,HX5.out⟩,rfl⟩
   ·have a6:x.dir=false:=by simpa using a5
    have hb:B1=false:=by rw[←HB1.out,HRO.out,a6];simp
    rw[a6] at c1;go_wp2_with fail;go_meet;exact⟨congrArg Value.bool (by rw[hb];rfl),⟨W,Below.refl _ _⟩,rfl⟩
  ·have qn:(x.num != 1)=true:=by rw[bne_iff_ne];exact a4
   have hb:B1=false:=by rw[←HB1.out,HRO.out,decide_eq_false a4];simp
   go_wp2_with fail;go_meet;exact⟨congrArg Value.bool (by rw[hb];rfl),⟨W,Below.refl _ _⟩,rfl⟩
 case rest =>
  obtain⟨rfl,X,rfl⟩:=hcut;generalize hZe:X.w=Z;have hZ:=hZe▸X.bel;clear hZe X;cases B1
  ·have HRF:=hid (HR1.out rfl);have HZ2:=hid hZ;clear hZ;go_wp2_with fail;go_ret;exact⟨Cv.ret_bool HRF.out.symm,Cv.next HAL.out HZ2.out⟩
  have z0:=(hZ.cell (p:=⟨w.heap.size,0,.none⟩) hlt0).trans b0;have z1:=(hZ.cell (p:=⟨w.heap.size,1,.none⟩) hlt0).trans b1;have z2:=(hZ.cell (p:=⟨w.heap.size,2,.none⟩) hlt0).trans b2;have HIZ:=hid (HI.out.below hZ);have HMZ:=hid (HM.out.below hZ);have HSZ:=hid (HS.out.below hZ);have HZ2:=hid hZ;have hlz:w.heap.size<Z.heap.size:=Nat.lt_of_lt_of_le hlt0 hZ.size;have hB1:=HB1.out;rw[Bool.and_eq_true,Bool.and_eq_true,Bool.and_eq_true,decide_eq_true_eq,decide_eq_true_eq] at hB1;have hr:=HR.out;rw[decide_eq_true hB1.1.1.1,decide_eq_true hB1.1.1.2,hB1.1.2,hB1.2] at hr;have hr2:(madeG s.made&&decide (n≤257)&&inosG s s.inos none (reachV s.inos))=R:=by simpa using hr
  have HR2:=hid hr2;have hk1:=hB1.1.1.1;clear hZ hB1 hr hr2 HR1 HR b0 b1 b2;go_wp2_with fail
  go_loop [3] (fun i=>∃q:Nat,i=.int .i64 q∧q≤k∧madeG (s.made.drop q)=madeG s.made) (fun i=>k-(intOf i).toNat)
  case atStart=>exact⟨0,rfl,by omega,rfl⟩
  case round =>
   obtain⟨q,rfl,hq,hc⟩:=hrel
   by_cases hlt:q<k
   ·obtain⟨g,off,x,rfl,hg,hx,hd,hmem,c0⟩:=HMZ.out.get q hlt;rw[hd,madeG] at hc
    by_cases hbad:x<0∨32<x
    ·rw[if_pos hbad] at hc;have hrf:R=false:=by rw[←HR2.out,←hc];rfl
     have HRF:=hid hrf;clear hc hd hx hmem hrf
     by_cases h0:x<0
     ·clear hbad;go_wp2_with fail;go_ret;exact⟨Cv.ret_bool HRF.out.symm,Cv.next HAL.out HZ2.out⟩
     ·have q0:decide (x<0)=false:=by rw[decide_eq_false_iff_not];exact h0
      have q1:decide (32<x)=true:=by rw[decide_eq_true_eq];omega
      clear hbad;go_wp2_with fail;go_ret;exact⟨Cv.ret_bool HRF.out.symm,Cv.next HAL.out HZ2.out⟩
    ·rw[if_neg hbad] at hc;have q0:decide (x<0)=false:=by rw[decide_eq_false_iff_not];omega
     have q1:decide (32<x)=false:=by rw[decide_eq_false_iff_not];omega
     have HC:=hid hc;clear hc hd hx hmem hbad;go_wp2_with fail
     go_round
     case rel=>exact⟨q+1,by go_num,by omega,HC.out⟩
     case measure=>simp[intOf];omega
   ·have : s.made.drop q = [] := List.drop_eq_nil_of_le (by have := HMZ.out.1; omega);rw [this, madeG] at hc;have hr := HR2.out;rw [← hc, Bool.true_and] at hr
    by_cases h257:257<n
    ·rw[decide_eq_false (by omega),Bool.false_and] at hr;have HRF:=hid hr;have q2:decide ((257:Int)<(n:Int))=true:=by rw[decide_eq_true_eq];omega
     have q3:decide ((q:Int)<(k:Int))=false:=by rw[decide_eq_false_iff_not];omega
     clear hr hc this;go_wp2_with fail;go_ret;exact⟨Cv.ret_bool HRF.out,Cv.next HAL.out HZ2.out⟩
    ·rw [decide_eq_true (by omega), Bool.true_and] at hr;have HR3 := hid hr;have q2 : decide ((257 : Int) < (n : Int)) = false := by rw [decide_eq_false_iff_not]; omega
     have q3:decide ((q:Int)<(k:Int))=false:=by rw[decide_eq_false_iff_not];omega
     clear hr hc this;go_wp2_with fail;refine(zdx _ s _ HSZ.out (by have:=HN.out;omega)).mono ?_;rintro e5 w5 ⟨G,rfl,hfl,hb5⟩;rw[HN.out] at hfl ⊢;have y0:=(hb5.cell (p:=⟨w.heap.size,0,.none⟩) hlz).trans z0;have y1:=(hb5.cell (p:=⟨w.heap.size,1,.none⟩) hlz).trans z1;have y2:=(hb5.cell (p:=⟨w.heap.size,2,.none⟩) hlz).trans z2;have HI5:=hid (HIZ.out.below hb5);have HS5:=hid (HSZ.out.below hb5);have HW5:=hid (Cv.next HAL.out (Cv.next HZ2.out hb5));have HFL:=hid hfl;have hl5:w.heap.size<w5.heap.size:=Nat.lt_of_lt_of_le hlz hb5.size;have hG5:G<w5.heap.size:=hfl.lt;clear hfl hb5 z0 z1 z2 q2 q3 hlt;go_wp2_with fail
     go_loopw [5,6,7] (fun i _ _ wr=>∃q:Nat,i=.int .i64 q∧q≤n∧Below w5.heap.size w5 wr∧inosG s (s.inos.drop q) (prevI s.inos q) ((reachV s.inos).drop q)=R) (fun i _ _ _=>n-(intOf i).toNat)
     case atStart=>exact⟨0,rfl,by omega,Below.refl _ _,by rw[List.drop_zero,List.drop_zero];exact HR3.out⟩
     case round =>
      obtain⟨q,rfl,hq,hbel,hc⟩:=hrel;have HB:=hid hbel;have HIr:=hid (HI5.out.below hbel);have r0:=(hbel.cell (p:=⟨w.heap.size,0,.none⟩) hl5).trans y0;have r1:=(hbel.cell (p:=⟨w.heap.size,1,.none⟩) hl5).trans y1;have r2:=(hbel.cell (p:=⟨w.heap.size,2,.none⟩) hl5).trans y2;clear hbel
      by_cases hlt:q<n
      ·obtain⟨g,off,x,E,m2,d2,rfl,hg,hx,hd,hmem,c0,c1,c2,hmd,hE,c3⟩:=HIr.out.get q hlt;obtain⟨xn,xd,xe,xdat⟩:=x;dsimp only at c0 c1 c2 c3 hE;have hle:m2≤1099511627776:=by have h1:=hE.1;have h2:=z0y hx;have:=HB2.out;dsimp only at h2;omega
       have htx:=HZ.out.text _ hmem;have hnx:=HZ.out.nums.1 _ hmem;dsimp only at htx hnx;have hes:xe.length=m2:=hE.1;rw[hd,inosG,zid,zie] at hc;obtain⟨BD,hBD⟩:∃BD,inoBad s (prevI s.inos q) ⟨xn,xd,xe,xdat⟩=BD:=⟨_,rfl⟩;obtain⟨PD,hPD⟩:∃PD,inoLost s (prevI s.inos q).isNone ⟨xn,xd,xe,xdat⟩ ((reachV s.inos).getD q false)=PD:=⟨_,rfl⟩;rw[hBD,hPD] at hc;have hfq:(reachV s.inos).getD q false=(reachV s.inos).getD q false:=rfl;have HBD:=hid hBD;have HPD:=hid hPD;have HC:=hid hc;have HY:=hid hx;have HE:=hid hE;have HTX:=hid htx.2;have HES:=hid hes;have hxs:=htx.1;have hn1:=hnx.1;have hn9:=hnx.2.1;have k0:(0:Int)≤(q:Int):=by omega
       have k1:(q:Int)<(n:Int):=by omega
       clear hc hd hmem hx hBD hPD hE htx hnx hfq hes;obtain⟨V2,hV2,v0,v1,v2,v3,hal4,hlt4⟩:=z4c wr xn xd E m2 d2 xdat;have hbv:=Cv.next HB.out hal4;have x0:=(hal4.cell (p:=⟨w.heap.size,0,.none⟩) (Nat.lt_of_lt_of_le hl5 HB.out.size)).trans r0;have x1:=(hal4.cell (p:=⟨w.heap.size,1,.none⟩) (Nat.lt_of_lt_of_le hl5 HB.out.size)).trans r1;have x2:=(hal4.cell (p:=⟨w.heap.size,2,.none⟩) (Nat.lt_of_lt_of_le hl5 HB.out.size)).trans r2;have HSV:=hid (HS5.out.below hbv);have HIV:=hid (HI5.out.below hbv);have HEV:=hid (HE.out.below hal4);have HBV:=hid hbv;have HFV:=hid (HFL.out.below hbv);clear hal4 hbv;go_upto_region 15 with fail
       have hX:=@Ext.cell V2;clear hV2 r0 r1 r2 c0 c1 c2 c3
       go_cut [136] (fun c wx=>c=.bool BD∧∃X:Ext V2,wx=X.w)
       case first=>
        have hK:∀a':Act,a'.tmps=a'.tmps→True:=fun _ _=>trivial
        refine wre ?_
        by_cases hq0:q=0
        ·refine zmb s n c m d k e _ B D V2 w.heap.size wr.heap.size x0 x1 x2 HSV.out HIV.out xn xd xe xdat E m2 d2 v0 v1 v2 v3 HEV.out hmd hle HTX.out hn1 hn9 hxs q hlt hn2 BD HBD.out hq0 _ _ _ _ _ _ _ _ _ _ _ _ _ _ _ _ _ _ _ _ _ _ _ _ _ _ _ _ _ _ _ _ _ _ _ _ _ _ _ _ _ _ _ _ _ _ _ _ _ _ _ _ _ _ _ _ _ _ _ _ _ _ _ _ _ _ _ _ _ _ _ _ _ _ _ _ _ _ _ _ _ _ _ _ _ _ _ _ _ _ _ _ _ _ _ _ _ _ _ _ _ _ _ _ _ _ _ _ _ _ _ _ _ _ _ _ _ _ _ _ _ _ _ _ _ _ _ _ _ _ _ _ _ _ _ _ _ _ _ _ _ _ _ _ _ _ _ _ _ _ _ _ _ _ _ _ _ _ _ _ _ _ _ _ _ _ _ _ _ _ _ _ _ _ _ ?_;clear hq0;rintro v84 v85 v86 v87 v88 v89 v90 v91 v92 v93 v94 v95 v96 v97 v98 v99 v100 v101 v102 v103 v104 v105 v106 v107 v108 v109 v110 v111 v112 v113 v114 v115 v116 v117 v118 v119 v120 v121 v122 v123 v124 v125 v126 v127 v128 v129 v130 v131 v132 v133 v134 v135 v136 hv w7 ⟨X,rfl⟩;subst hv;go_wp2_with fail;go_meet;exact⟨rfl,X,rfl⟩
        have hql:q-1<s.inos.length:=by have:=HIV.out.1;omega
        by_cases hbad:xn≤(s.inos[q-1]).num∨givenV s.made xn=false
        ·refine zln s n c m d k e _ B D V2 w.heap.size wr.heap.size x0 x1 x2 HSV.out HIV.out xn xd xe xdat E m2 d2 v0 v1 v2 v3 HEV.out hmd hle HTX.out hn1 hn9 hxs q hlt hn2 BD HBD.out (by omega) _ (List.getElem?_eq_getElem hql) hbad _ _ _ _ _ _ _ _ _ _ _ _ _ _ _ _ _ _ _ _ _ _ _ _ _ _ _ _ _ _ _ _ _ _ _ _ _ _ _ _ _ _ _ _ _ _ _ _ _ _ _ _ _ _ _ _ _ _ _ _ _ _ _ _ _ _ _ _ _ _ _ _ _ _ _ _ _ _ _ _ _ _ _ _ _ _ _ _ _ _ _ _ _ _ _ _ _ _ _ _ _ _ _ _ _ _ _ _ _ _ _ _ _ _ _ _ _ _ _ _ _ _ _ _ _ _ _ _ _ _ _ _ _ _ _ _ _ _ _ _ _ _ _ _ _ _ _ _ _ _ _ _ _ _ _ _ _ _ _ _ _ _ _ _ _ _ _ _ _ _ _ _ _ _ _ ?_;rintro v84 v85 v86 v87 v88 v89 v90 v91 v92 v93 v94 v95 v96 v97 v98 v99 v100 v101 v102 v103 v104 v105 v106 v107 v108 v109 v110 v111 v112 v113 v114 v115 v116 v117 v118 v119 v120 v121 v122 v123 v124 v125 v126 v127 v128 v129 v130 v131 v132 v133 v134 v135 v136 hv w7 ⟨X,rfl⟩;subst hv;go_wp2_with fail;go_meet;exact⟨rfl,X,rfl⟩
        ·refine zmc s n c m d k e _ B D V2 w.heap.size wr.heap.size x0 x1 x2 HSV.out HIV.out xn xd xe xdat E m2 d2 v0 v1 v2 v3 HEV.out hmd hle HTX.out hn1 hn9 hxs q hlt hn2 BD HBD.out (by omega) _ (List.getElem?_eq_getElem hql) (fun h=>hbad (.inl h)) (by cases hg:givenV s.made xn;exact absurd (.inr hg) hbad;rfl) _ _ _ _ _ _ _ _ _ _ _ _ _ _ _ _ _ _ _ _ _ _ _ _ _ _ _ _ _ _ _ _ _ _ _ _ _ _ _ _ _ _ _ _ _ _ _ _ _ _ _ _ _ _ _ _ _ _ _ _ _ _ _ _ _ _ _ _ _ _ _ _ _ _ _ _ _ _ _ _ _ _ _ _ _ _ _ _ _ _ _ _ _ _ _ _ _ _ _ _ _ _ _ _ _ _ _ _ _ _ _ _ _ _ _ _ _ _ _ _ _ _ _ _ _ _ _ _ _ _ _ _ _ _ _ _ _ _ _ _ _ _ _ _ _ _ _ _ _ _ _ _ _ _ _ _ _ _ _ _ _ _ _ _ _ _ _ _ _ _ _ _ _ _ _ ?_;rintro v84 v85 v86 v87 v88 v89 v90 v91 v92 v93 v94 v95 v96 v97 v98 v99 v100 v101 v102 v103 v104 v105 v106 v107 v108 v109 v110 v111 v112 v113 v114 v115 v116 v117 v118 v119 v120 v121 v122 v123 v124 v125 v126 v127 v128 v129 v130 v131 v132 v133 v134 v135 v136 hv w7 ⟨X,rfl⟩
         subst hv;go_wp2_with fail;go_meet;exact⟨rfl,X,rfl⟩
       case rest =>
        obtain⟨rfl,X,rfl⟩:=hcut;generalize hZe:X.w=Z5;have hZ5:=hZe▸X.bel;clear hZe X hX;have hb9:=Cv.next HBV.out hZ5;have HB9:=hid hb9;cases BD;rotate_left
        ·have hr:=HC.out;rw[if_pos rfl] at hr;have HR9:=hid hr;clear hr hZ5 hb9;go_wp2_with fail;go_ret;exact⟨Cv.ret_bool HR9.out,Cv.next HW5.out HB9.out⟩
        have hr:=HC.out;rw[if_neg (by simp)] at hr;have HR9:=hid hr;have t0:=(hZ5.cell (p:=⟨w.heap.size,0,.none⟩) (Nat.lt_trans (Nat.lt_of_lt_of_le hl5 HB.out.size) hlt4)).trans x0;have t1:=(hZ5.cell (p:=⟨w.heap.size,1,.none⟩) (Nat.lt_trans (Nat.lt_of_lt_of_le hl5 HB.out.size) hlt4)).trans x1;have t2:=(hZ5.cell (p:=⟨w.heap.size,2,.none⟩) (Nat.lt_trans (Nat.lt_of_lt_of_le hl5 HB.out.size) hlt4)).trans x2;have u0':=(hZ5.cell (p:=⟨wr.heap.size,0,.none⟩) hlt4).trans v0;have u1':=(hZ5.cell (p:=⟨wr.heap.size,1,.none⟩) hlt4).trans v1;have HS9:=hid (HS5.out.below hb9);have HF9:=hid (HFL.out.below hb9);have hw9:wr.heap.size<Z5.heap.size:=Nat.lt_of_lt_of_le hlt4 hZ5.size;have hs9:w.heap.size<Z5.heap.size:=Nat.lt_of_lt_of_le (Nat.lt_trans (Nat.lt_of_lt_of_le hl5 HB.out.size) hlt4) hZ5.size;clear hr hZ5 hb9 x0 x1 x2 v0 v1 v2 v3;go_wp2_with fail;refine(z3z _ s xn _ HS9.out).mono ?_
        rintro e6 w6 ⟨rfl,hb6⟩;obtain⟨KL,hKL⟩:∃KL,linkI s.inos xn=KL:=⟨_,rfl⟩;rw[hKL];have HKL:=hid hKL;have a0:=(hb6.cell (p:=⟨w.heap.size,0,.none⟩) hs9).trans t0;have a1:=(hb6.cell (p:=⟨w.heap.size,1,.none⟩) hs9).trans t1;have a2:=(hb6.cell (p:=⟨w.heap.size,2,.none⟩) hs9).trans t2;have i0':=(hb6.cell (p:=⟨wr.heap.size,0,.none⟩) hw9).trans u0';have i1':=(hb6.cell (p:=⟨wr.heap.size,1,.none⟩) hw9).trans u1';have HS6:=hid (HS9.out.below hb6);have HB6:=hid (Cv.next HB9.out hb6);obtain⟨fc,_⟩:=(HF9.out.below hb6).get q hlt;obtain⟨FQ,hFQ⟩:∃FQ,(reachV s.inos).getD q false=FQ:=⟨_,rfl⟩;rw[hFQ] at fc;have hpd:=HPD.out;rw[hFQ] at hpd;unfold inoLost at hpd;dsimp only at hpd;rw[hKL] at hpd
        have hpi:(prevI s.inos q).isNone=decide (q=0):=by
         unfold prevI
         by_cases hq0:q=0
         ·rw[if_pos hq0,decide_eq_true hq0];rfl
         ·have hl:q-1<s.inos.length:=by have:=HIr.out.1;omega
          rw[if_neg hq0,decide_eq_false hq0,List.getElem?_eq_getElem hl]
          rfl
        rw[hpi] at hpd;have HPD2:=hid hpd;clear hb6 t0 t1 t2 u0' u1' hKL hFQ hpd hpi;go_upto_region 18 with fail
        go_cut [176] (fun c wx=>c=.bool PD∧∃X:Ext w6,wx=X.w)
        case first=>
         cases xd;rotate_left
         ·by_cases hq0:q=0
          ·skip
           have HQ0:=hid hq0;have q1:decide ((0:Int)<(q:Int))=false:=by rw[decide_eq_false_iff_not];omega
           have q1':decide (0<q)=false:=by rw[decide_eq_false_iff_not];omega
           clear hq0;go_wp2_with fail;go_meet;exact⟨congrArg Value.bool (by rw[←HPD2.out];simp[HQ0.out]),⟨w6,Below.refl _ _⟩,rfl⟩
          have HQ0:=hid hq0;have q1:decide ((0:Int)<(q:Int))=true:=by rw[decide_eq_true_eq];omega
          have q1':decide (0<q)=true:=by rw[decide_eq_true_eq];omega
          clear hq0
          by_cases hk1:KL=1
          ·have q2:((KL:Int) != 1)=false:=by rw[hk1];rfl
           have HK1:=hid hk1;clear hk1;cases FQ
           ·skip
            go_wp2_with fail;go_meet;exact⟨congrArg Value.bool (by rw[←HPD2.out];simp[HQ0.out,HK1.out]),⟨w6,Below.refl _ _⟩,rfl⟩
           ·skip
            go_wp2_with fail;go_meet;exact⟨congrArg Value.bool (by rw[←HPD2.out];simp[HQ0.out,HK1.out]),⟨w6,Below.refl _ _⟩,rfl⟩
          ·have q2:((KL:Int) != 1)=true:=by rw[bne_iff_ne];omega
           go_wp2_with fail;go_meet;exact⟨congrArg Value.bool (by rw[←HPD2.out];simp[HQ0.out,hk1]),⟨w6,Below.refl _ _⟩,rfl⟩
         ·by_cases hq0:q=0
          ·skip
           have HQ0:=hid hq0;have q1:decide ((0:Int)<(q:Int))=false:=by rw[decide_eq_false_iff_not];omega
           have q1':decide (0<q)=false:=by rw[decide_eq_false_iff_not];omega
           clear hq0;cases FQ
           ·skip
            go_wp2_with fail;refine(z4y _ s _ _ HS6.out).mono ?_;rintro e7 w7 ⟨rfl,hb7⟩;have HX7:=hid hb7;clear hb7;go_wp2_with fail;go_meet;exact⟨congrArg Value.bool (by rw[←HPD2.out];simp),⟨w7,HX7.out⟩,rfl⟩
           ·skip
            go_wp2_with fail;go_meet;exact⟨congrArg Value.bool (by rw[←HPD2.out];simp[HQ0.out]),⟨w6,Below.refl _ _⟩,rfl⟩
          have HQ0:=hid hq0;have q1:decide ((0:Int)<(q:Int))=true:=by rw[decide_eq_true_eq];omega
          have q1':decide (0<q)=true:=by rw[decide_eq_true_eq];omega
          clear hq0;cases FQ
          ·skip
           go_wp2_with fail;refine(z4y _ s _ _ HS6.out).mono ?_;rintro e7 w7 ⟨rfl,hb7⟩;have HX7:=hid hb7;clear hb7;go_wp2_with fail;go_meet;exact⟨congrArg Value.bool (by rw[←HPD2.out];simp),⟨w7,HX7.out⟩,rfl⟩
          ·skip
           go_wp2_with fail;go_meet;exact⟨congrArg Value.bool (by rw[←HPD2.out];simp[HQ0.out]),⟨w6,Below.refl _ _⟩,rfl⟩
        case rest=>
         obtain⟨rfl,X,rfl⟩:=hcut;generalize hZe:X.w=Z6;have hZ6:=hZe▸X.bel;clear hZe X;have HB7:=hid (Cv.next HB6.out hZ6);clear hZ6 a0 a1 a2 i0' i1' fc;cases PD;rotate_left
         ·have hr:=HR9.out;rw[if_pos rfl] at hr;have HR8:=hid hr;clear hr;go_wp2_with fail;go_ret;exact⟨Cv.ret_bool HR8.out,Cv.next HW5.out HB7.out⟩
         ·have hr:=HR9.out;rw[if_neg (by simp)] at hr;have HR8:=hid hr;clear hr;go_wp2_with fail;go_roundw
          case rel=>exact⟨q+1,by go_num,by omega,HB7.out,by
           have e:prevI s.inos (q+1)=some xn:=by unfold prevI;rw[if_neg (by omega),Nat.add_sub_cancel,HY.out];rfl
           rw[e];exact HR8.out⟩
          case measure=>simp[intOf];omega
      ·have:s.inos.drop q=[]:=List.drop_eq_nil_of_le (by have:=HIr.out.1;omega);rw[this,inosG] at hc;have HC:=hid hc;clear hc this;go_wp2_with fail;go_ret;exact⟨Cv.ret_bool HC.out,Cv.next HW5.out HB.out⟩
theorem z5d:(Tryz.prog.info? 5).map (fun i=>(i.zero,i.size,i.bytes))=some (some (.int .u8 0),1,1):=by kernel_rfl
structure Wr (B b:Nat) (w w':World):Prop where
 below:Below B w w'
 keep:∀k o,w.heap[k]? =some o→k≠b→(∀cs fr,o≠.cells cs 5 fr)→w'.heap[k]? =some o
theorem Wr.refl (B b:Nat) (w:World):Wr B b w w:=⟨Below.refl _ _,fun _ _ h _ _=>h⟩
theorem Wr.trans {B b:Nat} {w w' w'':World} (h:Wr B b w w') (h':Wr B b w' w''):Wr B b w w'':=⟨h.below.trans h'.below,fun k o h1 h2 h3=>h'.keep k o (h.keep k o h1 h2 h3) h2 h3⟩
theorem Wr.of_below {B b:Nat} {w w':World} (h:Below w.heap.size w w') (hB:B≤w.heap.size):Wr B b w w':=⟨h.mono hB,fun k o h1 _ _=>(h.block k (Array.getElem?_eq_some_iff.1 h1).1).trans h1⟩
theorem Wr.drew {B b:Nat} {w:World}:Wr B b w w.drew:=⟨Below.drew (Below.refl _ _),fun _ _ h _ _=>h⟩
theorem Wr.set {B b:Nat} {w:World} (hB:B≤b) (o:Nat) (v:Value):Wr B b w (w.setCell ⟨b,o,.none⟩ v):=
 ⟨(Below.refl _ _).setCell (p:=⟨b,o,.none⟩) hB v,fun k x h1 h2 _=>(Below.heap_setCell w ⟨b,o,.none⟩ v k h2).trans h1⟩
theorem Wr.grown {B b n:Nat} {v:Value} {xs:List Value} {w w':World} (hown:w.ownsRowF B 5 1 v n xs) (hg:w.grownBy w' v.ownBlock) (hBw:B≤w.heap.size):Wr B b w w':=by
 refine⟨(Below.refl _ _).grown hg hBw (fun k hk=>(hown.lt k hk).1),fun k o h1 _ h3=>(hg.block k (Array.getElem?_eq_some_iff.1 h1).1 ?_).trans h1⟩;intro e
 rcases hown.2 with⟨rfl,_⟩|⟨g,cap,cur,fz,rfl,_,hh,_⟩
 ·cases e
 ·have:k=g:=by simpa [Value.ownBlock] using e
  subst this;rw[hh] at h1;exact h3 cur fz (Option.some.inj h1).symm
end Go.Proofs.YtmmpkfcdfcldlaaGreat
namespace Go.Proofs.YtmmpkfcdfcldlaaGreat
open Lib (hid)
def numsM (made:List Int):List Ino→Int→Bool
 | [],_=>true
 | x::xs,p=>if x.num≤p∨givenV made x.num=false then false else numsM made xs x.num
def shapesM (is:List Ino):List Ino→Bool
 | []=>true
 | x::xs=>if x.dir=true then(if x.data.size≠0∨entsV is x.ents=false then false else shapesM is xs) else if x.ents≠[]∨256<x.data.size then false else shapesM is xs
def finalR (s:St):List Ino→Bool→List Bool→Bool
 | [],_,_=>true
 | x::xs,first,f=>if(first=false∧x.dir=true∧(linkI s.inos x.num≠1∨f.headD false=false))∨(x.dir=false∧f.headD false=false∧openB s.opn x.num=false) then false else finalR s xs false f.tail
def finalM (s:St):List Ino→Bool→List Nat→List Bool→Bool
 | [],_,_,_=>true
 | x::xs,first,many,f=>
  if first=true then finalM s xs false many.tail f.tail
  else if x.dir=true∧(many.headD 0≠1∨f.headD false=false) then false
  else if x.dir=false∧f.headD false=false∧(0<many.headD 0∨openB s.opn x.num=false) then false
  else finalM s xs false many.tail f.tail
def numsP (made:List Int) (p:Option Int) (xs:List Ino):Bool:=
 match p,xs with
 | some q,xs=>numsM made xs q
 | none,[]=>true
 | none,x::xs=>numsM made xs x.num
theorem z7j (made:List Int) (p:Option Int) (x:Ino) (xs:List Ino):numsP made p (x::xs)=(!badNum made p x.num&&numsM made xs x.num):=by
 cases p with
 | none=>simp[numsP,badNum]
 | some q=>
  simp only[numsP,numsM,badNum]
  by_cases h1:x.num≤q<;>cases h2:givenV made x.num<;>simp[h1]
theorem z5t (s:St):∀(xs:List Ino) (p:Option Int) (f:List Bool),inosG s xs p f=(numsP s.made p xs&&(shapesM s.inos xs&&finalR s xs p.isNone f))
 | [],none,f=>rfl
 | [],some q,f=>rfl
 | x :: xs, p, f => by
  unfold inosG shapesM finalR;rw[z5t s xs (some x.num) f.tail,z7j];simp only[numsP,Option.isNone_some];unfold inoBad inoLost;generalize p.isNone=first;generalize badNum s.made p x.num=A;generalize numsM s.made xs x.num=N;generalize shapesM s.inos xs=S;generalize finalR s xs false f.tail=F;have hE:x.ents=[]→entsV s.inos x.ents=true:=fun h=>by rw[h];rfl
  generalize entsV s.inos x.ents=E at hE ⊢;generalize f.headD false=H;generalize openB s.opn x.num=O;cases hd:x.dir
  ·by_cases h1:x.ents=[]
   ·have:=hE h1;subst this
    by_cases h2:256<x.data.size<;>cases A<;>cases N<;>cases S<;>cases F<;>cases H<;>cases O<;>simp[h1,h2]
   ·have h3:x.ents.isEmpty=false:=by simpa using h1
    cases A<;>cases N<;>cases S<;>simp[h1,h3]
  ·by_cases h1:x.data.size=0
   ·by_cases h2:linkI s.inos x.num=1<;>cases A<;>cases N<;>cases S<;>cases F<;>cases H<;>cases E<;>cases first<;>simp[h1,h2]
   ·cases A<;>cases N<;>cases S<;>simp[h1]
theorem z3f (s:St):∀(xs:List Ino) (first:Bool) (f:List Bool),finalR s xs first f=true↔∀(i:Nat) (x:Ino),xs[i]? =some x→((first=false∨0<i)→x.dir=true→linkI s.inos x.num=1∧f.getD i false=true)∧(x.dir=false→f.getD i false=true∨openB s.opn x.num=true)
 | [],first,f=>by simp[finalR]
 | x :: xs, first, f => by
  unfold finalR;have hh:f.headD false=f.getD 0 false:=by cases f<;>rfl
  have ht:∀i,f.tail.getD i false=f.getD (i+1) false:=fun i=>by cases f<;>rfl
  constructor
  ·intro h
   split at h
   ·cases h
   ·rename_i hc;have ih:=(z3f s xs false f.tail).1 h;intro i y hy;cases i with
    | zero =>
     have e:x=y:=by simpa using hy
     subst e;rw[←hh];refine⟨fun h1 h2=>?_,fun h2=>?_⟩
     ·have hf:first=false:=by rcases h1 with h1|h1;exact h1;omega
      refine⟨?_,?_⟩
      ·apply Classical.byContradiction;intro hn;exact hc (.inl ⟨hf,h2,.inl hn⟩)
      ·cases hb:f.headD false
       ·exact absurd (.inl ⟨hf,h2,.inr hb⟩) hc
       ·rfl
     ·cases hb:f.headD false
      ·right
       cases ho:openB s.opn x.num
       ·exact absurd (.inr ⟨h2,hb,ho⟩) hc
       ·rfl
      ·exact .inl rfl
    | succ i=>
     have:=ih i y (by simpa using hy);rw[ht] at this;exact⟨fun _=>this.1 (.inl rfl),this.2⟩
  ·intro h;rw[if_neg,z3f s xs false f.tail]
   ·intro i y hy;have:=h (i+1) y (by simpa using hy);rw[ht];exact⟨fun _=>this.1 (.inr (by omega)),this.2⟩
   ·have h0:=h 0 x rfl;rw[←hh] at h0;rintro(⟨h1,h2,h3⟩|⟨h1,h2,h3⟩)
    ·have:=h0.1 (.inl h1) h2
     rcases h3 with h3|h3
     ·exact h3 this.1
     ·rw[this.2] at h3;cases h3
    ·rcases h0.2 h1 with h4|h4
     ·rw[h2] at h4;cases h4
     ·rw[h3] at h4;cases h4
theorem zay (s:St):∀(xs:List Ino) (first:Bool) (many:List Nat) (f:List Bool),finalM s xs first many f=true↔∀(i:Nat) (x:Ino),xs[i]? =some x→(first=false∨0<i)→(x.dir=true→many.getD i 0=1∧f.getD i false=true)∧(x.dir=false→f.getD i false=true∨(many.getD i 0=0∧openB s.opn x.num=true))
 | [],first,many,f=>by simp[finalM]
 | x :: xs, first, many, f => by
  unfold finalM;have hh:f.headD false=f.getD 0 false:=by cases f<;>rfl
  have ht:∀i,f.tail.getD i false=f.getD (i+1) false:=fun i=>by cases f<;>rfl
  have mh:many.headD 0=many.getD 0 0:=by cases many<;>rfl
  have mt:∀i,many.tail.getD i 0=many.getD (i+1) 0:=fun i=>by cases many<;>rfl
  rw[hh,mh];have ih:=zay s xs false many.tail f.tail
  have tail_:(∀(i:Nat) (x:Ino),xs[i]? =some x→(false=false∨0<i)→(x.dir=true→many.tail.getD i 0=1∧f.tail.getD i false=true)∧(x.dir=false→f.tail.getD i false=true∨(many.tail.getD i 0=0∧openB s.opn x.num=true)))↔
    (∀(i:Nat) (y:Ino),xs[i]? =some y→(y.dir=true→many.getD (i+1) 0=1∧f.getD (i+1) false=true)∧(y.dir=false→f.getD (i+1) false=true∨(many.getD (i+1) 0=0∧openB s.opn y.num=true))):=by
   constructor
   ·intro h i y hy;have:=h i y hy (.inl rfl)
    rwa [ht,mt] at this
   ·intro h i y hy _;have:=h i y hy
    rwa [ht,mt]
  rw[tail_] at ih
  have whole:(∀(i:Nat) (y:Ino),(x::xs)[i]? =some y→(first=false∨0<i)→(y.dir=true→many.getD i 0=1∧f.getD i false=true)∧(y.dir=false→f.getD i false=true∨(many.getD i 0=0∧openB s.opn y.num=true)))↔
    (first=false→(x.dir=true→many.getD 0 0=1∧f.getD 0 false=true)∧(x.dir=false→f.getD 0 false=true∨(many.getD 0 0=0∧openB s.opn x.num=true)))∧(∀(i:Nat) (y:Ino),xs[i]? =some y→(y.dir=true→many.getD (i+1) 0=1∧f.getD (i+1) false=true)∧(y.dir=false→f.getD (i+1) false=true∨(many.getD (i+1) 0=0∧openB s.opn y.num=true))):=by
   constructor
   ·intro h;exact⟨fun h1=>h 0 x rfl (.inl h1),fun i y hy=>h (i+1) y (by simpa using hy) (.inr (by omega))⟩
   ·rintro⟨h1,h2⟩ i y hy hq;cases i with
    | zero=>
     have e:x=y:=by simpa using hy
     subst e
     rcases hq with hq|hq
     ·exact h1 hq
     ·omega
    | succ i=>exact h2 i y (by simpa using hy)
  rw[whole,←ih];clear ih whole tail_ ht mt hh mh;generalize finalM s xs false many.tail f.tail=F;generalize many.getD 0 0=m;generalize f.getD 0 false=b;generalize openB s.opn x.num=o
  by_cases h1:m=1
  ·cases first<;>cases x.dir<;>cases b<;>cases o<;>simp[h1]
  ·by_cases h0:m=0
   ·cases first<;>cases x.dir<;>cases b<;>cases o<;>simp[h0]
   ·have:0<m:=by omega
    cases first<;>cases x.dir<;>cases b<;>cases o<;>simp[h1,h0,this]
theorem zct:∀(es:List En) (num:Int),0<linkE es num→∃e∈es,e.num=num
 | [],num,h=>absurd h (by simp[linkE])
 | e::es,num,h=>by
  unfold linkE at h
  by_cases hq:e.num=num
  ·exact⟨e,by simp,hq⟩
  ·rw[if_neg hq] at h;obtain⟨y,hy,hn⟩:=zct es num (by omega);exact⟨y,by simp[hy],hn⟩
theorem zcu:∀(is:List Ino) (num:Int),0<linkI is num→∃(k:Nat) (y:Ino) (e:En),is[k]? =some y∧y.dir=true∧e∈y.ents∧e.num=num
 | [],num,h=>absurd h (by simp[linkI])
 | x :: xs, num, h => by
  unfold linkI at h
  by_cases hd:x.dir=true∧0<linkE x.ents num
  ·obtain⟨e,he,hn⟩:=zct _ _ hd.2;exact⟨0,x,e,rfl,hd.1,he,hn⟩
  ·have:0<linkI xs num:=by
    split at h
    ·rename_i h1;have:¬0<linkE x.ents num:=fun h2=>hd ⟨h1,h2⟩
     omega
    ·omega
   obtain⟨k,y,e,h1,h2⟩:=zcu xs num this;exact⟨k+1,y,e,by simpa using h1,h2⟩
theorem z4g:∀(made:List Int) (xs:List Ino) (p:Int),numsM made xs p=true→(∀x∈xs,p<x.num)∧xs.Pairwise (fun a b=>a.num<b.num)∧∀x∈xs,givenV made x.num=true
 | made,[],p,h=>by simp
 | made, x :: xs, p, h => by
  unfold numsM at h
  split at h
  ·cases h
  ·rename_i hc;obtain⟨h1,h2,h3⟩:=z4g made xs x.num h;have hg:givenV made x.num=true:=by cases hg:givenV made x.num;exact absurd (.inr hg) hc;rfl
   have hp:p<x.num:=by
    rcases Int.lt_or_le p x.num with h|h
    ·exact h
    ·exact absurd (.inl h) hc
   refine⟨?_,List.pairwise_cons.2 ⟨h1,h2⟩,?_⟩
   ·intro y hy
    rcases List.mem_cons.1 hy with rfl|hy
    ·exact hp
    ·have:=h1 y hy;omega
   ·intro y hy
    rcases List.mem_cons.1 hy with rfl|hy
    ·exact hg
    ·exact h3 y hy
theorem z7k {made:List Int} {is:List Ino} (h:numsP made none is=true):is.Pairwise (fun a b=>a.num<b.num):=by
 cases is with
 | nil=>exact List.Pairwise.nil
 | cons x xs=>
  obtain⟨h1,h2,_⟩:=z4g made xs x.num h;exact List.pairwise_cons.2 ⟨h1,h2⟩
theorem zig {is:List Ino} (hp:is.Pairwise (fun a b=>a.num<b.num)) {i:Nat} {x:Ino} (hx:is[i]? =some x):atV is x.num=(i:Int):=by
 obtain⟨hi,hxe⟩:=List.getElem?_eq_some_iff.1 hx
 rcases z0o is x.num with⟨_,h2⟩|⟨k,y,h1,h2,h3,h4⟩
 ·exact absurd rfl (h2 x (List.mem_of_getElem? hx))
 ·rw[h1];obtain⟨hk,hye⟩:=List.getElem?_eq_some_iff.1 h2
  rcases Nat.lt_trichotomy k i with h|h|h
  ·have:=List.pairwise_iff_getElem.1 hp k i hk hi h;rw[hye,hxe] at this;omega
  ·rw[h]
  ·exact absurd rfl (h4 i x h hx)
theorem zfc {made:List Int} (hm:madeG made=true) {n:Int} (h:givenV made n=true):n≤257:=by
 have all:∀(l:List Int),madeG l=true→∀k,l.getD k 0≤32:=by
  intro l
  induction l with
  | nil=>intro _ k;simp
  | cons x l ih =>
   intro h k;unfold madeG at h
   split at h
   ·cases h
   ·rename_i hc;cases k with
    | zero=>simp;omega
    | succ k=>simpa using ih h k
 unfold givenV at h
 split at h
 ·cases h
 ·rw[Bool.and_eq_true,decide_eq_true_eq,decide_eq_true_eq] at h;have:=all made hm ((n-2)%8).toNat;omega
theorem z8u:∀(made:List Int) (xs:List Ino) (p:Int),madeG made=true→numsM made xs p=true→p≤257→(xs.length:Int)+p≤257
 | made,[],p,_,_,hp=>by simpa using hp
 | made,x::xs,p,hm,h,hp=>by
  obtain⟨h1,_,h3⟩:=z4g made (x::xs) p h;unfold numsM at h
  split at h
  ·cases h
  ·have:=z8u made xs x.num hm h (zfc hm (h3 x (by simp)));have:=h1 x (by simp);rw[List.length_cons];omega
def manyV (is:List Ino):List Nat:=is.map fun x=>linkI is x.num
theorem zgo (s:St) (h0:rootB s.inos=true) (hn:numsP s.made none s.inos=true):finalR s s.inos true (reachV s.inos)=finalM s s.inos true (manyV s.inos) (reachV s.inos):=by
 have hp:=z7k hn
 have hroot:∃x xs,s.inos=x::xs∧x.num=1∧x.dir=true:=by
  cases e:s.inos with
  | nil=>rw[e] at h0;cases h0
  | cons x xs=>
   rw[e] at h0;unfold rootB at h0;rw[Bool.and_eq_true,decide_eq_true_eq] at h0;exact⟨x,xs,rfl,h0⟩
 obtain⟨r,rs,he,hr1,hrd⟩:=hroot
 have hmany:∀(i:Nat) (x:Ino),s.inos[i]? =some x→(manyV s.inos).getD i 0=linkI s.inos x.num:=by
  intro i x hx;unfold manyV;rw[List.getD_eq_getElem?_getD,List.getElem?_map,hx]
  rfl
 apply Bool.eq_iff_iff.2;rw[z3f,zay]
 constructor
 ·intro h i x hx hq;have hi:=h i x hx;rw[hmany i x hx];refine⟨fun hd=>hi.1 hq hd,fun hd=>?_⟩;cases hb:(reachV s.inos).getD i false
  ·right
   rcases hi.2 hd with h1|h1
   ·rw[hb] at h1;cases h1
   ·refine⟨?_,h1⟩;apply Classical.byContradiction;intro hl;obtain⟨k,y,e,hy,hyd,hey,hen⟩:=zcu s.inos x.num (by omega)
    have hry:Reach s.inos k:=by
     rcases Nat.eq_zero_or_pos k with h2|h2
     ·subst h2;have:r=y:=by rw[he] at hy;simpa using hy
      subst this;refine .root 0 ?_;rw[←hr1];exact zig hp hy
     ·exact(z2h _ _).1 ((h k y hy).1 (.inr h2) hyd).2
    have hrx:Reach s.inos i:=.step k i y e hry hy hyd hey (by rw[hen];exact zig hp hx);rw[(z2h _ _).2 hrx] at hb;cases hb
  ·exact .inl rfl
 ·intro h i x hx;refine⟨fun hq hd=>?_,fun hd=>?_⟩
  ·have:=(h i x hx (by rcases hq with h1|h1;cases h1;exact .inr h1)).1 hd
   rwa [hmany i x hx] at this
  ·have hi:0<i:=by
    rcases Nat.eq_zero_or_pos i with h2|h2
    ·subst h2;have:r=x:=by rw[he] at hx;simpa using hx
     subst this;rw[hd] at hrd;cases hrd
    ·exact h2
   rcases (h i x hx (.inr hi)).2 hd with h1|h1
   ·exact .inl h1
   ·exact .inr h1.2
theorem ze0 (s:St):mayV s=((decide (1≤s.made.length)&&decide (s.made.length≤8)&&madeG s.made)&&(rootB s.inos&&numsP s.made none s.inos&&shapesM s.inos s.inos)&&opensV s&&finalM s s.inos true (manyV s.inos) (reachV s.inos)):=by
 unfold mayV;rw[z5t];simp only[Option.isNone_none];cases h0:rootB s.inos
 ·simp
 cases hn:numsP s.made none s.inos
 ·simp
 rw[zgo s h0 hn];cases hm:madeG s.made
 ·simp
 have hlen:s.inos.length≤257:=by
  cases e:s.inos with
  | nil=>simp
  | cons x xs=>
   rw[e] at h0 hn;unfold rootB at h0;rw[Bool.and_eq_true,decide_eq_true_eq] at h0;have:=z8u s.made xs x.num hm hn (by omega);rw[List.length_cons];omega
 generalize finalM s s.inos true (manyV s.inos) (reachV s.inos)=F;generalize shapesM s.inos s.inos=S;generalize opensV s=O;cases F<;>cases S<;>cases O<;>simp[hlen]
end Go.Proofs.YtmmpkfcdfcldlaaGreat
