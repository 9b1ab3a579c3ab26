/- Parts of the proof, side by side: FsMayDoc, FsDo. -/
import Derived.Test.YtkflaifopbodfaaGreatDoorFsMayReg
import Derived.Test.YtkflaifopbodfaaGreatDoorFsMake
import Derived.Test.YtkflaifopbodfaaGreatDoorM10
import Derived.Test.YtkflaifopbodfaaGreatDoorM06
import Derived.Test.YtkflaifopbodfaaGreatDoorM13
import Derived.Deep.RegionHeld3
set_option linter.unusedVariables false
set_option linter.unusedSimpArgs false
namespace Go.Proofs.YtkflaifopbodfaaGreatDoor
open Lib (hid)
open Go.RowKit
theorem zk8 (l:List Bool) (k:Nat):(l.drop k).headD false=l.getD k false:=by
 rw[List.getD_eq_getElem?_getD];cases h:l.drop k with
 | nil=>
  have:l.length≤k:=List.drop_eq_nil_iff.1 h;rw[List.getElem?_eq_none this]
  rfl
 | cons a t =>
  have:l[k]? =some a:=by
   have h2:=congrArg (·[0]?) h
   simpa using h2
  rw[this]
  rfl
theorem zk9 (l:List Bool) (k:Nat):(l.drop k).tail=l.drop (k+1):=by simp
set_option maxRecDepth 100000 in
set_option maxHeartbeats 16000000 in
theorem znt (v : Value) (s : St) (w : World) (h : StAt none w v s) :
  Calls Tryz.prog 25 #[v] w fun e w'=>e=.returned (.bool (mayV s))∧Below w.heap.size w w':=by
 obtain⟨⟨A,n,c,B,m,d,D,k,e,rfl,hI,hD,hM,h5,h6,h7⟩,hz⟩:=h;obtain⟨R,hR⟩:∃R,mayV s=R:=⟨_,rfl⟩;rw[hR];unfold mayV at hR;have hbig:=hz.big;have hn:=hI.1;have hkm:=hM.1;have hn2:n≤1099511627776:=by omega
 have hk2:k≤1099511627776:=by omega
 have hB2:bulkE s.inos≤1099511627776:=by omega
 rw[hn,hkm] at hR;obtain⟨W,hW,b0,b1,b2,hal,hlt0⟩:=z0u w A n c B m d D k e;have HS:=hid ((StAt.of_parts hI hD hM h5 h6 h7 hz).below hal);have HI:=hid (hI.below hal);have HM:=hid (hM.below hal);have HAL:=hid hal;have HR:=hid hR;have HZ:=hid hz;have HN:=hid hn;have HK:=hid hkm;have HB2:=hid hB2;clear hI hD hM hz hR hal hbig hn hkm hB2;obtain⟨B1,hB1⟩:∃B1,(decide (1≤k)&&decide (k≤8)&&rootB s.inos&&opensV s)=B1:=⟨_,rfl⟩
 have hR1:B1=false→R=false:=fun hb=>by
  have h:=HR.out;rw[hB1,hb] at h
  simpa using h.symm
 have HB1:=hid hB1;have HR1:=hid hR1;clear hB1 hR1
 go_enter Tryz.func25,Tryz.ntmps25
 go_upto_region 1 with fail
 clear hW
 go_cut [44] (fun c wx=>c=.bool (!B1)∧∃X:Ext W,wx=X.w)
 case first=>
  by_cases a1:k<1
  ·have hb:B1=false:=by rw[←HB1.out];simp;omega
   go_wp2_with fail;go_meet;exact⟨congrArg Value.bool (by rw[hb];rfl),⟨W,Below.refl _ _⟩,rfl⟩
  by_cases a2:8<k
  ·have hb:B1=false:=by rw[←HB1.out];simp;omega
   have qa:decide ((8:Int)<(k:Int))=true:=by rw[decide_eq_true_eq];omega
   have qb:decide ((k:Int)<1)=false:=by rw[decide_eq_false_iff_not];omega
   go_wp2_with fail;go_meet;exact⟨congrArg Value.bool (by rw[hb];rfl),⟨W,Below.refl _ _⟩,rfl⟩
  have qa:decide ((8:Int)<(k:Int))=false:=by rw[decide_eq_false_iff_not];omega
  have qb:decide ((k:Int)<1)=false:=by rw[decide_eq_false_iff_not];omega
  by_cases a3:n<1
  ·have hb:B1=false:=by
    rw[←HB1.out];have:s.inos=[]:=List.eq_nil_of_length_eq_zero (by have:=HN.out;omega);rw[this];simp[rootB]
   have qc:decide ((n:Int)<1)=true:=by rw[decide_eq_true_eq];omega
   go_wp2_with fail;go_meet;exact⟨congrArg Value.bool (by rw[hb];rfl),⟨W,Below.refl _ _⟩,rfl⟩
  have qc:decide ((n:Int)<1)=false:=by rw[decide_eq_false_iff_not];omega
  obtain⟨g,off,x,E,m2,d2,rfl,hg,hx,hd,hmem,c0,c1,_,_,_,_⟩:=HI.out.get 0 (by omega)
  have hroot:rootB s.inos=(decide (x.num=1)&&x.dir):=by
   have:s.inos=x::s.inos.drop 1:=by simpa using hd
   rw[this]
   rfl
  have n0:(0:Int)<(n:Int):=by omega
  have HRO:=hid hroot;rw[Nat.zero_mul,Nat.add_zero] at c0 c1;clear hx hd hmem hroot
  by_cases a4:x.num=1
  ·have qn:(x.num != 1)=false:=by rw[a4];rfl
   by_cases a5:x.dir=true
   ·have HA4:=hid a4;have HA5:=hid a5;rw[a5] at c1;clear a4 a5;go_wp2_with fail;refine(zk1 _ s _ HS.out).mono ?_;rintro e5 w5 ⟨rfl,hb5⟩;have HX5:=hid hb5;clear hb5;go_wp2_with fail;go_meet;exact⟨congrArg Value.bool (by rw[←HB1.out,HRO.out,HA4.out,HA5.out];simp;omega),⟨w5,HX5.out⟩,rfl⟩
   ·have a6:x.dir=false:=by simpa using a5
    have hb:B1=false:=by rw[←HB1.out,HRO.out,a6];simp
    rw[a6] at c1;go_wp2_with fail;go_meet;exact⟨congrArg Value.bool (by rw[hb];rfl),⟨W,Below.refl _ _⟩,rfl⟩
  ·have qn:(x.num != 1)=true:=by rw[bne_iff_ne];exact a4
   have hb:B1=false:=by rw[←HB1.out,HRO.out,decide_eq_false a4];simp
   go_wp2_with fail;go_meet;exact⟨congrArg Value.bool (by rw[hb];rfl),⟨W,Below.refl _ _⟩,rfl⟩
 case rest =>
  obtain⟨rfl,X,rfl⟩:=hcut;generalize hZe:X.w=Z;have hZ:=hZe▸X.bel;clear hZe X;cases B1
  ·have HRF:=hid (HR1.out rfl);have HZ2:=hid hZ;clear hZ;go_wp2_with fail;go_ret;exact⟨Cv.ret_bool HRF.out.symm,Cv.next HAL.out HZ2.out⟩
  have z0:=(hZ.cell (p:=⟨w.heap.size,0,.none⟩) hlt0).trans b0;have z1:=(hZ.cell (p:=⟨w.heap.size,1,.none⟩) hlt0).trans b1;have z2:=(hZ.cell (p:=⟨w.heap.size,2,.none⟩) hlt0).trans b2;have HIZ:=hid (HI.out.below hZ);have HMZ:=hid (HM.out.below hZ);have HSZ:=hid (HS.out.below hZ);have HZ2:=hid hZ;have hlz:w.heap.size<Z.heap.size:=Nat.lt_of_lt_of_le hlt0 hZ.size;have hB1:=HB1.out;rw[Bool.and_eq_true,Bool.and_eq_true,Bool.and_eq_true,decide_eq_true_eq,decide_eq_true_eq] at hB1;have hr:=HR.out;rw[decide_eq_true hB1.1.1.1,decide_eq_true hB1.1.1.2,hB1.1.2,hB1.2] at hr;have hr2:(madeG s.made&&decide (n≤257)&&inosG s s.inos none (reachV s.inos))=R:=by simpa using hr
  have HR2:=hid hr2;have hk1:=hB1.1.1.1;clear hZ hB1 hr hr2 HR1 HR b0 b1 b2;go_wp2_with fail
  go_loop [3] (fun i=>∃q:Nat,i=.int .i64 q∧q≤k∧madeG (s.made.drop q)=madeG s.made) (fun i=>k-(intOf i).toNat)
  case atStart=>exact⟨0,rfl,by omega,rfl⟩
  case round =>
   obtain⟨q,rfl,hq,hc⟩:=hrel
   by_cases hlt:q<k
   ·obtain⟨g,off,x,rfl,hg,hx,hd,hmem,c0⟩:=HMZ.out.get q hlt;rw[hd,madeG] at hc
    by_cases hbad:x<0∨32<x
    ·rw[if_pos hbad] at hc;have hrf:R=false:=by rw[←HR2.out,←hc];rfl
     have HRF:=hid hrf;clear hc hd hx hmem hrf
     by_cases h0:x<0
     ·clear hbad;go_wp2_with fail;go_ret;exact⟨Cv.ret_bool HRF.out.symm,Cv.next HAL.out HZ2.out⟩
     ·have q0:decide (x<0)=false:=by rw[decide_eq_false_iff_not];exact h0
      have q1:decide (32<x)=true:=by rw[decide_eq_true_eq];omega
      clear hbad;go_wp2_with fail;go_ret;exact⟨Cv.ret_bool HRF.out.symm,Cv.next HAL.out HZ2.out⟩
    ·rw[if_neg hbad] at hc;have q0:decide (x<0)=false:=by rw[decide_eq_false_iff_not];omega
     have q1:decide (32<x)=false:=by rw[decide_eq_false_iff_not];omega
     have HC:=hid hc;clear hc hd hx hmem hbad;go_wp2_with fail
     go_round
     case rel=>exact⟨q+1,by go_num,by omega,HC.out⟩
     case measure=>simp[intOf];omega
   ·have : s.made.drop q = [] := List.drop_eq_nil_of_le (by have := HMZ.out.1; omega);rw [this, madeG] at hc;have hr := HR2.out;rw [← hc, Bool.true_and] at hr
    by_cases h257:257<n
    ·rw[decide_eq_false (by omega),Bool.false_and] at hr;have HRF:=hid hr;have q2:decide ((257:Int)<(n:Int))=true:=by rw[decide_eq_true_eq];omega
     have q3:decide ((q:Int)<(k:Int))=false:=by rw[decide_eq_false_iff_not];omega
     clear hr hc this;go_wp2_with fail;go_ret;exact⟨Cv.ret_bool HRF.out,Cv.next HAL.out HZ2.out⟩
    ·rw [decide_eq_true (by omega), Bool.true_and] at hr;have HR3 := hid hr;have q2 : decide ((257 : Int) < (n : Int)) = false := by rw [decide_eq_false_iff_not]; omega
     have q3:decide ((q:Int)<(k:Int))=false:=by rw[decide_eq_false_iff_not];omega
     clear hr hc this;go_wp2_with fail;refine(zf8 _ s _ HSZ.out (by have:=HN.out;omega)).mono ?_;rintro e5 w5 ⟨G,rfl,hfl,hb5⟩;rw[HN.out] at hfl ⊢;have y0:=(hb5.cell (p:=⟨w.heap.size,0,.none⟩) hlz).trans z0;have y1:=(hb5.cell (p:=⟨w.heap.size,1,.none⟩) hlz).trans z1;have y2:=(hb5.cell (p:=⟨w.heap.size,2,.none⟩) hlz).trans z2;have HI5:=hid (HIZ.out.below hb5);have HS5:=hid (HSZ.out.below hb5);have HW5:=hid (Cv.next HAL.out (Cv.next HZ2.out hb5));have HFL:=hid hfl;have hl5:w.heap.size<w5.heap.size:=Nat.lt_of_lt_of_le hlz hb5.size;have hG5:G<w5.heap.size:=hfl.lt;clear hfl hb5 z0 z1 z2 q2 q3 hlt;go_wp2_with fail
     go_loopw [5,6,7] (fun i _ _ wr=>∃q:Nat,i=.int .i64 q∧q≤n∧Below w5.heap.size w5 wr∧inosG s (s.inos.drop q) (prevI s.inos q) ((reachV s.inos).drop q)=R) (fun i _ _ _=>n-(intOf i).toNat)
     case atStart=>exact⟨0,rfl,by omega,Below.refl _ _,by rw[List.drop_zero,List.drop_zero];exact HR3.out⟩
     case round =>
      obtain⟨q,rfl,hq,hbel,hc⟩:=hrel;have HB:=hid hbel;have HIr:=hid (HI5.out.below hbel);have r0:=(hbel.cell (p:=⟨w.heap.size,0,.none⟩) hl5).trans y0;have r1:=(hbel.cell (p:=⟨w.heap.size,1,.none⟩) hl5).trans y1;have r2:=(hbel.cell (p:=⟨w.heap.size,2,.none⟩) hl5).trans y2;clear hbel
      by_cases hlt:q<n
      ·obtain⟨g,off,x,E,m2,d2,rfl,hg,hx,hd,hmem,c0,c1,c2,hmd,hE,c3⟩:=HIr.out.get q hlt;obtain⟨xn,xd,xe,xdat⟩:=x;dsimp only at c0 c1 c2 c3 hE;have hle:m2≤1099511627776:=by have h1:=hE.1;have h2:=z1q hx;have:=HB2.out;dsimp only at h2;omega
       have htx:=HZ.out.text _ hmem;have hnx:=HZ.out.nums.1 _ hmem;dsimp only at htx hnx;have hes:xe.length=m2:=hE.1;rw[hd,inosG,zk8,zk9] at hc;obtain⟨BD,hBD⟩:∃BD,inoBad s (prevI s.inos q) ⟨xn,xd,xe,xdat⟩=BD:=⟨_,rfl⟩;obtain⟨PD,hPD⟩:∃PD,inoLost s (prevI s.inos q).isNone ⟨xn,xd,xe,xdat⟩ ((reachV s.inos).getD q false)=PD:=⟨_,rfl⟩;rw[hBD,hPD] at hc;have hfq:(reachV s.inos).getD q false=(reachV s.inos).getD q false:=rfl;have HBD:=hid hBD;have HPD:=hid hPD;have HC:=hid hc;have HY:=hid hx;have HE:=hid hE;have HTX:=hid htx.2;have HES:=hid hes;have hxs:=htx.1;have hn1:=hnx.1;have hn9:=hnx.2.1;have k0:(0:Int)≤(q:Int):=by omega
       have k1:(q:Int)<(n:Int):=by omega
       clear hc hd hmem hx hBD hPD hE htx hnx hfq hes;obtain⟨V2,hV2,v0,v1,v2,v3,hal4,hlt4⟩:=z2v wr xn xd E m2 d2 xdat;have hbv:=Cv.next HB.out hal4;have x0:=(hal4.cell (p:=⟨w.heap.size,0,.none⟩) (Nat.lt_of_lt_of_le hl5 HB.out.size)).trans r0;have x1:=(hal4.cell (p:=⟨w.heap.size,1,.none⟩) (Nat.lt_of_lt_of_le hl5 HB.out.size)).trans r1;have x2:=(hal4.cell (p:=⟨w.heap.size,2,.none⟩) (Nat.lt_of_lt_of_le hl5 HB.out.size)).trans r2;have HSV:=hid (HS5.out.below hbv);have HIV:=hid (HI5.out.below hbv);have HEV:=hid (HE.out.below hal4);have HBV:=hid hbv;have HFV:=hid (HFL.out.below hbv);clear hal4 hbv;go_upto_region 15 with fail
       have hX:=@Ext.cell V2;clear hV2 r0 r1 r2 c0 c1 c2 c3
       go_cut [136] (fun c wx=>c=.bool BD∧∃X:Ext V2,wx=X.w)
       case first=>
        have hK:∀a':Act,a'.tmps=a'.tmps→True:=fun _ _=>trivial
        refine wre ?_
        by_cases hq0:q=0
        ·refine zol s n c m d k e _ B D V2 w.heap.size wr.heap.size x0 x1 x2 HSV.out HIV.out xn xd xe xdat E m2 d2 v0 v1 v2 v3 HEV.out hmd hle HTX.out hn1 hn9 hxs q hlt hn2 BD HBD.out hq0 _ _ _ _ _ _ _ _ _ _ _ _ _ _ _ _ _ _ _ _ _ _ _ _ _ _ _ _ _ _ _ _ _ _ _ _ _ _ _ _ _ _ _ _ _ _ _ _ _ _ _ _ _ _ _ _ _ _ _ _ _ _ _ _ _ _ _ _ _ _ _ _ _ _ _ _ _ _ _ _ _ _ _ _ _ _ _ _ _ _ _ _ _ _ _ _ _ _ _ _ _ _ _ _ _ _ _ _ _ _ _ _ _ _ _ _ _ _ _ _ _ _ _ _ _ _ _ _ _ _ _ _ _ _ _ _ _ _ _ _ _ _ _ _ _ _ _ _ _ _ _ _ _ _ _ _ _ _ _ _ _ _ _ _ _ _ _ _ _ _ _ _ _ _ _ ?_;clear hq0;rintro v84 v85 v86 v87 v88 v89 v90 v91 v92 v93 v94 v95 v96 v97 v98 v99 v100 v101 v102 v103 v104 v105 v106 v107 v108 v109 v110 v111 v112 v113 v114 v115 v116 v117 v118 v119 v120 v121 v122 v123 v124 v125 v126 v127 v128 v129 v130 v131 v132 v133 v134 v135 v136 hv w7 ⟨X,rfl⟩;subst hv;go_wp2_with fail;go_meet;exact⟨rfl,X,rfl⟩
        have hql:q-1<s.inos.length:=by have:=HIV.out.1;omega
        by_cases hbad:xn≤(s.inos[q-1]).num∨givenV s.made xn=false
        ·refine znl s n c m d k e _ B D V2 w.heap.size wr.heap.size x0 x1 x2 HSV.out HIV.out xn xd xe xdat E m2 d2 v0 v1 v2 v3 HEV.out hmd hle HTX.out hn1 hn9 hxs q hlt hn2 BD HBD.out (by omega) _ (List.getElem?_eq_getElem hql) hbad _ _ _ _ _ _ _ _ _ _ _ _ _ _ _ _ _ _ _ _ _ _ _ _ _ _ _ _ _ _ _ _ _ _ _ _ _ _ _ _ _ _ _ _ _ _ _ _ _ _ _ _ _ _ _ _ _ _ _ _ _ _ _ _ _ _ _ _ _ _ _ _ _ _ _ _ _ _ _ _ _ _ _ _ _ _ _ _ _ _ _ _ _ _ _ _ _ _ _ _ _ _ _ _ _ _ _ _ _ _ _ _ _ _ _ _ _ _ _ _ _ _ _ _ _ _ _ _ _ _ _ _ _ _ _ _ _ _ _ _ _ _ _ _ _ _ _ _ _ _ _ _ _ _ _ _ _ _ _ _ _ _ _ _ _ _ _ _ _ _ _ _ _ _ _ ?_;rintro v84 v85 v86 v87 v88 v89 v90 v91 v92 v93 v94 v95 v96 v97 v98 v99 v100 v101 v102 v103 v104 v105 v106 v107 v108 v109 v110 v111 v112 v113 v114 v115 v116 v117 v118 v119 v120 v121 v122 v123 v124 v125 v126 v127 v128 v129 v130 v131 v132 v133 v134 v135 v136 hv w7 ⟨X,rfl⟩;subst hv;go_wp2_with fail;go_meet;exact⟨rfl,X,rfl⟩
        ·refine zom s n c m d k e _ B D V2 w.heap.size wr.heap.size x0 x1 x2 HSV.out HIV.out xn xd xe xdat E m2 d2 v0 v1 v2 v3 HEV.out hmd hle HTX.out hn1 hn9 hxs q hlt hn2 BD HBD.out (by omega) _ (List.getElem?_eq_getElem hql) (fun h=>hbad (.inl h)) (by cases hg:givenV s.made xn;exact absurd (.inr hg) hbad;rfl) _ _ _ _ _ _ _ _ _ _ _ _ _ _ _ _ _ _ _ _ _ _ _ _ _ _ _ _ _ _ _ _ _ _ _ _ _ _ _ _ _ _ _ _ _ _ _ _ _ _ _ _ _ _ _ _ _ _ _ _ _ _ _ _ _ _ _ _ _ _ _ _ _ _ _ _ _ _ _ _ _ _ _ _ _ _ _ _ _ _ _ _ _ _ _ _ _ _ _ _ _ _ _ _ _ _ _ _ _ _ _ _ _ _ _ _ _ _ _ _ _ _ _ _ _ _ _ _ _ _ _ _ _ _ _ _ _ _ _ _ _ _ _ _ _ _ _ _ _ _ _ _ _ _ _ _ _ _ _ _ _ _ _ _ _ _ _ _ _ _ _ _ _ _ _ ?_;rintro v84 v85 v86 v87 v88 v89 v90 v91 v92 v93 v94 v95 v96 v97 v98 v99 v100 v101 v102 v103 v104 v105 v106 v107 v108 v109 v110 v111 v112 v113 v114 v115 v116 v117 v118 v119 v120 v121 v122 v123 v124 v125 v126 v127 v128 v129 v130 v131 v132 v133 v134 v135 v136 hv w7 ⟨X,rfl⟩
         subst hv;go_wp2_with fail;go_meet;exact⟨rfl,X,rfl⟩
       case rest =>
        obtain⟨rfl,X,rfl⟩:=hcut;generalize hZe:X.w=Z5;have hZ5:=hZe▸X.bel;clear hZe X hX;have hb9:=Cv.next HBV.out hZ5;have HB9:=hid hb9;cases BD;rotate_left
        ·have hr:=HC.out;rw[if_pos rfl] at hr;have HR9:=hid hr;clear hr hZ5 hb9;go_wp2_with fail;go_ret;exact⟨Cv.ret_bool HR9.out,Cv.next HW5.out HB9.out⟩
        have hr:=HC.out;rw[if_neg (by simp)] at hr;have HR9:=hid hr;have t0:=(hZ5.cell (p:=⟨w.heap.size,0,.none⟩) (Nat.lt_trans (Nat.lt_of_lt_of_le hl5 HB.out.size) hlt4)).trans x0;have t1:=(hZ5.cell (p:=⟨w.heap.size,1,.none⟩) (Nat.lt_trans (Nat.lt_of_lt_of_le hl5 HB.out.size) hlt4)).trans x1;have t2:=(hZ5.cell (p:=⟨w.heap.size,2,.none⟩) (Nat.lt_trans (Nat.lt_of_lt_of_le hl5 HB.out.size) hlt4)).trans x2;have u0':=(hZ5.cell (p:=⟨wr.heap.size,0,.none⟩) hlt4).trans v0;have u1':=(hZ5.cell (p:=⟨wr.heap.size,1,.none⟩) hlt4).trans v1;have HS9:=hid (HS5.out.below hb9);have HF9:=hid (HFL.out.below hb9);have hw9:wr.heap.size<Z5.heap.size:=Nat.lt_of_lt_of_le hlt4 hZ5.size;have hs9:w.heap.size<Z5.heap.size:=Nat.lt_of_lt_of_le (Nat.lt_trans (Nat.lt_of_lt_of_le hl5 HB.out.size) hlt4) hZ5.size;clear hr hZ5 hb9 x0 x1 x2 v0 v1 v2 v3;go_wp2_with fail;refine(zjl _ s xn _ HS9.out).mono ?_
        rintro e6 w6 ⟨rfl,hb6⟩;obtain⟨KL,hKL⟩:∃KL,linkI s.inos xn=KL:=⟨_,rfl⟩;rw[hKL];have HKL:=hid hKL;have a0:=(hb6.cell (p:=⟨w.heap.size,0,.none⟩) hs9).trans t0;have a1:=(hb6.cell (p:=⟨w.heap.size,1,.none⟩) hs9).trans t1;have a2:=(hb6.cell (p:=⟨w.heap.size,2,.none⟩) hs9).trans t2;have i0':=(hb6.cell (p:=⟨wr.heap.size,0,.none⟩) hw9).trans u0';have i1':=(hb6.cell (p:=⟨wr.heap.size,1,.none⟩) hw9).trans u1';have HS6:=hid (HS9.out.below hb6);have HB6:=hid (Cv.next HB9.out hb6);obtain⟨fc,_⟩:=(HF9.out.below hb6).get q hlt;obtain⟨FQ,hFQ⟩:∃FQ,(reachV s.inos).getD q false=FQ:=⟨_,rfl⟩;rw[hFQ] at fc;have hpd:=HPD.out;rw[hFQ] at hpd;unfold inoLost at hpd;dsimp only at hpd;rw[hKL] at hpd
        have hpi:(prevI s.inos q).isNone=decide (q=0):=by
         unfold prevI
         by_cases hq0:q=0
         ·rw[if_pos hq0,decide_eq_true hq0];rfl
         ·have hl:q-1<s.inos.length:=by have:=HIr.out.1;omega
          rw[if_neg hq0,decide_eq_false hq0,List.getElem?_eq_getElem hl]
          rfl
        rw[hpi] at hpd;have HPD2:=hid hpd;clear hb6 t0 t1 t2 u0' u1' hKL hFQ hpd hpi;go_upto_region 18 with fail
        go_cut [176] (fun c wx=>c=.bool PD∧∃X:Ext w6,wx=X.w)
        case first=>
         cases xd;rotate_left
         ·by_cases hq0:q=0
          ·skip
           have HQ0:=hid hq0;have q1:decide ((0:Int)<(q:Int))=false:=by rw[decide_eq_false_iff_not];omega
           have q1':decide (0<q)=false:=by rw[decide_eq_false_iff_not];omega
           clear hq0;go_wp2_with fail;go_meet;exact⟨congrArg Value.bool (by rw[←HPD2.out];simp[HQ0.out]),⟨w6,Below.refl _ _⟩,rfl⟩
          have HQ0:=hid hq0;have q1:decide ((0:Int)<(q:Int))=true:=by rw[decide_eq_true_eq];omega
          have q1':decide (0<q)=true:=by rw[decide_eq_true_eq];omega
          clear hq0
          by_cases hk1:KL=1
          ·have q2:((KL:Int) != 1)=false:=by rw[hk1];rfl
           have HK1:=hid hk1;clear hk1;cases FQ
           ·skip
            go_wp2_with fail;go_meet;exact⟨congrArg Value.bool (by rw[←HPD2.out];simp[HQ0.out,HK1.out]),⟨w6,Below.refl _ _⟩,rfl⟩
           ·skip
            go_wp2_with fail;go_meet;exact⟨congrArg Value.bool (by rw[←HPD2.out];simp[HQ0.out,HK1.out]),⟨w6,Below.refl _ _⟩,rfl⟩
          ·have q2:((KL:Int) != 1)=true:=by rw[bne_iff_ne];omega
           go_wp2_with fail;go_meet;exact⟨congrArg Value.bool (by rw[←HPD2.out];simp[HQ0.out,hk1]),⟨w6,Below.refl _ _⟩,rfl⟩
         ·by_cases hq0:q=0
          ·skip
           have HQ0:=hid hq0;have q1:decide ((0:Int)<(q:Int))=false:=by rw[decide_eq_false_iff_not];omega
           have q1':decide (0<q)=false:=by rw[decide_eq_false_iff_not];omega
           clear hq0;cases FQ
           ·skip
            go_wp2_with fail;refine(zba _ s _ _ HS6.out).mono ?_;rintro e7 w7 ⟨rfl,hb7⟩;have HX7:=hid hb7;clear hb7;go_wp2_with fail;go_meet;exact⟨congrArg Value.bool (by rw[←HPD2.out];simp),⟨w7,HX7.out⟩,rfl⟩
           ·skip
            go_wp2_with fail;go_meet;exact⟨congrArg Value.bool (by rw[←HPD2.out];simp[HQ0.out]),⟨w6,Below.refl _ _⟩,rfl⟩
          have HQ0:=hid hq0;have q1:decide ((0:Int)<(q:Int))=true:=by rw[decide_eq_true_eq];omega
          have q1':decide (0<q)=true:=by rw[decide_eq_true_eq];omega
          clear hq0;cases FQ
          ·skip
           go_wp2_with fail;refine(zba _ s _ _ HS6.out).mono ?_;rintro e7 w7 ⟨rfl,hb7⟩;have HX7:=hid hb7;clear hb7;go_wp2_with fail;go_meet;exact⟨congrArg Value.bool (by rw[←HPD2.out];simp),⟨w7,HX7.out⟩,rfl⟩
          ·skip
           go_wp2_with fail;go_meet;exact⟨congrArg Value.bool (by rw[←HPD2.out];simp[HQ0.out]),⟨w6,Below.refl _ _⟩,rfl⟩
        case rest=>
         obtain⟨rfl,X,rfl⟩:=hcut;generalize hZe:X.w=Z6;have hZ6:=hZe▸X.bel;clear hZe X;have HB7:=hid (Cv.next HB6.out hZ6);clear hZ6 a0 a1 a2 i0' i1' fc;cases PD;rotate_left
         ·have hr:=HR9.out;rw[if_pos rfl] at hr;have HR8:=hid hr;clear hr;go_wp2_with fail;go_ret;exact⟨Cv.ret_bool HR8.out,Cv.next HW5.out HB7.out⟩
         ·have hr:=HR9.out;rw[if_neg (by simp)] at hr;have HR8:=hid hr;clear hr;go_wp2_with fail;go_roundw
          case rel=>exact⟨q+1,by go_num,by omega,HB7.out,by
           have e:prevI s.inos (q+1)=some xn:=by unfold prevI;rw[if_neg (by omega),Nat.add_sub_cancel,HY.out];rfl
           rw[e];exact HR8.out⟩
          case measure=>simp[intOf];omega
      ·have:s.inos.drop q=[]:=List.drop_eq_nil_of_le (by have:=HIr.out.1;omega);rw[this,inosG] at hc;have HC:=hid hc;clear hc this;go_wp2_with fail;go_ret;exact⟨Cv.ret_bool HC.out,Cv.next HW5.out HB.out⟩
theorem z7s {fn:Func} {p q u:Tmp} {ty tz:TypeId} (h:fn.results=#[.cell p ty,.cell q tz,.tmp u]) (tmps:Array Value) (P:Program) (w:World):
  (results fn tmps).run P w =
   ((asAddr (tmps.getD p undef)).run P w).andThen fun a w₁=>((loadVar ty a).run P w₁).andThen fun v w₂=>((asAddr (tmps.getD q undef)).run P w₂).andThen fun b w₃=>((loadVar tz b).run P w₃).andThen fun z w₄=>.ok (.tuple #[v,z,tmps.getD u undef]) w₄:=by
 simp only[results,h];simp[Sem.run_bind,Result.andThen]
theorem zka (u:World):u.drew.heap=u.heap:=rfl
theorem zbk (u:World) (p k:Nat) (hne:k≠p) (x y z:Value):(((u.setCell ⟨p,0,none⟩ x).setCell ⟨p,1,none⟩ y).setCell ⟨p,2,none⟩ z).drew.heap[k]? =u.heap[k]?:=by
 rw[zka];exact((Below.heap_setCell _ ⟨p,2,none⟩ z k hne).trans (Below.heap_setCell _ ⟨p,1,none⟩ y k hne)).trans (Below.heap_setCell _ ⟨p,0,none⟩ x k hne)
theorem StAt.keep3 {B:Nat} {w w':World} {v:Value} {s:St} (h:StAt (some B) w v s) (k1:KeepT 53 w w') (k2:KeepT 120 w w') (k3:KeepT 89 w w') (k4:KeepT 3 w w'):StAt (some B) w' v s:=by
 obtain⟨⟨A,n,c,E,m,d,D,k,e,h1,h2,h3,h4,h5,h6,h7⟩,hz⟩:=h;exact⟨⟨A,n,c,E,m,d,D,k,e,h1,h2.keep k1 k2,h3.keep k3,h4.keep k4,h5,h6,h7⟩,hz⟩
theorem EntsAt.lower {B B':Nat} {w:World} {A:Option Addr} {n:Nat} {es:List En} (h:EntsAt (some B) w A n es) (hb:B'≤B):EntsAt (some B') w A n es:=
 ⟨h.1, fun hn => by
  obtain⟨g,off,hA,hg,hm,hc⟩:=h.2 hn;exact⟨g,off,hA,hg,hm.mono hb,hc⟩⟩
theorem StAt.lower {B B':Nat} {w:World} {v:Value} {s:St} (h:StAt (some B) w v s) (hb:B'≤B):StAt (some B') w v s:=by
 obtain⟨⟨A,n,c,E,m,d,D,k,e,h1,h2,h3,h4,h5,h6,h7⟩,hz⟩:=h;refine⟨⟨A,n,c,E,m,d,D,k,e,h1,⟨h2.1,fun hn=>?_⟩,⟨h3.1,fun hn=>?_⟩,⟨h4.1,fun hn=>?_⟩,h5,h6,h7⟩,hz⟩
 ·obtain⟨g,off,hA,hg,hm,hc⟩:=h2.2 hn;refine⟨g,off,hA,hg,hm.mono hb,fun j x hx=>?_⟩;obtain⟨a1,a2,⟨B2,m2,c2,a3,a4,a5⟩,a6⟩:=hc j x hx;exact⟨a1,a2,⟨B2,m2,c2,a3,a4,a5.lower hb⟩,a6⟩
 ·obtain⟨g,off,hA,hg,hm,hc⟩:=h3.2 hn;exact⟨g,off,hA,hg,hm.mono hb,hc⟩
 ·obtain⟨g,off,hA,hg,hm,hc⟩:=h4.2 hn;exact⟨g,off,hA,hg,hm.mono hb,hc⟩
theorem ze0 {s:St} (h:mayV s=true):Whole s.inos:=by
 have hm:=z4f h;refine⟨?_,fun x hx=>(hm.linked x hx).2⟩;rw[zfb,Bool.and_eq_true,Bool.and_eq_true,Bool.and_eq_true] at h;obtain⟨⟨⟨h1,h2⟩,_⟩,_⟩:=h;have h3:mMadeV s=true:=h1;have h4:mInosV s=true:=h2;obtain⟨f1,f2,f3,x0,f4,f5⟩:=z6a h3 h4;rw[z0e f1 f4 f5];omega
def MakeSized (s:St) (c:Ca):Prop:=
 Sized { s with made:=s.made.set c.core.toNat (s.made.getD c.core.toNat 0+1) }∧
 Sized { s with made:=s.made.set c.core.toNat (s.made.getD c.core.toNat 0+1),inos:=setEnts s.inos (parentV s.inos c.path).1 fun es=>putE es (parentV s.inos c.path).2.1 (2+c.core+8*s.made.getD c.core.toNat 0) }∧
 Sized (make1V s c).1∧(parentV s.inos c.path).2.1.size≤140737488355328
set_option maxRecDepth 100000 in
set_option maxHeartbeats 16000000 in
theorem znu (v:Value) (s:St) (c:Ca) (want:Int) (w:World) (h:StAt none w v s) (hm:mayV s=true) (hc0:0≤c.core) (hc1:c.core<(s.made.length:Int)) (hk:c.kind=0) (hpz:c.path.size≤140737488355328) (hs:MakeSized s c) (hcode:(make1V s c).2.code=0):
  Calls Tryz.prog 17 #[v,caV c,.int .i64 want] w fun e w'=>∃v',e=.returned (.tuple #[v',resV (make1V s c).2,.bool true])∧StAt (some w.heap.size) w' v' (make1V s c).1∧Below w.heap.size w w':=by
 obtain⟨kind,core,fd,off,num,path,path2,data⟩:=c;have hk2:kind=0:=hk;subst hk2;clear hk;have hc0':0≤core:=hc0;have hc1':core<(s.made.length:Int):=hc1;clear hc0 hc1;obtain⟨⟨A,n,cp,Bz,m,d,D,k,e,rfl,hI,hD,hM,h5,h6,h7⟩,hz⟩:=h;obtain⟨W,hW,b0,b1,b2,hal,hlt0⟩:=z0u w A n cp Bz m d D k e;obtain⟨W2,hW2,hbc,hal2,hsz2⟩:=z8h W ⟨0,core,fd,off,num,path,path2,data⟩;obtain⟨W3,hW3⟩:∃W3,W2.alloc (.cells #[.slice none 0 0,.slice none 0 0,.slice none 0 0] 27)=W3:=⟨_,rfl⟩;have hal3:Below W2.heap.size W2 W3:=by rw[←hW3];exact(Below.refl _ _).alloc (Nat.le_refl _) _
 have hsz3:W3.heap.size=W2.heap.size+1:=by rw[←hW3];simp
 have ho3:OutAt W3 W2.heap.size (.slice none 0 0) (.slice none 0 0) (.slice none 0 0):=by rw[←hW3];exact heap_alloc_new W2 _
 obtain⟨W4,hW4⟩:∃W4,W3.alloc (.cells #[.int .i64 0,.int .i64 0,.int .i64 0,.bool false,.string ⟨#[]⟩,.slice none 0 0] 35)=W4:=⟨_,rfl⟩;have hal4:Below W3.heap.size W3 W4:=by rw[←hW4];exact(Below.refl _ _).alloc (Nat.le_refl _) _
 have hr4:ResAt W4 W3.heap.size (.int .i64 0) (.int .i64 0) (.int .i64 0) (.bool false) (.string ⟨#[]⟩) (.slice none 0 0):=by rw[←hW4];exact heap_alloc_new W3 _
 have hst0:StAt none W (.agg #[.slice A n cp,.slice Bz m d,.slice D k e]) s:=⟨⟨A,n,cp,Bz,m,d,D,k,e,rfl,hI.below hal,hD.below hal,hM.below hal,h5,h6,h7⟩,hz⟩;have hb24:Below W2.heap.size W2 W4:=Cv.next hal3 hal4;have hb14:Below W.heap.size W W4:=Cv.next hal2 hb24;have hb4:Below w.heap.size w W4:=Cv.next hal hb14;have hst:=hst0.below hb14;have x0:=(hb14.cell (p:=⟨w.heap.size,0,.none⟩) hlt0).trans b0;have x1:=(hb14.cell (p:=⟨w.heap.size,1,.none⟩) hlt0).trans b1;have x2:=(hb14.cell (p:=⟨w.heap.size,2,.none⟩) hlt0).trans b2;have hbc4:=(hb24.block W.heap.size (by omega)).trans hbc;have k0:W4.cell? ⟨W.heap.size,0,none⟩=some (.int .i64 0):=by rw[cell_of_row W4 W.heap.size _ _ _ (0,0) hbc4];rfl
 have k1:W4.cell? ⟨W.heap.size,1,none⟩=some (.int .i64 core):=by rw[cell_of_row W4 W.heap.size _ _ _ (0,0) hbc4];rfl
 have hkl:s.made.length=k:=hM.1;obtain⟨RV,hRV⟩:∃RV,make1V s ⟨0,core,fd,off,num,path,path2,data⟩=RV:=⟨_,rfl⟩;rw[hRV] at hcode ⊢;have HRV:=hid hRV;clear hRV;unfold caV;have HST:=hid hst;have HM:=hid hm;have HBC:=hid hbc4;have HB4:=hid hb4;have HO3:=hid ((hal4.block W2.heap.size (by omega)).trans ho3);have HR4:=hid hr4;have hs1:w.heap.size<W.heap.size:=hlt0;have hs4:W4.heap.size=W3.heap.size+1:=by rw[←hW4];simp
 have g1:decide (core<0)=false:=by rw[decide_eq_false_iff_not];omega
 have g2:decide ((k:Int)≤core)=false:=by rw[decide_eq_false_iff_not];omega
 clear hI hD hM hz hst0 hst hbc hbc4 hb4 hb14 hb24 ho3 hr4 hal hal2 hal3 hal4 b0 b1 b2 h5 h6 h7 hm hlt0
 go_enter Tryz.func17,Tryz.ntmps17
 go_wp2_with fail;clear hW hW2 hW3 hW4;refine(znt _ s W4 HST.out).mono ?_;rintro e5 w5 ⟨rfl,hb5⟩;rw[HM.out];have z0:=(hb5.cell (p:=⟨w.heap.size,0,.none⟩) (by show w.heap.size<_;omega)).trans x0;have z1:=(hb5.cell (p:=⟨w.heap.size,1,.none⟩) (by show w.heap.size<_;omega)).trans x1;have z2:=(hb5.cell (p:=⟨w.heap.size,2,.none⟩) (by show w.heap.size<_;omega)).trans x2;have y0:=(hb5.cell (p:=⟨W.heap.size,0,.none⟩) (by show W.heap.size<_;omega)).trans k0;have y1:=(hb5.cell (p:=⟨W.heap.size,1,.none⟩) (by show W.heap.size<_;omega)).trans k1;have HST5:=hid (HST.out.below hb5);have HB5:=hid (Cv.next HB4.out hb5);have HBC5:=hid ((hb5.block W.heap.size (by omega)).trans HBC.out);have HO5:=hid ((hb5.block W2.heap.size (by omega)).trans HO3.out);have HR5:Hid (ResAt w5 W3.heap.size _ _ _ _ _ _):=hid ((hb5.block W3.heap.size (by omega)).trans HR4.out)
 have hs5:W4.heap.size≤w5.heap.size:=hb5.size;clear hb5 x0 x1 x2 k0 k1;go_wp2_with fail;refine(zm1 _ s w5 HST5.out).mono ?_;rintro e6 w6 ⟨v6,rfl,hst6,hb6⟩;have y0:=(hb6.cell (p:=⟨W.heap.size,0,.none⟩) (by show W.heap.size<_;omega)).trans y0;have HBC6:=hid ((hb6.block W.heap.size (by omega)).trans HBC5.out);have HO6:=hid ((hb6.block W2.heap.size (by omega)).trans HO5.out);have HR6:Hid (ResAt w6 W3.heap.size _ _ _ _ _ _):=hid ((hb6.block W3.heap.size (by omega)).trans HR5.out);have HST6:=hid hst6;have HB6:=hid (Cv.next HB5.out hb6);have hs6:w5.heap.size≤w6.heap.size:=hb6.size;obtain⟨A6,n6,c6,E6,m6,d6,D6,k6,e6,rfl,hI6,hD6,hM6,p5,p6,p7⟩:=hst6.at_;obtain⟨U1,hU1⟩:∃U1,w6.alloc (.cells #[.slice A6 n6 c6,.slice E6 m6 d6,.slice D6 k6 e6] 27)=U1:=⟨_,rfl⟩;obtain⟨U2,hU2⟩:∃U2,U1.alloc (.cells #[.int .i64 0,.int .i64 0,.int .i64 0,.bool false,.string ⟨#[]⟩,.slice none 0 0] 35)=U2:=⟨_,rfl⟩
 have hau1:Below w6.heap.size w6 U1:=by rw[←hU1];exact(Below.refl _ _).alloc (Nat.le_refl _) _
 have hau2:Below U1.heap.size U1 U2:=by rw[←hU2];exact(Below.refl _ _).alloc (Nat.le_refl _) _
 have hsu1:U1.heap.size=w6.heap.size+1:=by rw[←hU1];simp
 have hsu2:U2.heap.size=U1.heap.size+1:=by rw[←hU2];simp
 have hau:=Cv.next hau1 hau2;have hru:ResAt U2 (w6.heap.size+1) (.int .i64 0) (.int .i64 0) (.int .i64 0) (.bool false) (.string ⟨#[]⟩) (.slice none 0 0):=by rw[←hsu1,←hU2];exact heap_alloc_new U1 _
 have hpu:U1.heap[w6.heap.size]? =some (.cells #[.slice A6 n6 c6,.slice E6 m6 d6,.slice D6 k6 e6] 27 (0,0)):=by rw[←hU1];exact heap_alloc_new w6 _
 have hpu2:=(hau2.block w6.heap.size (by omega)).trans hpu;have hown:Own w5.heap.size U2 w6.heap.size s:=⟨⟨A6,n6,c6,E6,m6,d6,D6,k6,e6,hs6,hpu2,hI6.below hau,hD6.below hau,hM6.below hau,p5,p6,p7⟩,hst6.sized⟩;obtain⟨g0,g1',g2',g3,g4,g5,gf⟩:=hru.get;obtain⟨U3,hU3,hr3,k3,b3,a3,s3⟩:=hru.six (.int .i64 0) (.int .i64 0) (.int .i64 0) (.bool false) (.string ⟨#[]⟩) (.slice none 0 0);have HOW:=hid (hown.keep k3);have y0:=(hau.cell (p:=⟨W.heap.size,0,.none⟩) (by show W.heap.size<_;omega)).trans y0;have hbcu:=(hau.block W.heap.size (by omega)).trans HBC6.out;have hbc3:=(a3 W.heap.size (by omega)).trans hbcu;have HRU:=hid hr3;have HBCu:=hid hbc3;have y0':U3.cell? ⟨W.heap.size,0,none⟩=some (.int .i64 0):=by rw[cell_of_row U3 W.heap.size _ _ _ (0,0) hbc3];rfl
 have yy1:U3.cell? ⟨W.heap.size,1,none⟩=some (.int .i64 core):=by rw[cell_of_row U3 W.heap.size _ _ _ (0,0) hbc3];rfl
 have yy2:U3.cell? ⟨W.heap.size,2,none⟩=some (.int .i64 fd):=by rw[cell_of_row U3 W.heap.size _ _ _ (0,0) hbc3];rfl
 have yy3:U3.cell? ⟨W.heap.size,3,none⟩=some (.int .i64 off):=by rw[cell_of_row U3 W.heap.size _ _ _ (0,0) hbc3];rfl
 have yy4:U3.cell? ⟨W.heap.size,4,none⟩=some (.int .i64 num):=by rw[cell_of_row U3 W.heap.size _ _ _ (0,0) hbc3];rfl
 have yy5:U3.cell? ⟨W.heap.size,5,none⟩=some (.string path):=by rw[cell_of_row U3 W.heap.size _ _ _ (0,0) hbc3];rfl
 have yy6:U3.cell? ⟨W.heap.size,6,none⟩=some (.string path2):=by rw[cell_of_row U3 W.heap.size _ _ _ (0,0) hbc3];rfl
 have yy7:U3.cell? ⟨W.heap.size,7,none⟩=some (.string data):=by rw[cell_of_row U3 W.heap.size _ _ _ (0,0) hbc3];rfl
 have HOu:Hid (OutAt U3 W2.heap.size _ _ _):=hid ((a3 W2.heap.size (by omega)).trans ((hau.block W2.heap.size (by omega)).trans HO6.out));have HRu:Hid (ResAt U3 W3.heap.size _ _ _ _ _ _):=hid ((a3 W3.heap.size (by omega)).trans ((hau.block W3.heap.size (by omega)).trans HR6.out));have HBu:=hid (b3 w.heap.size w (by omega) (Cv.next HB6.out hau));have hBU:w5.heap.size≤U3.heap.size:=by omega
 clear hst6 hb6 z0 z1 z2 y1 hI6 hD6 hM6 p5 p6 p7 hau1 hau2 hau hru hpu hpu2 hown hr3 k3 b3 a3 hbcu hbc3;go_wp2_with fail;have hok:=z4f HM.out;refine(zjf w5.heap.size w6.heap.size s ⟨0,core,fd,off,num,path,path2,data⟩ U3 HOW.out hBU (ze0 HM.out) hc0' hc1' hok.made.2.1 hpz hok.made.2.2 hs.2.2.2 hs.1 hs.2.1 hs.2.2.1).mono ?_;rintro e7 w7 ⟨rfl,hown7,hb7,ha7⟩;rw[HRV.out] at hown7 ⊢;have hrr:ResAt w7 (w6.heap.size+1) _ _ _ _ _ _:=(ha7.same (w6.heap.size+1) _ _ HRU.out (by decide) (by decide) (by omega)).trans HRU.out;clear hU1 hU2 hU3 y0 y0' yy1 yy2 yy3 yy4 yy5 yy6 yy7 g0 g1' g2' g3 g4 g5 gf;obtain⟨g0,g1',g2',g3,g4,g5,gf⟩:=hrr.get;obtain⟨U4,hU4,hr4,k4,b4,a4,s4⟩:=hrr.six (.int .i64 0) (.int .i64 RV.2.fd) (.int .i64 RV.2.num) (.bool RV.2.dir) (.string RV.2.data) (.slice none 0 0);have hown8:=hown7.keep k4;have HO8:Hid (OutAt U4 W2.heap.size _ _ _):=hid ((a4 W2.heap.size (by omega)).trans ((hb7.block W2.heap.size (by omega)).trans HOu.out))
 have HR8:Hid (ResAt U4 W3.heap.size _ _ _ _ _ _):=hid ((a4 W3.heap.size (by omega)).trans ((hb7.block W3.heap.size (by omega)).trans HRu.out));have HB8:=hid (b4 w.heap.size w (by omega) (HBu.out.trans (hb7.mono (by have:=HB5.out.size;omega))));have HRR8:=hid hr4;obtain⟨A8,n8,c8,E8,m8,d8,D8,k8,e8,hB8,hp8,q0,q1,q2,_,hst8,_,_,_⟩:=hown8.val
 have hSS:∀u:World,u.heap[w6.heap.size]? =U4.heap[w6.heap.size]?→u.heap[w6.heap.size+1]? =U4.heap[w6.heap.size+1]?→u.cell? ⟨w6.heap.size,0,none⟩=some (.slice A8 n8 c8)∧u.cell? ⟨w6.heap.size,1,none⟩=some (.slice E8 m8 d8)∧u.cell? ⟨w6.heap.size,2,none⟩=some (.slice D8 k8 e8)∧
   u.cell? ⟨w6.heap.size+1,0,none⟩=some (.int .i64 0)∧u.cell? ⟨w6.heap.size+1,1,none⟩=some (.int .i64 RV.2.fd)∧u.cell? ⟨w6.heap.size+1,2,none⟩=some (.int .i64 RV.2.num)∧u.cell? ⟨w6.heap.size+1,3,none⟩=some (.bool RV.2.dir)∧u.cell? ⟨w6.heap.size+1,4,none⟩=some (.string RV.2.data)∧u.cell? ⟨w6.heap.size+1,5,none⟩=some (.slice none 0 0):=by
  intro u h1 h2;obtain⟨j0,j1,j2,j3,j4,j5,jf⟩:=hr4.get
  exact⟨(World.cell?_of_block (a:=⟨w6.heap.size,0,none⟩) h1).trans q0,(World.cell?_of_block (a:=⟨w6.heap.size,1,none⟩) h1).trans q1,(World.cell?_of_block (a:=⟨w6.heap.size,2,none⟩) h1).trans q2,
   (World.cell?_of_block (a:=⟨w6.heap.size+1,0,none⟩) h2).trans j0,(World.cell?_of_block (a:=⟨w6.heap.size+1,1,none⟩) h2).trans j1,(World.cell?_of_block (a:=⟨w6.heap.size+1,2,none⟩) h2).trans j2,(World.cell?_of_block (a:=⟨w6.heap.size+1,3,none⟩) h2).trans j3,(World.cell?_of_block (a:=⟨w6.heap.size+1,4,none⟩) h2).trans j4,(World.cell?_of_block (a:=⟨w6.heap.size+1,5,none⟩) h2).trans j5⟩
 have hk5:=hSS (((U4.setCell ⟨W.heap.size+1,0,none⟩ (.slice A8 n8 c8)).setCell ⟨W.heap.size+1,1,none⟩ (.slice E8 m8 d8)).setCell ⟨W.heap.size+1,2,none⟩ (.slice D8 k8 e8)).drew (zbk _ _ _ (by omega) _ _ _) (zbk _ _ _ (by omega) _ _ _);have HK5:=hid hk5;have HST8:=hid hst8;unfold resV;obtain⟨j0,j1,j2,j3,j4,j5,jf⟩:=hr4.get;clear hown7 hown8 hb7 ha7 hrr hr4 k4 b4 a4 hst8 hSS hk5;go_wp2_with fail;have hO8:=HO8.out;have hR8:=HR8.out;rw[hsz2] at hO8;rw[show W3.heap.size=W.heap.size+1+1 by omega] at hR8;have uf:∀j,U4.frozen? ⟨W.heap.size+1,j,none⟩=false:=hO8.get.2.2.2;have vf:∀j,U4.frozen? ⟨W.heap.size+1+1,j,none⟩=false:=hR8.get.2.2.2.2.2.2;have n1:w6.heap.size≠W.heap.size+1:=by omega
 have n2:w6.heap.size≠W.heap.size+1+1:=by omega
 have n3:w6.heap.size+1≠W.heap.size+1:=by omega
 have n4:w6.heap.size+1≠W.heap.size+1+1:=by omega
 have n1':=Ne.symm n1;have n2':=Ne.symm n2;have n3':=Ne.symm n3;have n4':=Ne.symm n4;have n5:W.heap.size≠w6.heap.size:=by omega
 have n6:w6.heap.size≠W.heap.size:=by omega
 obtain⟨t0,t1,t2,_⟩:=hO8.get;obtain⟨v0,v1,v2,v3,v4,v5,_⟩:=hR8.get;have uf0:=uf 0;have uf1:=uf 1;have uf2:=uf 2
 go_region_held3 (fun w'=>w'.cell? ⟨w6.heap.size,0,none⟩=some (.slice A8 n8 c8)∧w'.cell? ⟨w6.heap.size,1,none⟩=some (.slice E8 m8 d8)∧w'.cell? ⟨w6.heap.size,2,none⟩=some (.slice D8 k8 e8)∧
   w'.cell? ⟨w6.heap.size+1,0,none⟩=some (.int .i64 0)∧w'.cell? ⟨w6.heap.size+1,1,none⟩=some (.int .i64 RV.2.fd)∧w'.cell? ⟨w6.heap.size+1,2,none⟩=some (.int .i64 RV.2.num)∧w'.cell? ⟨w6.heap.size+1,3,none⟩=some (.bool RV.2.dir)∧w'.cell? ⟨w6.heap.size+1,4,none⟩=some (.string RV.2.data)∧w'.cell? ⟨w6.heap.size+1,5,none⟩=some (.slice none 0 0))
  (first
   | go_keep
   | exact HK5.out) (fail)
 obtain⟨U5,hU5,ho5,k5,b5⟩:=hO8.three (.slice A8 n8 c8) (.slice E8 m8 d8) (.slice D8 k8 e8);have hr5:ResAt U5 (W.heap.size+1+1) _ _ _ _ _ _:=((k5 _ (by decide)).same (W.heap.size+1+1) _ hR8).trans hR8;obtain⟨U6,hU6,hr6,k6,b6,a6,s6⟩:=hr5.six (.int .i64 0) (.int .i64 RV.2.fd) (.int .i64 RV.2.num) (.bool RV.2.dir) (.string RV.2.data) (.slice none 0 0);have ho6:OutAt U6 (W.heap.size+1) _ _ _:=(a6 (W.heap.size+1) (by omega)).trans ho5;have hst6:=(HST8.out.keep3 (k5 _ (by decide)) (k5 _ (by decide)) (k5 _ (by decide)) (k5 _ (by decide))).keep3 (k6 _ (by decide)) (k6 _ (by decide)) (k6 _ (by decide)) (k6 _ (by decide));have hbf:=b6 w.heap.size w (by omega) (b5 w.heap.size w (by omega) HB8.out);rw[hU5,hU6];have HO6f:=hid ho6;have HR6f:=hid hr6;have HSTf:=hid ((hst6.lower (by have:=HB5.out.size;omega)).below (Below.drew (Below.refl _ _)));have HBF:=hid (Below.drew hbf)
 clear hU5 hU6 ho5 k5 b5 hr5 hr6 k6 b6 a6 s6 ho6 hst6 hbf t0 t1 t2 v0 v1 v2 v3 v4 v5 uf0 uf1 uf2 uf vf j0 j1 j2 j3 j4 j5 jf q0 q1 q2;go_wp2_with fail
 (try simp only[Exit.inBlock,Exit.then])
 refine bodyPost_ret (v:=.tuple #[.agg #[.slice A8 n8 c8,.slice E8 m8 d8,.slice D8 k8 e8],.agg #[.int .i64 0,.int .i64 RV.2.fd,.int .i64 RV.2.num,.bool RV.2.dir,.string RV.2.data,.slice none 0 0],.bool true]) ?_ rfl ?_
 ·rw[z7s rfl];have hl1:=run_loadVar_row (P:=Tryz.prog) U6.drew (W.heap.size+1) _ 27 _ (0,0) _ HO6f.out Tryz.underlying27 rfl (by kernel_rfl);have hl2:=run_loadVar_row (P:=Tryz.prog) U6.drew (W.heap.size+1+1) _ 35 _ (0,0) _ HR6f.out Tryz.underlying35 rfl (by kernel_rfl);simp[asAddr,hl1,hl2,Result.andThen]
 ·exact⟨_,by unfold resV;rw[hcode],HSTf.out,HBF.out⟩
end Go.Proofs.YtkflaifopbodfaaGreatDoor
