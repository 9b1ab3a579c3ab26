/- May of the document: its greatest region, case by case. -/
import Derived.Test.YtkflaifopbodfaaGreatDoorM05
import Derived.Test.YtkflaifopbodfaaGreatDoorM10
import Derived.Test.YtkflaifopbodfaaGreatDoorM02
set_option linter.unusedVariables false
set_option linter.unusedSimpArgs false
namespace Go.Proofs.YtkflaifopbodfaaGreatDoor
open Lib (hid)
open Go.RowKit
def findReg (n:Nat):Code→Option (Array Oper)
 | .region id ops _=>if id=n then some ops else none
 | .loop c=>findReg n c
 | .seq a b=>match findReg n a with
  | some x=>some x
  | none=>findReg n b
 | .block _ c=>findReg n c
 | .scope c=>findReg n c
 | .cond _ a b=>match findReg n a with
  | some x=>some x
  | none=>findReg n b
 | _=>none
noncomputable def ops15:List Oper:=((Tryz.f25.body.bind (findReg 15)).getD #[]).toList
def prevI (is:List Ino) (k:Nat):Option Int:=if k=0 then none else(is[k-1]?).map (·.num)
set_option maxRecDepth 1000000 in
set_option maxHeartbeats 16000000 in
theorem zol (s:St) (n c m d k e:Nat) (A B D:Option Addr) (V2:World) (b0 b1:Nat) (x0:V2.cell? ⟨b0,0,.none⟩=some (.slice A n c)) (x1:V2.cell? ⟨b0,1,.none⟩=some (.slice B m d)) (x2:V2.cell? ⟨b0,2,.none⟩=some (.slice D k e))
  (hS:StAt none V2 (.agg #[.slice A n c,.slice B m d,.slice D k e]) s) (hI:InosAt none V2 A n s.inos) (xn:Int) (xd:Bool) (xe:List En) (xdat:ByteArray) (E:Option Addr) (m2 d2:Nat)
  (w0:V2.cell? ⟨b1,0,.none⟩=some (.int .i64 xn)) (w1:V2.cell? ⟨b1,1,.none⟩=some (.bool xd)) (w2:V2.cell? ⟨b1,2,.none⟩=some (.slice E m2 d2)) (w3:V2.cell? ⟨b1,3,.none⟩=some (.string xdat))
  (hE:EntsAt none V2 E m2 xe) (hmd:SlOk E m2 d2) (hle:m2≤1099511627776) (htx:∀e∈xe,e.name.size≤140737488355328) (hn1: -9223372036854775808≤xn) (hn9:xn≤9223372036854775807) (hxs:xdat.size≤140737488355328)
  (q:Nat) (hqn:q<n) (hn2:n≤1099511627776) (BD:Bool) (hBD:inoBad s (prevI s.inos q) ⟨xn,xd,xe,xdat⟩=BD) (hq0:q=0)
  (Q:Act→Prop) (c0 c2 c3 c4 c7 c8 c9 c10 c11 c12 c13 c14 c15 c16 c17 c18 c19 c20 c21 c22 c23 c24 c25 c26 c27 c28 c29 c30 c31 c32 c33 c34 c35 c36 c37 c38 c39 c40 c41 c42 c43 c44 c45 c46 c47 c48 c49 c50 c51 c52 c53 c54 c55 c56 c57 c58 c59 c60 c61 c62 c63 c64 c65 c66 c67 c68 c69 c70 c71 c72 c73 c74 c75 c76 c77 c78 c79 c80 c81 c82 c83 c84 c85 c86 c87 c88 c89 c90 c91 c92 c93 c94 c95 c96 c97 c98 c99 c100 c101 c102 c103 c104 c105 c106 c107 c108 c109 c110 c111 c112 c113 c114 c115 c116 c117 c118 c119 c120 c121 c122 c123 c124 c125 c126 c127 c128 c129 c130 c131 c132 c133 c134 c135 c136 c137 c138 c139 c140 c141 c142 c143 c144 c145 c146 c147 c148 c149 c150 c151 c152 c153 c154 c155 c156 c157 c158 c159 c160 c161 c162 c163 c164 c165 c166 c167 c168 c169 c170 c171 c172 c173 c174 c175 c176:Value) (hQ:∀v84 v85 v86 v87 v88 v89 v90 v91 v92 v93 v94 v95 v96 v97 v98 v99 v100 v101 v102 v103 v104 v105 v106 v107 v108 v109 v110 v111 v112 v113 v114 v115 v116 v117 v118 v119 v120 v121 v122 v123 v124 v125 v126 v127 v128 v129 v130 v131 v132 v133 v134 v135 v136:Value,v136=.bool BD→Q ⟨(c0::.pointer (some ⟨b0,0,.none⟩)::c2::c3::c4::.int .i64 (q:Nat)::.pointer (some ⟨b1,0,.none⟩)::c7::c8::c9::c10::c11::c12::c13::c14::c15::c16::c17::c18::c19::c20::c21::c22::c23::c24::c25::c26::c27::c28::c29::c30::c31::c32::c33::c34::c35::c36::c37::c38::c39::c40::c41::c42::c43::c44::c45::c46::c47::c48::c49::c50::c51::c52::c53::c54::c55::c56::c57::c58::c59::c60::c61::c62::c63::c64::c65::c66::c67::c68::c69::c70::c71::c72::c73::c74::c75::c76::c77::c78::c79::c80::c81::c82::c83::v84::v85::v86::v87::v88::v89::v90::v91::v92::v93::v94::v95::v96::v97::v98::v99::v100::v101::v102::v103::v104::v105::v106::v107::v108::v109::v110::v111::v112::v113::v114::v115::v116::v117::v118::v119::v120::v121::v122::v123::v124::v125::v126::v127::v128::v129::v130::v131::v132::v133::v134::v135::v136::c137::c138::c139::c140::c141::c142::c143::c144::c145::c146::c147::c148::c149::c150::c151::c152::c153::c154::c155::c156::c157::c158::c159::c160::c161::c162::c163::c164::c165::c166::c167::c168::c169::c170::c171::c172::c173::c174::c175::c176::[]).toArray,[]⟩):
  wpQuiet Tryz.prog ops15.toArray (fun w'=>∃x:Ext V2,w'=x.w) Q ops15 ⟨(c0::.pointer (some ⟨b0,0,.none⟩)::c2::c3::c4::.int .i64 (q:Nat)::.pointer (some ⟨b1,0,.none⟩)::c7::c8::c9::c10::c11::c12::c13::c14::c15::c16::c17::c18::c19::c20::c21::c22::c23::c24::c25::c26::c27::c28::c29::c30::c31::c32::c33::c34::c35::c36::c37::c38::c39::c40::c41::c42::c43::c44::c45::c46::c47::c48::c49::c50::c51::c52::c53::c54::c55::c56::c57::c58::c59::c60::c61::c62::c63::c64::c65::c66::c67::c68::c69::c70::c71::c72::c73::c74::c75::c76::c77::c78::c79::c80::c81::c82::c83::c84::c85::c86::c87::c88::c89::c90::c91::c92::c93::c94::c95::c96::c97::c98::c99::c100::c101::c102::c103::c104::c105::c106::c107::c108::c109::c110::c111::c112::c113::c114::c115::c116::c117::c118::c119::c120::c121::c122::c123::c124::c125::c126::c127::c128::c129::c130::c131::c132::c133::c134::c135::c136::c137::c138::c139::c140::c141::c142::c143::c144::c145::c146::c147::c148::c149::c150::c151::c152::c153::c154::c155::c156::c157::c158::c159::c160::c161::c162::c163::c164::c165::c166::c167::c168::c169::c170::c171::c172::c173::c174::c175::c176::[]).toArray,[]⟩:=by
 have HSV:=hid hS;have HIV:=hid hI;have HEV:=hid hE;have HTX:=hid htx;have HES:=hid hE.1;have HBD:=hid hBD;have HQ:=hid hQ;have hX:=@Ext.cell V2;obtain⟨Q1,hq1,hq1n⟩:∃Q1,decide ((0:Int)<(q:Int))=Q1∧decide (0<q)=Q1:=⟨decide (0<q),by simp,rfl⟩;obtain⟨QD,hqd,hqdn⟩:∃QD,decide ((256:Int)<(xdat.size:Int))=QD∧decide (256<xdat.size)=QD:=⟨decide (256<xdat.size),by rw[Bool.eq_iff_iff,decide_eq_true_eq,decide_eq_true_eq];omega,rfl⟩;obtain⟨QE,hqe,hqen⟩:∃QE,decide ((0:Int)<(m2:Int))=QE∧decide (0<m2)=QE:=⟨decide (0<m2),by simp,rfl⟩;obtain⟨NG,hng⟩:∃NG,(!givenV s.made xn)=NG:=⟨_,rfl⟩;have HQ1:=hid (And.intro hq1 hq1n);have HQD:=hid (And.intro hqd hqdn);have HQE:=hid (And.intro hqe hqen);have HNG:=hid hng;clear hS hI hE htx hBD hQ;have ho:∃l,ops15=l:=⟨_,rfl⟩
 conv=>arg 2;arg 1;whnf
 conv=>arg 5;whnf
 have HP:Hid (prevI s.inos q=none):=hid (if_pos hq0);have hk1:¬0<q:=by omega
 repeat (go_big_quiet_step (first|(go_at_call 51;rename_i X;exact Calls.ext_of (z0j _ s _ _ (HSV.out.below X.bel) hn1 hn9))|(go_at_call 52;rename_i X;exact Calls.ext_of (z0d _ s _ (HSV.out.below X.bel) ⟨xn,_,xe,xdat⟩ _ _ _ (HEV.out.below X.bel) hmd hle HTX.out))))
 cases Q1;rotate_left
 ·exact absurd (by have:=HQ1.out.2;rw[decide_eq_true_eq] at this;exact this) hk1
 clear hq1 hq1n hq0
 repeat (go_big_quiet_step (first|(go_at_call 51;rename_i X;exact Calls.ext_of (z0j _ s _ _ (HSV.out.below X.bel) hn1 hn9))|(go_at_call 52;rename_i X;exact Calls.ext_of (z0d _ s _ (HSV.out.below X.bel) ⟨xn,_,xe,xdat⟩ _ _ _ (HEV.out.below X.bel) hmd hle HTX.out))))
 cases QD;rotate_left
 ·have hbigd:256<xdat.size:=by have:=HQD.out.2;rw[decide_eq_true_eq] at this;exact this
  repeat (go_big_quiet_step (first|(go_at_call 51;rename_i X;exact Calls.ext_of (z0j _ s _ _ (HSV.out.below X.bel) hn1 hn9))|(go_at_call 52;rename_i X;exact Calls.ext_of (z0d _ s _ (HSV.out.below X.bel) ⟨xn,_,xe,xdat⟩ _ _ _ (HEV.out.below X.bel) hmd hle HTX.out))))
  refine wpQuiet_nil ?_;exact HQ.out _ _ _ _ _ _ _ _ _ _ _ _ _ _ _ _ _ _ _ _ _ _ _ _ _ _ _ _ _ _ _ _ _ _ _ _ _ _ _ _ _ _ _ _ _ _ _ _ _ _ _ _ _ (congrArg Value.bool (by rw[←HBD.out];unfold inoBad badNum;rw[HP.out];simp[hbigd]<;>(intros;omega)))
 have hbigd:¬256<xdat.size:=by have:=HQD.out.2;rw[decide_eq_false_iff_not] at this;exact this
 repeat (go_big_quiet_step (first|(go_at_call 51;rename_i X;exact Calls.ext_of (z0j _ s _ _ (HSV.out.below X.bel) hn1 hn9))|(go_at_call 52;rename_i X;exact Calls.ext_of (z0d _ s _ (HSV.out.below X.bel) ⟨xn,_,xe,xdat⟩ _ _ _ (HEV.out.below X.bel) hmd hle HTX.out))))
 cases xd
 ·skip
  repeat (go_big_quiet_step (first|(go_at_call 51;rename_i X;exact Calls.ext_of (z0j _ s _ _ (HSV.out.below X.bel) hn1 hn9))|(go_at_call 52;rename_i X;exact Calls.ext_of (z0d _ s _ (HSV.out.below X.bel) ⟨xn,_,xe,xdat⟩ _ _ _ (HEV.out.below X.bel) hmd hle HTX.out))))
  cases QE
  ·have hm0:¬0<m2:=by have:=HQE.out.2;rw[decide_eq_false_iff_not] at this;exact this
   have hnil:xe=[]:=List.eq_nil_of_length_eq_zero (by have:=HES.out;omega);have HNIL:=hid hnil;clear hnil
   repeat (go_big_quiet_step (first|(go_at_call 51;rename_i X;exact Calls.ext_of (z0j _ s _ _ (HSV.out.below X.bel) hn1 hn9))|(go_at_call 52;rename_i X;exact Calls.ext_of (z0d _ s _ (HSV.out.below X.bel) ⟨xn,_,xe,xdat⟩ _ _ _ (HEV.out.below X.bel) hmd hle HTX.out))))
   refine wpQuiet_nil ?_;exact HQ.out _ _ _ _ _ _ _ _ _ _ _ _ _ _ _ _ _ _ _ _ _ _ _ _ _ _ _ _ _ _ _ _ _ _ _ _ _ _ _ _ _ _ _ _ _ _ _ _ _ _ _ _ _ (congrArg Value.bool (by rw[←HBD.out];unfold inoBad badNum;rw[HP.out];simp[hbigd,HNIL.out]<;>(intros;omega)))
  ·have hm0:0<m2:=by have:=HQE.out.2;rw[decide_eq_true_eq] at this;exact this
   have hnn:xe.isEmpty=false:=by
    cases hxe:xe with
    | nil=>have:=HES.out;rw[hxe] at this;exact absurd this.symm (Nat.ne_of_gt hm0)
    | cons a l=>rfl
   have HNN:=hid hnn;clear hnn
   repeat (go_big_quiet_step (first|(go_at_call 51;rename_i X;exact Calls.ext_of (z0j _ s _ _ (HSV.out.below X.bel) hn1 hn9))|(go_at_call 52;rename_i X;exact Calls.ext_of (z0d _ s _ (HSV.out.below X.bel) ⟨xn,_,xe,xdat⟩ _ _ _ (HEV.out.below X.bel) hmd hle HTX.out))))
   refine wpQuiet_nil ?_;exact HQ.out _ _ _ _ _ _ _ _ _ _ _ _ _ _ _ _ _ _ _ _ _ _ _ _ _ _ _ _ _ _ _ _ _ _ _ _ _ _ _ _ _ _ _ _ _ _ _ _ _ _ _ _ _ (congrArg Value.bool (by rw[←HBD.out];unfold inoBad badNum;rw[HP.out];simp[hbigd,HNN.out]<;>(intros;omega)))
 ·by_cases hs0:xdat.size=0
  ·have ht0:xdat.toList=[]:=by rw[ByteArray.toList_eq];exact List.eq_nil_of_length_eq_zero hs0
   have ht1:xdat.toList.isEmpty=true:=by rw[ht0];rfl
   repeat (go_big_quiet_step (first|(go_at_call 51;rename_i X;exact Calls.ext_of (z0j _ s _ _ (HSV.out.below X.bel) hn1 hn9))|(go_at_call 52;rename_i X;exact Calls.ext_of (z0d _ s _ (HSV.out.below X.bel) ⟨xn,_,xe,xdat⟩ _ _ _ (HEV.out.below X.bel) hmd hle HTX.out))))
   refine wpQuiet_nil ?_;exact HQ.out _ _ _ _ _ _ _ _ _ _ _ _ _ _ _ _ _ _ _ _ _ _ _ _ _ _ _ _ _ _ _ _ _ _ _ _ _ _ _ _ _ _ _ _ _ _ _ _ _ _ _ _ _ (congrArg Value.bool (by rw[←HBD.out];unfold inoBad badNum;rw[HP.out];simp[hs0]<;>(intros;omega)))
  ·have ht0:¬xdat.toList=[]:=by rw[ByteArray.toList_eq];intro e;apply hs0;exact congrArg List.length e
   have ht1:xdat.toList.isEmpty=false:=by cases hh:xdat.toList.isEmpty;rfl;exact absurd (List.isEmpty_iff.1 hh) ht0
   repeat (go_big_quiet_step (first|(go_at_call 51;rename_i X;exact Calls.ext_of (z0j _ s _ _ (HSV.out.below X.bel) hn1 hn9))|(go_at_call 52;rename_i X;exact Calls.ext_of (z0d _ s _ (HSV.out.below X.bel) ⟨xn,_,xe,xdat⟩ _ _ _ (HEV.out.below X.bel) hmd hle HTX.out))))
   refine wpQuiet_nil ?_;exact HQ.out _ _ _ _ _ _ _ _ _ _ _ _ _ _ _ _ _ _ _ _ _ _ _ _ _ _ _ _ _ _ _ _ _ _ _ _ _ _ _ _ _ _ _ _ _ _ _ _ _ _ _ _ _ (congrArg Value.bool (by rw[←HBD.out];unfold inoBad badNum;rw[HP.out];simp[hs0]<;>(intros;omega)))
set_option maxRecDepth 1000000 in
set_option maxHeartbeats 16000000 in
theorem znl (s:St) (n c m d k e:Nat) (A B D:Option Addr) (V2:World) (b0 b1:Nat) (x0:V2.cell? ⟨b0,0,.none⟩=some (.slice A n c)) (x1:V2.cell? ⟨b0,1,.none⟩=some (.slice B m d)) (x2:V2.cell? ⟨b0,2,.none⟩=some (.slice D k e))
  (hS:StAt none V2 (.agg #[.slice A n c,.slice B m d,.slice D k e]) s) (hI:InosAt none V2 A n s.inos) (xn:Int) (xd:Bool) (xe:List En) (xdat:ByteArray) (E:Option Addr) (m2 d2:Nat)
  (w0:V2.cell? ⟨b1,0,.none⟩=some (.int .i64 xn)) (w1:V2.cell? ⟨b1,1,.none⟩=some (.bool xd)) (w2:V2.cell? ⟨b1,2,.none⟩=some (.slice E m2 d2)) (w3:V2.cell? ⟨b1,3,.none⟩=some (.string xdat))
  (hE:EntsAt none V2 E m2 xe) (hmd:SlOk E m2 d2) (hle:m2≤1099511627776) (htx:∀e∈xe,e.name.size≤140737488355328) (hn1: -9223372036854775808≤xn) (hn9:xn≤9223372036854775807) (hxs:xdat.size≤140737488355328)
  (q:Nat) (hqn:q<n) (hn2:n≤1099511627776) (BD:Bool) (hBD:inoBad s (prevI s.inos q) ⟨xn,xd,xe,xdat⟩=BD) (hq0:0<q) (y:Ino) (hy:s.inos[q-1]? =some y) (hbad:xn≤y.num∨givenV s.made xn=false)
  (Q:Act→Prop) (c0 c2 c3 c4 c7 c8 c9 c10 c11 c12 c13 c14 c15 c16 c17 c18 c19 c20 c21 c22 c23 c24 c25 c26 c27 c28 c29 c30 c31 c32 c33 c34 c35 c36 c37 c38 c39 c40 c41 c42 c43 c44 c45 c46 c47 c48 c49 c50 c51 c52 c53 c54 c55 c56 c57 c58 c59 c60 c61 c62 c63 c64 c65 c66 c67 c68 c69 c70 c71 c72 c73 c74 c75 c76 c77 c78 c79 c80 c81 c82 c83 c84 c85 c86 c87 c88 c89 c90 c91 c92 c93 c94 c95 c96 c97 c98 c99 c100 c101 c102 c103 c104 c105 c106 c107 c108 c109 c110 c111 c112 c113 c114 c115 c116 c117 c118 c119 c120 c121 c122 c123 c124 c125 c126 c127 c128 c129 c130 c131 c132 c133 c134 c135 c136 c137 c138 c139 c140 c141 c142 c143 c144 c145 c146 c147 c148 c149 c150 c151 c152 c153 c154 c155 c156 c157 c158 c159 c160 c161 c162 c163 c164 c165 c166 c167 c168 c169 c170 c171 c172 c173 c174 c175 c176:Value) (hQ:∀v84 v85 v86 v87 v88 v89 v90 v91 v92 v93 v94 v95 v96 v97 v98 v99 v100 v101 v102 v103 v104 v105 v106 v107 v108 v109 v110 v111 v112 v113 v114 v115 v116 v117 v118 v119 v120 v121 v122 v123 v124 v125 v126 v127 v128 v129 v130 v131 v132 v133 v134 v135 v136:Value,v136=.bool BD→Q ⟨(c0::.pointer (some ⟨b0,0,.none⟩)::c2::c3::c4::.int .i64 (q:Nat)::.pointer (some ⟨b1,0,.none⟩)::c7::c8::c9::c10::c11::c12::c13::c14::c15::c16::c17::c18::c19::c20::c21::c22::c23::c24::c25::c26::c27::c28::c29::c30::c31::c32::c33::c34::c35::c36::c37::c38::c39::c40::c41::c42::c43::c44::c45::c46::c47::c48::c49::c50::c51::c52::c53::c54::c55::c56::c57::c58::c59::c60::c61::c62::c63::c64::c65::c66::c67::c68::c69::c70::c71::c72::c73::c74::c75::c76::c77::c78::c79::c80::c81::c82::c83::v84::v85::v86::v87::v88::v89::v90::v91::v92::v93::v94::v95::v96::v97::v98::v99::v100::v101::v102::v103::v104::v105::v106::v107::v108::v109::v110::v111::v112::v113::v114::v115::v116::v117::v118::v119::v120::v121::v122::v123::v124::v125::v126::v127::v128::v129::v130::v131::v132::v133::v134::v135::v136::c137::c138::c139::c140::c141::c142::c143::c144::c145::c146::c147::c148::c149::c150::c151::c152::c153::c154::c155::c156::c157::c158::c159::c160::c161::c162::c163::c164::c165::c166::c167::c168::c169::c170::c171::c172::c173::c174::c175::c176::[]).toArray,[]⟩):
  wpQuiet Tryz.prog ops15.toArray (fun w'=>∃x:Ext V2,w'=x.w) Q ops15 ⟨(c0::.pointer (some ⟨b0,0,.none⟩)::c2::c3::c4::.int .i64 (q:Nat)::.pointer (some ⟨b1,0,.none⟩)::c7::c8::c9::c10::c11::c12::c13::c14::c15::c16::c17::c18::c19::c20::c21::c22::c23::c24::c25::c26::c27::c28::c29::c30::c31::c32::c33::c34::c35::c36::c37::c38::c39::c40::c41::c42::c43::c44::c45::c46::c47::c48::c49::c50::c51::c52::c53::c54::c55::c56::c57::c58::c59::c60::c61::c62::c63::c64::c65::c66::c67::c68::c69::c70::c71::c72::c73::c74::c75::c76::c77::c78::c79::c80::c81::c82::c83::c84::c85::c86::c87::c88::c89::c90::c91::c92::c93::c94::c95::c96::c97::c98::c99::c100::c101::c102::c103::c104::c105::c106::c107::c108::c109::c110::c111::c112::c113::c114::c115::c116::c117::c118::c119::c120::c121::c122::c123::c124::c125::c126::c127::c128::c129::c130::c131::c132::c133::c134::c135::c136::c137::c138::c139::c140::c141::c142::c143::c144::c145::c146::c147::c148::c149::c150::c151::c152::c153::c154::c155::c156::c157::c158::c159::c160::c161::c162::c163::c164::c165::c166::c167::c168::c169::c170::c171::c172::c173::c174::c175::c176::[]).toArray,[]⟩:=by
 have HSV:=hid hS;have HIV:=hid hI;have HEV:=hid hE;have HTX:=hid htx;have HES:=hid hE.1;have HBD:=hid hBD;have HQ:=hid hQ;have hX:=@Ext.cell V2;obtain⟨Q1,hq1,hq1n⟩:∃Q1,decide ((0:Int)<(q:Int))=Q1∧decide (0<q)=Q1:=⟨decide (0<q),by simp,rfl⟩;obtain⟨QD,hqd,hqdn⟩:∃QD,decide ((256:Int)<(xdat.size:Int))=QD∧decide (256<xdat.size)=QD:=⟨decide (256<xdat.size),by rw[Bool.eq_iff_iff,decide_eq_true_eq,decide_eq_true_eq];omega,rfl⟩;obtain⟨QE,hqe,hqen⟩:∃QE,decide ((0:Int)<(m2:Int))=QE∧decide (0<m2)=QE:=⟨decide (0<m2),by simp,rfl⟩;obtain⟨NG,hng⟩:∃NG,(!givenV s.made xn)=NG:=⟨_,rfl⟩;have HQ1:=hid (And.intro hq1 hq1n);have HQD:=hid (And.intro hqd hqdn);have HQE:=hid (And.intro hqe hqen);have HNG:=hid hng;clear hS hI hE htx hBD hQ;have ho:∃l,ops15=l:=⟨_,rfl⟩
 conv=>arg 2;arg 1;whnf
 conv=>arg 5;whnf
 obtain⟨j,rfl⟩:∃j,q=j+1:=⟨q-1,by omega⟩;have HP:Hid (prevI s.inos (j+1)=some y.num):=hid (by unfold prevI;rw[if_neg (by omega),Nat.add_sub_cancel];simp at hy;rw[hy];rfl);obtain⟨g',off',y',E',m',d',rfl,hg',hy',_,_,f0,_,_,_,_,_⟩:=HIV.out.get j (by omega);have ey:y=y':=by simp at hy;rw[hy] at hy';exact Option.some.inj hy'
 subst ey;have j0:(0:Int)≤(j:Int):=by omega
 have j1:(j:Int)<(n:Int):=by omega
 have jw:IntKind.i64.wrap ((j:Int)+1-1)=(j:Int):=by rw[IntKind.wrap_i64];omega
 obtain⟨Q2,hq2⟩:∃Q2,decide (xn≤y.num)=Q2:=⟨_,rfl⟩;have HQ2:=hid hq2;have hk1:0<j+1:=by omega
 clear hy hy' hq0
 repeat (go_big_quiet_step (first|(go_at_call 51;rename_i X;exact Calls.ext_of (z0j _ s _ _ (HSV.out.below X.bel) hn1 hn9))|(go_at_call 52;rename_i X;exact Calls.ext_of (z0d _ s _ (HSV.out.below X.bel) ⟨xn,_,xe,xdat⟩ _ _ _ (HEV.out.below X.bel) hmd hle HTX.out))))
 cases Q1
 ·exact absurd hk1 (by have:=HQ1.out.2;rw[decide_eq_false_iff_not] at this;exact this)
 clear hq1 hq1n
 repeat (go_big_quiet_step (first|(go_at_call 51;rename_i X;exact Calls.ext_of (z0j _ s _ _ (HSV.out.below X.bel) hn1 hn9))|(go_at_call 52;rename_i X;exact Calls.ext_of (z0d _ s _ (HSV.out.below X.bel) ⟨xn,_,xe,xdat⟩ _ _ _ (HEV.out.below X.bel) hmd hle HTX.out))))
 cases Q2;rotate_left
 ·have hnum:xn≤y.num:=by have:=HQ2.out;rw[decide_eq_true_eq] at this;exact this
  repeat (go_big_quiet_step (first|(go_at_call 51;rename_i X;exact Calls.ext_of (z0j _ s _ _ (HSV.out.below X.bel) hn1 hn9))|(go_at_call 52;rename_i X;exact Calls.ext_of (z0d _ s _ (HSV.out.below X.bel) ⟨xn,_,xe,xdat⟩ _ _ _ (HEV.out.below X.bel) hmd hle HTX.out))))
  refine wpQuiet_nil ?_;exact HQ.out _ _ _ _ _ _ _ _ _ _ _ _ _ _ _ _ _ _ _ _ _ _ _ _ _ _ _ _ _ _ _ _ _ _ _ _ _ _ _ _ _ _ _ _ _ _ _ _ _ _ _ _ _ (congrArg Value.bool (by rw[←HBD.out];unfold inoBad badNum;rw[HP.out];simp[hnum]<;>(intros;omega)))
 have hnum:¬xn≤y.num:=by have:=HQ2.out;rw[decide_eq_false_iff_not] at this;exact this
 repeat (go_big_quiet_step (first|(go_at_call 51;rename_i X;exact Calls.ext_of (z0j _ s _ _ (HSV.out.below X.bel) hn1 hn9))|(go_at_call 52;rename_i X;exact Calls.ext_of (z0d _ s _ (HSV.out.below X.bel) ⟨xn,_,xe,xdat⟩ _ _ _ (HEV.out.below X.bel) hmd hle HTX.out))))
 cases NG
 ·have hgv:givenV s.made xn=true:=by have:=HNG.out;simpa using this
  exfalso
  rcases hbad with h|h
  ·exact hnum h
  ·rw[hgv] at h;cases h
 have hgv2:givenV s.made xn=false:=by have:=HNG.out;simpa using this
 repeat (go_big_quiet_step (first|(go_at_call 51;rename_i X;exact Calls.ext_of (z0j _ s _ _ (HSV.out.below X.bel) hn1 hn9))|(go_at_call 52;rename_i X;exact Calls.ext_of (z0d _ s _ (HSV.out.below X.bel) ⟨xn,_,xe,xdat⟩ _ _ _ (HEV.out.below X.bel) hmd hle HTX.out))))
 refine wpQuiet_nil ?_;exact HQ.out _ _ _ _ _ _ _ _ _ _ _ _ _ _ _ _ _ _ _ _ _ _ _ _ _ _ _ _ _ _ _ _ _ _ _ _ _ _ _ _ _ _ _ _ _ _ _ _ _ _ _ _ _ (congrArg Value.bool (by rw[←HBD.out];unfold inoBad badNum;rw[HP.out];simp[hnum,hgv2]<;>(intros;omega)))
set_option maxRecDepth 1000000 in
set_option maxHeartbeats 16000000 in
theorem zom (s:St) (n c m d k e:Nat) (A B D:Option Addr) (V2:World) (b0 b1:Nat) (x0:V2.cell? ⟨b0,0,.none⟩=some (.slice A n c)) (x1:V2.cell? ⟨b0,1,.none⟩=some (.slice B m d)) (x2:V2.cell? ⟨b0,2,.none⟩=some (.slice D k e))
  (hS:StAt none V2 (.agg #[.slice A n c,.slice B m d,.slice D k e]) s) (hI:InosAt none V2 A n s.inos) (xn:Int) (xd:Bool) (xe:List En) (xdat:ByteArray) (E:Option Addr) (m2 d2:Nat)
  (w0:V2.cell? ⟨b1,0,.none⟩=some (.int .i64 xn)) (w1:V2.cell? ⟨b1,1,.none⟩=some (.bool xd)) (w2:V2.cell? ⟨b1,2,.none⟩=some (.slice E m2 d2)) (w3:V2.cell? ⟨b1,3,.none⟩=some (.string xdat))
  (hE:EntsAt none V2 E m2 xe) (hmd:SlOk E m2 d2) (hle:m2≤1099511627776) (htx:∀e∈xe,e.name.size≤140737488355328) (hn1: -9223372036854775808≤xn) (hn9:xn≤9223372036854775807) (hxs:xdat.size≤140737488355328)
  (q:Nat) (hqn:q<n) (hn2:n≤1099511627776) (BD:Bool) (hBD:inoBad s (prevI s.inos q) ⟨xn,xd,xe,xdat⟩=BD) (hq0:0<q) (y:Ino) (hy:s.inos[q-1]? =some y) (hnum:¬xn≤y.num) (hgv:givenV s.made xn=true)
  (Q:Act→Prop) (c0 c2 c3 c4 c7 c8 c9 c10 c11 c12 c13 c14 c15 c16 c17 c18 c19 c20 c21 c22 c23 c24 c25 c26 c27 c28 c29 c30 c31 c32 c33 c34 c35 c36 c37 c38 c39 c40 c41 c42 c43 c44 c45 c46 c47 c48 c49 c50 c51 c52 c53 c54 c55 c56 c57 c58 c59 c60 c61 c62 c63 c64 c65 c66 c67 c68 c69 c70 c71 c72 c73 c74 c75 c76 c77 c78 c79 c80 c81 c82 c83 c84 c85 c86 c87 c88 c89 c90 c91 c92 c93 c94 c95 c96 c97 c98 c99 c100 c101 c102 c103 c104 c105 c106 c107 c108 c109 c110 c111 c112 c113 c114 c115 c116 c117 c118 c119 c120 c121 c122 c123 c124 c125 c126 c127 c128 c129 c130 c131 c132 c133 c134 c135 c136 c137 c138 c139 c140 c141 c142 c143 c144 c145 c146 c147 c148 c149 c150 c151 c152 c153 c154 c155 c156 c157 c158 c159 c160 c161 c162 c163 c164 c165 c166 c167 c168 c169 c170 c171 c172 c173 c174 c175 c176:Value) (hQ:∀v84 v85 v86 v87 v88 v89 v90 v91 v92 v93 v94 v95 v96 v97 v98 v99 v100 v101 v102 v103 v104 v105 v106 v107 v108 v109 v110 v111 v112 v113 v114 v115 v116 v117 v118 v119 v120 v121 v122 v123 v124 v125 v126 v127 v128 v129 v130 v131 v132 v133 v134 v135 v136:Value,v136=.bool BD→Q ⟨(c0::.pointer (some ⟨b0,0,.none⟩)::c2::c3::c4::.int .i64 (q:Nat)::.pointer (some ⟨b1,0,.none⟩)::c7::c8::c9::c10::c11::c12::c13::c14::c15::c16::c17::c18::c19::c20::c21::c22::c23::c24::c25::c26::c27::c28::c29::c30::c31::c32::c33::c34::c35::c36::c37::c38::c39::c40::c41::c42::c43::c44::c45::c46::c47::c48::c49::c50::c51::c52::c53::c54::c55::c56::c57::c58::c59::c60::c61::c62::c63::c64::c65::c66::c67::c68::c69::c70::c71::c72::c73::c74::c75::c76::c77::c78::c79::c80::c81::c82::c83::v84::v85::v86::v87::v88::v89::v90::v91::v92::v93::v94::v95::v96::v97::v98::v99::v100::v101::v102::v103::v104::v105::v106::v107::v108::v109::v110::v111::v112::v113::v114::v115::v116::v117::v118::v119::v120::v121::v122::v123::v124::v125::v126::v127::v128::v129::v130::v131::v132::v133::v134::v135::v136::c137::c138::c139::c140::c141::c142::c143::c144::c145::c146::c147::c148::c149::c150::c151::c152::c153::c154::c155::c156::c157::c158::c159::c160::c161::c162::c163::c164::c165::c166::c167::c168::c169::c170::c171::c172::c173::c174::c175::c176::[]).toArray,[]⟩):
  wpQuiet Tryz.prog ops15.toArray (fun w'=>∃x:Ext V2,w'=x.w) Q ops15 ⟨(c0::.pointer (some ⟨b0,0,.none⟩)::c2::c3::c4::.int .i64 (q:Nat)::.pointer (some ⟨b1,0,.none⟩)::c7::c8::c9::c10::c11::c12::c13::c14::c15::c16::c17::c18::c19::c20::c21::c22::c23::c24::c25::c26::c27::c28::c29::c30::c31::c32::c33::c34::c35::c36::c37::c38::c39::c40::c41::c42::c43::c44::c45::c46::c47::c48::c49::c50::c51::c52::c53::c54::c55::c56::c57::c58::c59::c60::c61::c62::c63::c64::c65::c66::c67::c68::c69::c70::c71::c72::c73::c74::c75::c76::c77::c78::c79::c80::c81::c82::c83::c84::c85::c86::c87::c88::c89::c90::c91::c92::c93::c94::c95::c96::c97::c98::c99::c100::c101::c102::c103::c104::c105::c106::c107::c108::c109::c110::c111::c112::c113::c114::c115::c116::c117::c118::c119::c120::c121::c122::c123::c124::c125::c126::c127::c128::c129::c130::c131::c132::c133::c134::c135::c136::c137::c138::c139::c140::c141::c142::c143::c144::c145::c146::c147::c148::c149::c150::c151::c152::c153::c154::c155::c156::c157::c158::c159::c160::c161::c162::c163::c164::c165::c166::c167::c168::c169::c170::c171::c172::c173::c174::c175::c176::[]).toArray,[]⟩:=by
 have HSV:=hid hS;have HIV:=hid hI;have HEV:=hid hE;have HTX:=hid htx;have HES:=hid hE.1;have HBD:=hid hBD;have HQ:=hid hQ;have hX:=@Ext.cell V2;obtain⟨Q1,hq1,hq1n⟩:∃Q1,decide ((0:Int)<(q:Int))=Q1∧decide (0<q)=Q1:=⟨decide (0<q),by simp,rfl⟩;obtain⟨QD,hqd,hqdn⟩:∃QD,decide ((256:Int)<(xdat.size:Int))=QD∧decide (256<xdat.size)=QD:=⟨decide (256<xdat.size),by rw[Bool.eq_iff_iff,decide_eq_true_eq,decide_eq_true_eq];omega,rfl⟩;obtain⟨QE,hqe,hqen⟩:∃QE,decide ((0:Int)<(m2:Int))=QE∧decide (0<m2)=QE:=⟨decide (0<m2),by simp,rfl⟩;obtain⟨NG,hng⟩:∃NG,(!givenV s.made xn)=NG:=⟨_,rfl⟩;have HQ1:=hid (And.intro hq1 hq1n);have HQD:=hid (And.intro hqd hqdn);have HQE:=hid (And.intro hqe hqen);have HNG:=hid hng;clear hS hI hE htx hBD hQ;have ho:∃l,ops15=l:=⟨_,rfl⟩
 conv=>arg 2;arg 1;whnf
 conv=>arg 5;whnf
 obtain⟨j,rfl⟩:∃j,q=j+1:=⟨q-1,by omega⟩;have HP:Hid (prevI s.inos (j+1)=some y.num):=hid (by unfold prevI;rw[if_neg (by omega),Nat.add_sub_cancel];simp at hy;rw[hy];rfl);obtain⟨g',off',y',E',m',d',rfl,hg',hy',_,_,f0,_,_,_,_,_⟩:=HIV.out.get j (by omega);have ey:y=y':=by simp at hy;rw[hy] at hy';exact Option.some.inj hy'
 subst ey;have j0:(0:Int)≤(j:Int):=by omega
 have j1:(j:Int)<(n:Int):=by omega
 have jw:IntKind.i64.wrap ((j:Int)+1-1)=(j:Int):=by rw[IntKind.wrap_i64];omega
 obtain⟨Q2,hq2⟩:∃Q2,decide (xn≤y.num)=Q2:=⟨_,rfl⟩;have HQ2:=hid hq2;have hk1:0<j+1:=by omega
 clear hy hy' hq0
 repeat (go_big_quiet_step (first|(go_at_call 51;rename_i X;exact Calls.ext_of (z0j _ s _ _ (HSV.out.below X.bel) hn1 hn9))|(go_at_call 52;rename_i X;exact Calls.ext_of (z0d _ s _ (HSV.out.below X.bel) ⟨xn,_,xe,xdat⟩ _ _ _ (HEV.out.below X.bel) hmd hle HTX.out))))
 cases Q1
 ·exact absurd hk1 (by have:=HQ1.out.2;rw[decide_eq_false_iff_not] at this;exact this)
 clear hq1 hq1n
 repeat (go_big_quiet_step (first|(go_at_call 51;rename_i X;exact Calls.ext_of (z0j _ s _ _ (HSV.out.below X.bel) hn1 hn9))|(go_at_call 52;rename_i X;exact Calls.ext_of (z0d _ s _ (HSV.out.below X.bel) ⟨xn,_,xe,xdat⟩ _ _ _ (HEV.out.below X.bel) hmd hle HTX.out))))
 cases Q2;rotate_left
 ·exact absurd (by have:=HQ2.out;rw[decide_eq_true_eq] at this;exact this) hnum
 repeat (go_big_quiet_step (first|(go_at_call 51;rename_i X;exact Calls.ext_of (z0j _ s _ _ (HSV.out.below X.bel) hn1 hn9))|(go_at_call 52;rename_i X;exact Calls.ext_of (z0d _ s _ (HSV.out.below X.bel) ⟨xn,_,xe,xdat⟩ _ _ _ (HEV.out.below X.bel) hmd hle HTX.out))))
 cases NG;rotate_left
 ·exfalso;have:=HNG.out;rw[hgv] at this;cases this
 have HGV:=hid hgv;clear hgv
 repeat (go_big_quiet_step (first|(go_at_call 51;rename_i X;exact Calls.ext_of (z0j _ s _ _ (HSV.out.below X.bel) hn1 hn9))|(go_at_call 52;rename_i X;exact Calls.ext_of (z0d _ s _ (HSV.out.below X.bel) ⟨xn,_,xe,xdat⟩ _ _ _ (HEV.out.below X.bel) hmd hle HTX.out))))
 cases QD;rotate_left
 ·have hbigd:256<xdat.size:=by have:=HQD.out.2;rw[decide_eq_true_eq] at this;exact this
  repeat (go_big_quiet_step (first|(go_at_call 51;rename_i X;exact Calls.ext_of (z0j _ s _ _ (HSV.out.below X.bel) hn1 hn9))|(go_at_call 52;rename_i X;exact Calls.ext_of (z0d _ s _ (HSV.out.below X.bel) ⟨xn,_,xe,xdat⟩ _ _ _ (HEV.out.below X.bel) hmd hle HTX.out))))
  refine wpQuiet_nil ?_;exact HQ.out _ _ _ _ _ _ _ _ _ _ _ _ _ _ _ _ _ _ _ _ _ _ _ _ _ _ _ _ _ _ _ _ _ _ _ _ _ _ _ _ _ _ _ _ _ _ _ _ _ _ _ _ _ (congrArg Value.bool (by rw[←HBD.out];unfold inoBad badNum;rw[HP.out];simp[hnum,HGV.out,hbigd]<;>(intros;omega)))
 have hbigd:¬256<xdat.size:=by have:=HQD.out.2;rw[decide_eq_false_iff_not] at this;exact this
 repeat (go_big_quiet_step (first|(go_at_call 51;rename_i X;exact Calls.ext_of (z0j _ s _ _ (HSV.out.below X.bel) hn1 hn9))|(go_at_call 52;rename_i X;exact Calls.ext_of (z0d _ s _ (HSV.out.below X.bel) ⟨xn,_,xe,xdat⟩ _ _ _ (HEV.out.below X.bel) hmd hle HTX.out))))
 cases xd
 ·skip
  repeat (go_big_quiet_step (first|(go_at_call 51;rename_i X;exact Calls.ext_of (z0j _ s _ _ (HSV.out.below X.bel) hn1 hn9))|(go_at_call 52;rename_i X;exact Calls.ext_of (z0d _ s _ (HSV.out.below X.bel) ⟨xn,_,xe,xdat⟩ _ _ _ (HEV.out.below X.bel) hmd hle HTX.out))))
  cases QE
  ·have hm0:¬0<m2:=by have:=HQE.out.2;rw[decide_eq_false_iff_not] at this;exact this
   have hnil:xe=[]:=List.eq_nil_of_length_eq_zero (by have:=HES.out;omega);have HNIL:=hid hnil;clear hnil
   repeat (go_big_quiet_step (first|(go_at_call 51;rename_i X;exact Calls.ext_of (z0j _ s _ _ (HSV.out.below X.bel) hn1 hn9))|(go_at_call 52;rename_i X;exact Calls.ext_of (z0d _ s _ (HSV.out.below X.bel) ⟨xn,_,xe,xdat⟩ _ _ _ (HEV.out.below X.bel) hmd hle HTX.out))))
   refine wpQuiet_nil ?_;exact HQ.out _ _ _ _ _ _ _ _ _ _ _ _ _ _ _ _ _ _ _ _ _ _ _ _ _ _ _ _ _ _ _ _ _ _ _ _ _ _ _ _ _ _ _ _ _ _ _ _ _ _ _ _ _ (congrArg Value.bool (by rw[←HBD.out];unfold inoBad badNum;rw[HP.out];simp[hnum,HGV.out,hbigd,HNIL.out]<;>(intros;omega)))
  ·have hm0:0<m2:=by have:=HQE.out.2;rw[decide_eq_true_eq] at this;exact this
   have hnn:xe.isEmpty=false:=by
    cases hxe:xe with
    | nil=>have:=HES.out;rw[hxe] at this;exact absurd this.symm (Nat.ne_of_gt hm0)
    | cons a l=>rfl
   have HNN:=hid hnn;clear hnn
   repeat (go_big_quiet_step (first|(go_at_call 51;rename_i X;exact Calls.ext_of (z0j _ s _ _ (HSV.out.below X.bel) hn1 hn9))|(go_at_call 52;rename_i X;exact Calls.ext_of (z0d _ s _ (HSV.out.below X.bel) ⟨xn,_,xe,xdat⟩ _ _ _ (HEV.out.below X.bel) hmd hle HTX.out))))
   refine wpQuiet_nil ?_;exact HQ.out _ _ _ _ _ _ _ _ _ _ _ _ _ _ _ _ _ _ _ _ _ _ _ _ _ _ _ _ _ _ _ _ _ _ _ _ _ _ _ _ _ _ _ _ _ _ _ _ _ _ _ _ _ (congrArg Value.bool (by rw[←HBD.out];unfold inoBad badNum;rw[HP.out];simp[hnum,HGV.out,hbigd,HNN.out]<;>(intros;omega)))
 ·by_cases hs0:xdat.size=0
  ·have ht0:xdat.toList=[]:=by rw[ByteArray.toList_eq];exact List.eq_nil_of_length_eq_zero hs0
   have ht1:xdat.toList.isEmpty=true:=by rw[ht0];rfl
   repeat (go_big_quiet_step (first|(go_at_call 51;rename_i X;exact Calls.ext_of (z0j _ s _ _ (HSV.out.below X.bel) hn1 hn9))|(go_at_call 52;rename_i X;exact Calls.ext_of (z0d _ s _ (HSV.out.below X.bel) ⟨xn,_,xe,xdat⟩ _ _ _ (HEV.out.below X.bel) hmd hle HTX.out))))
   refine wpQuiet_nil ?_;exact HQ.out _ _ _ _ _ _ _ _ _ _ _ _ _ _ _ _ _ _ _ _ _ _ _ _ _ _ _ _ _ _ _ _ _ _ _ _ _ _ _ _ _ _ _ _ _ _ _ _ _ _ _ _ _ (congrArg Value.bool (by rw[←HBD.out];unfold inoBad badNum;rw[HP.out];simp[hnum,HGV.out,hs0]<;>(intros;omega)))
  ·have ht0:¬xdat.toList=[]:=by rw[ByteArray.toList_eq];intro e;apply hs0;exact congrArg List.length e
   have ht1:xdat.toList.isEmpty=false:=by cases hh:xdat.toList.isEmpty;rfl;exact absurd (List.isEmpty_iff.1 hh) ht0
   repeat (go_big_quiet_step (first|(go_at_call 51;rename_i X;exact Calls.ext_of (z0j _ s _ _ (HSV.out.below X.bel) hn1 hn9))|(go_at_call 52;rename_i X;exact Calls.ext_of (z0d _ s _ (HSV.out.below X.bel) ⟨xn,_,xe,xdat⟩ _ _ _ (HEV.out.below X.bel) hmd hle HTX.out))))
   refine wpQuiet_nil ?_;exact HQ.out _ _ _ _ _ _ _ _ _ _ _ _ _ _ _ _ _ _ _ _ _ _ _ _ _ _ _ _ _ _ _ _ _ _ _ _ _ _ _ _ _ _ _ _ _ _ _ _ _ _ _ _ _ (congrArg Value.bool (by rw[←HBD.out];unfold inoBad badNum;rw[HP.out];simp[hnum,HGV.out,hs0]<;>(intros;omega)))
end Go.Proofs.YtkflaifopbodfaaGreatDoor
