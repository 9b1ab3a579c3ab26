/- Parts of the proof, side by side: MoMade, MoEnts, MoEntry, FsLink. -/
import Derived.Test.YtmmpkfcdfcldlaaGreatM16
import Derived.Test.YtmmpkfcdfcldlaaGreatM06
import Derived.Test.YtmmpkfcdfcldlaaGreatM05
import Derived.Test.YtmmpkfcdfcldlaaGreatM03
import Derived.Lib.Bytealg
import Derived.Test.YtmmpkfcdfcldlaaGreatM09
import Derived.Test.YtmmpkfcdfcldlaaGreatM11
set_option linter.unusedVariables false
set_option linter.unusedSimpArgs false
namespace Go.Proofs.YtmmpkfcdfcldlaaGreat
open Lib (hid)
open Go.RowKit
theorem zhi (x:Int) (w:World):Calls Tryz.prog 89 #[.int .i64 x] w fun e w'=>e=.returned (.bool (decide (x<0)||decide (32<x)))∧w=w':=by
 go_enter Tryz.func89,Tryz.ntmps89
 by_cases h1:x<0
 ·have q1:decide (x<0)=true:=decide_eq_true h1;go_wp2_with fail;go_ret;exact⟨by rw[q1];rfl,rfl⟩
 ·have q1:decide (x<0)=false:=decide_eq_false h1;go_wp2_with fail;go_ret;exact⟨by first|rfl|(rw[q1];rfl),rfl⟩
set_option maxRecDepth 100000 in
set_option maxHeartbeats 4000000 in
theorem zb7 (xs:List Int) (A:Option Addr) (n c:Nat) (w:World) (hI:IntsAt none w A n xs) (hn:n≤1099511627776):
  Calls Tryz.prog 131 #[.slice A n c,.func (.func 89) #[] #[]] w fun e w'=>∃r:Int,e=.returned (.int .i64 r)∧w=w'∧(madeG xs=decide (r<0)):=by
 obtain⟨R,hR⟩:∃R,madeG xs=R:=⟨_,rfl⟩;rw[hR];have HI:=hid hI;have HR:=hid hR;clear hI hR
 go_enter Tryz.func131,Tryz.ntmps131
 go_wp2_with fail
 go_loop [8] (fun j=>∃q:Nat,j=.int .i64 q∧q≤n∧madeG (xs.drop q)=R) (fun j=>n-(intOf j).toNat)
 case atStart=>exact⟨0,rfl,by omega,HR.out⟩
 case round=>
  obtain⟨q,rfl,hq,hc⟩:=hrel
  by_cases hlt:q<n
  ·obtain⟨g,off,x,rfl,hg,hx,hd,hmem,c0⟩:=HI.out.get q hlt;rw[hd,madeG] at hc;have HC:=hid hc;have k0:(0:Int)≤(q:Int):=by omega
   clear hc hd hmem hx;go_wp2_with fail;refine(zhi x _).mono ?_;rintro e5 w5 ⟨rfl,rfl⟩;obtain⟨bb,hbb⟩:∃bb,(decide (x<0)||decide (32<x))=bb:=⟨_,rfl⟩;rw[hbb];have hc:=HC.out;cases bb
   ·have hnx:¬(x<0∨32<x):=by
     rw[Bool.or_eq_false_iff,decide_eq_false_iff_not,decide_eq_false_iff_not] at hbb;omega
    rw[if_neg hnx] at hc;have HC2:=hid hc;clear hc hbb;go_wp2_with fail
    go_round
    case rel=>exact⟨q+1,by go_num,by omega,HC2.out⟩
    case measure=>simp[intOf];omega
   ·have hnx:x<0∨32<x:=by
     rw[Bool.or_eq_true,decide_eq_true_eq,decide_eq_true_eq] at hbb;exact hbb
    rw[if_pos hnx] at hc;have HC2:=hid hc;clear hc hbb;go_wp2_with fail;go_ret;refine⟨(q:Int),rfl,rfl,?_⟩;rw[←HC2.out,decide_eq_false (show ¬(q:Int)<0 by omega)]
  ·have hnil:xs.drop q=[]:=List.drop_eq_nil_of_le (by have:=HI.out.1;omega);rw[hnil,madeG] at hc;have HC:=hid hc;clear hc hnil;go_wp2_with fail;go_ret;exact⟨-1,rfl,rfl,HC.out.symm⟩
theorem z7j (xs:List Int) (A:Option Addr) (n c:Nat) (w:World) (hI:IntsAt none w A n xs) (hn:n≤1099511627776):
  Calls Tryz.prog 88 #[.slice A n c,.func (.func 89) #[] #[]] w fun e w'=>e=.returned (.bool (!madeG xs))∧w=w':=by
 go_enter Tryz.func88,Tryz.ntmps88
 go_wp2_with fail;refine(zb7 xs A n c w hI hn).mono ?_;rintro e5 w5 ⟨r,rfl,rfl,hr⟩
 by_cases h0:0≤r
 ·have q0:decide ((0:Int)≤r)=true:=decide_eq_true h0;go_wp2_with fail;go_ret;exact⟨by rw[hr,decide_eq_false (by omega)];rfl,rfl⟩
 ·have q0:decide ((0:Int)≤r)=false:=decide_eq_false h0;go_wp2_with fail;go_ret;exact⟨by rw[hr,decide_eq_true (by omega)];rfl,rfl⟩
def mMadeV (s:St):Bool:=decide (1≤s.made.length)&&decide (s.made.length≤8)&&madeG s.made
set_option maxRecDepth 100000 in
set_option maxHeartbeats 4000000 in
theorem zdg (p:Nat) (s:St) (w:World) (h:PtrAt w p s):
  Calls Tryz.prog 36 #[.pointer (some ⟨p,0,.none⟩)] w fun e w'=>e=.returned (.bool (mMadeV s))∧w=w':=by
 obtain⟨A,n,c,E,m,d,D,k,e,hp,c0,c1,c2,hI,hD,hM,hn,_,hk⟩:=h.val;have hkl:=hM.1
 go_enter Tryz.func36,Tryz.ntmps36
 unfold mMadeV
 by_cases h1:1≤k
 ·by_cases h8:k≤8
  ·have q1:decide ((k:Int)<1)=false:=by rw[decide_eq_false_iff_not];omega
   have q8:decide ((8:Int)<(k:Int))=false:=by rw[decide_eq_false_iff_not];omega
   go_wp2_with fail;refine(z7j s.made D k e _ hM hk).mono ?_;rintro e5 w5 ⟨rfl,rfl⟩;go_wp2_with fail;go_ret;exact⟨by rw[decide_eq_true (show 1≤s.made.length by omega),decide_eq_true (show s.made.length≤8 by omega)];simp,rfl⟩
  ·have q1:decide ((k:Int)<1)=false:=by rw[decide_eq_false_iff_not];omega
   have q8:decide ((8:Int)<(k:Int))=true:=by rw[decide_eq_true_eq];omega
   go_wp2_with fail;go_ret;exact⟨by rw[decide_eq_false (show ¬s.made.length≤8 by omega)];simp,rfl⟩
 ·have q1:decide ((k:Int)<1)=true:=by rw[decide_eq_true_eq];omega
  go_wp2_with fail;go_ret;exact⟨by rw[decide_eq_false (show ¬1≤s.made.length by omega)];simp,rfl⟩
theorem zj8 (num:Int) (h1: -9223372036854775808≤num) (h2:num≤9223372036854775807) (w:World):
  Calls Tryz.prog 132 #[.int .i64 num] w fun e w'=>e=.returned (.int .i64 (if num<2 then -1 else(num-2)%8))∧w=w':=by
 go_enter Tryz.func132,Tryz.ntmps132
 by_cases h:num<2
 ·have q:decide (num<2)=true:=decide_eq_true h;rw[if_pos h];go_wp2_with fail;go_ret;exact⟨rfl,rfl⟩
 ·have q:decide (num<2)=false:=decide_eq_false h;rw[if_neg h];have e1:(num-2).tmod 8=(num-2)%8:=Int.tmod_eq_emod_of_nonneg (by omega);have w1:IntKind.i64.wrap (num-2)=num-2:=by rw[IntKind.wrap_i64];omega
  have w2:IntKind.i64.wrap ((num-2)%8)=(num-2)%8:=by rw[IntKind.wrap_i64];omega
  go_wp2_with fail;go_ret;exact⟨rfl,rfl⟩
theorem zj9 (num:Int) (h1:2≤num) (h2:num≤9223372036854775807) (w:World):
  Calls Tryz.prog 133 #[.int .i64 num] w fun e w'=>e=.returned (.int .i64 ((num-2) / 8))∧w=w':=by
 go_enter Tryz.func133,Tryz.ntmps133
 have e1:(num-2).tdiv 8=(num-2) / 8:=Int.tdiv_eq_ediv_of_nonneg (by omega);have w1:IntKind.i64.wrap (num-2)=num-2:=by rw[IntKind.wrap_i64];omega
 have w2:IntKind.i64.wrap ((num-2) / 8)=(num-2) / 8:=by rw[IntKind.wrap_i64];omega
 go_wp2_with fail;go_ret;exact⟨rfl,rfl⟩
theorem z7e:∀(a b:List UInt8),Op.bytesLess a b=ltB a b
 | [],[]=>rfl
 | [],_::_=>rfl
 | _::_,[]=>rfl
 | a :: al, b :: bl => by
  unfold Op.bytesLess ltB;rw[z7e al bl]
  by_cases h:a=b
  ·subst h;rw[if_pos rfl];simp
  ·rw[if_neg h];have:(a==b)=false:=by rw[beq_eq_false_iff_ne];exact h
   simp[this]
theorem z5f (s:ByteArray) (w:World) (hs:s.size≤maxLen):
  Calls Tryz.prog 135 #[.string s] w fun e w'=>e=.returned (.int .i64 ((bktB s:Nat):Int))∧Below w.heap.size w w':=by
 have h1:hashL s.data.toList%8<8:=Nat.mod_lt _ (by omega);obtain⟨H,hH⟩:∃H,hashL s.data.toList=H:=⟨_,rfl⟩;have hb:bktB s=H%8:=by unfold bktB;rw[hH]
 rw[hb]
 go_enter Tryz.func135,Tryz.ntmps135
 go_wp2_with fail;refine(zj5 s _ hs).mono ?_;rintro e w1 ⟨rfl,hbl⟩;rw[hH];have e1:(H:Int).tmod 8=((H%8:Nat):Int):=rfl;go_wp2_with fail;go_ret;exact⟨by first|rfl|simp,hbl⟩
set_option maxRecDepth 100000 in
set_option maxHeartbeats 4000000 in
theorem zfu (p:Nat) (s:St) (num:Int) (w:World) (h:PtrAt w p s) (h1: -9223372036854775808≤num) (h2:num≤9223372036854775807):
  Calls Tryz.prog 90 #[.pointer (some ⟨p,0,.none⟩),.int .i64 num] w fun e w'=>e=.returned (.bool (givenV s.made num))∧Below w.heap.size w w':=by
 obtain⟨A,n,c,E,m,d,D,k,e,hp,c0,c1,c2,hI,hD,hM,hn,_,hk⟩:=h.val;have hkl:=hM.1;obtain⟨R,hR⟩:∃R,givenV s.made num=R:=⟨_,rfl⟩;rw[hR];unfold givenV at hR;have hX:=@Ext.cell w
 go_enter Tryz.func90,Tryz.ntmps90
 go_wp2_with fail;refine(zj8 num h1 h2 _).mono ?_;rintro e1 w1 ⟨rfl,rfl⟩
 by_cases hnum:num<2
 ·rw[if_pos hnum] at hR ⊢;subst hR;go_wp2_with fail;refine wre ?_
  repeat (go_big_quiet_step (fail))
  refine wpQuiet_nil ?_;rintro w7 ⟨X,rfl⟩;go_wp2_with fail;go_ret;exact⟨rfl,X.bel⟩
 ·rw[if_neg hnum] at hR ⊢;obtain⟨C,hC⟩:∃C:Nat,(num-2)%8=(C:Int):=⟨((num-2)%8).toNat,by omega⟩;obtain⟨Q,hQ⟩:∃Q:Int,(num-2) / 8=Q:=⟨_,rfl⟩;rw[hC,hQ,Int.toNat_natCast] at hR;rw[hC];have q0:decide ((0:Int)≤(C:Int))=true:=by rw[decide_eq_true_eq];omega
  by_cases hlt:C<k
  ·have q1:decide ((C:Int)<(k:Int))=true:=by rw[decide_eq_true_eq];omega
   obtain⟨g,off,x,rfl,hg,hx,hd,hmem,cx⟩:=hM.get C hlt;have hgd:s.made.getD C 0=x:=by rw[List.getD_eq_getElem?_getD,hx];rfl
   rw[hgd,decide_eq_true (show(C:Int)<(s.made.length:Int) by omega),Bool.true_and] at hR;subst hR;have k0:(0:Int)≤(C:Int):=by omega
   have k1:(C:Int)<(k:Int):=by omega
   clear hd hx hmem hgd hI hD hM;go_wp2_with fail;refine wre ?_
   repeat (go_big_quiet_step (first|(go_at_call 133;exact Calls.ext_of_same (by have:=zj9 num (by omega) h2;rw[hQ] at this;exact this _))))
   refine wpQuiet_nil ?_;rintro w7 ⟨X,rfl⟩;go_wp2_with fail;go_ret;exact⟨rfl,X.bel⟩
  ·have q1:decide ((C:Int)<(k:Int))=false:=by rw[decide_eq_false_iff_not];omega
   rw[decide_eq_false (show ¬(C:Int)<(s.made.length:Int) by omega),Bool.false_and] at hR;subst hR;go_wp2_with fail;refine wre ?_
   repeat (go_big_quiet_step (fail))
   refine wpQuiet_nil ?_;rintro w7 ⟨X,rfl⟩;go_wp2_with fail;go_ret;exact⟨rfl,X.bel⟩
def ManyT (w:World) (M:Nat) (f:Nat→Nat):Prop:=∃(cur:Array Value) (t:TypeId),w.heap[M]? =some (.cells cur t (0,0))∧∀j,j<8→cur[j]? =some (.int .i64 (f j:Nat))
theorem ManyT.lt {w:World} {M:Nat} {f:Nat→Nat} (h:ManyT w M f):M<w.heap.size:=by
 obtain⟨cur,t,hh,_⟩:=h;exact(Array.getElem?_eq_some_iff.1 hh).1
theorem ManyT.below {w w':World} {M:Nat} {f:Nat→Nat} (h:ManyT w M f) (hb:Below w.heap.size w w'):ManyT w' M f:=by
 have hl:=h.lt;obtain⟨cur,t,hh,hc⟩:=h;exact⟨cur,t,(hb.block M hl).trans hh,hc⟩
theorem ManyT.get {w:World} {M:Nat} {f:Nat→Nat} (h:ManyT w M f) (j:Nat) (hj:j<8):w.cell? ⟨M,j,.none⟩=some (.int .i64 (f j:Nat))∧w.frozen? ⟨M,j,.none⟩=false:=by
 obtain⟨cur,t,hh,hc⟩:=h;exact⟨by rw[cell_of_row w M j cur _ (0,0) hh];exact hc j hj,frozen_of_row w M j cur _ hh⟩
theorem ManyT.set {w:World} {M:Nat} {f:Nat→Nat} (h:ManyT w M f) (b:Nat) (hb:b<8):ManyT (w.setCell ⟨M,b,.none⟩ (.int .i64 ((f b:Int)+1))) M (fun j=>if j=b then f j+1 else f j):=by
 obtain⟨cur,t,hh,hc⟩:=h;refine⟨_,t,heap_setCell_same w M b cur _ _ hh,fun j hj=>?_⟩;rw[Array.getElem?_setIfInBounds]
 by_cases e:b=j
 ·subst e;have:b<cur.size:=(Array.getElem?_eq_some_iff.1 (hc b hb)).1;simp[this]
 ·have e2:¬j=b:=fun h=>e h.symm
  simp only[e,e2,if_false];exact hc j hj
theorem zja (w:World) (t:TypeId):∃W,w.alloc (.cells #[.int .i64 0,.int .i64 0,.int .i64 0,.int .i64 0,.int .i64 0,.int .i64 0,.int .i64 0,.int .i64 0] t)=W∧ManyT W w.heap.size (fun _=>0)∧Below w.heap.size w W:=by
 refine⟨_,rfl,⟨_,t,heap_alloc_new w _,fun j hj=>?_⟩,(Below.refl _ _).alloc (Nat.le_refl _) _⟩;have:j=0∨j=1∨j=2∨j=3∨j=4∨j=5∨j=6∨j=7:=by omega
 rcases this with h|h|h|h|h|h|h|h<;>subst h<;>rfl
def cmpV (a b:ByteArray):Int:=Lib.compareBytes a.data.toList b.data.toList
theorem zhj:∀(a b:List UInt8),Lib.compareBytes a b<0↔ltB a b=true
 | [],[]=>by simp[Lib.compareBytes,ltB]
 | [],_::_=>by simp[Lib.compareBytes,ltB]
 | _::_,[]=>by simp[Lib.compareBytes,ltB]
 | a :: al, b :: bl => by
  unfold Lib.compareBytes ltB
  by_cases h1:a<b
  ·have:a≠b:=fun e=>by subst e;exact absurd h1 (UInt8.lt_irrefl _)
   rw[if_pos h1,if_neg this];simp[h1]
  ·rw[if_neg h1]
   by_cases h2:b<a
   ·have:a≠b:=fun e=>by subst e;exact absurd h2 (UInt8.lt_irrefl _)
    rw[if_pos h2,if_neg this];simp[h1]
   ·have:a=b:=UInt8.le_antisymm (UInt8.not_lt.1 h2) (UInt8.not_lt.1 h1);rw[if_neg h2,if_pos this];exact zhj al bl
theorem zem:∀(a b:List UInt8),Lib.compareBytes a b=0↔a=b
 | [],[]=>by simp[Lib.compareBytes]
 | [],_::_=>by simp[Lib.compareBytes]
 | _::_,[]=>by simp[Lib.compareBytes]
 | a :: al, b :: bl => by
  unfold Lib.compareBytes
  by_cases h1:a<b
  ·have:a≠b:=fun e=>by subst e;exact absurd h1 (UInt8.lt_irrefl _)
   rw[if_pos h1];simp[this]
  ·rw[if_neg h1]
   by_cases h2:b<a
   ·have:a≠b:=fun e=>by subst e;exact absurd h2 (UInt8.lt_irrefl _)
    rw[if_pos h2];simp[this]
   ·have:a=b:=UInt8.le_antisymm (UInt8.not_lt.1 h2) (UInt8.not_lt.1 h1);rw[if_neg h2,this,zem al bl];simp
theorem zhk (a b:ByteArray):cmpV a b<0↔ltN a b=true:=zhj _ _
theorem zhl (a b:ByteArray):cmpV a b=0↔a=b:=by
 unfold cmpV;rw[zem]
 constructor
 ·intro h;cases a;cases b;exact congrArg ByteArray.mk (Array.toList_inj.1 h)
 ·intro h;rw[h]
theorem zc2:∀(a b c:List UInt8),ltB a b=true→ltB b c=true→ltB a c=true
 | [],[],_,h,_=>by simp[ltB] at h
 | [],_::_,[],_,h=>by simp[ltB] at h
 | [],_::_,_::_,_,_=>rfl
 | _::_,[],_,h,_=>by simp[ltB] at h
 | _::_,_::_,[],_,h=>by simp[ltB] at h
 | a :: al, b :: bl, c :: cl, h1, h2 => by
  unfold ltB at h1 h2 ⊢
  by_cases e1:a=b
  ·subst e1;rw[if_pos rfl] at h1
   by_cases e2:a=c
   ·subst e2;rw[if_pos rfl] at h2 ⊢;exact zc2 al bl cl h1 h2
   ·rw[if_neg e2] at h2 ⊢;exact h2
  ·rw[if_neg e1,decide_eq_true_eq] at h1
   by_cases e2:b=c
   ·subst e2;rw[if_neg e1,decide_eq_true_eq];exact h1
   ·rw[if_neg e2,decide_eq_true_eq] at h2;have h3:=UInt8.lt_trans h1 h2;have e3:a≠c:=fun e=>by subst e;exact absurd h3 (UInt8.lt_irrefl _)
    rw[if_neg e3,decide_eq_true_eq];exact h3
theorem z5v {a b c:ByteArray} (h1:ltN a b=true) (h2:ltN b c=true):ltN a c=true:=zc2 _ _ _ h1 h2
def RiseE (es:List En):Prop:=∀(i j:Nat) (x y:En),i<j→es[i]? =some x→es[j]? =some y→ltN x.name y.name=true
structure EnPos (es:List En) (nm:ByteArray) (i:Nat) (b:Bool):Prop where
 le:i≤es.length
 lo:∀(k:Nat) (x:En),k<i→es[k]? =some x→ltN x.name nm=true
 hi:∀(k:Nat) (x:En),i≤k→es[k]? =some x→ltN x.name nm=false
 is_:b=true→∃e,es[i]? =some e∧e.name=nm
 of_:(∃e,es[i]? =some e∧e.name=nm)→b=true
theorem zdh (a b:ByteArray) (w:World):Calls Tryz.prog 143 #[.string a,.string b] w fun e w'=>e=.returned (.int .i64 (cmpV a b))∧w=w':=by
 have hx:∀w,(callFunc 158 #[.string a,.string b]).run Tryz.prog w=.ok (.value (.int .i64 (cmpV a b))) w:=fun w=>by
  rw[run_callFunc_extern Tryz.func158 (by kernel_rfl) (by kernel_rfl) (by kernel_rfl) (e:=Extern.BytealgCompare.compare) (by kernel_rfl),Lib.run_compareString]
  rfl
 go_enter Tryz.func143,Tryz.ntmps143
 go_wp2
 go_ret;exact⟨rfl,rfl⟩
theorem zen (name:ByteArray) (num:Int) (nm:ByteArray) (w:World):
  Calls Tryz.prog 142 #[.agg #[.string name,.int .i64 num],.string nm] w fun e w'=>e=.returned (.int .i64 (cmpV name nm))∧Below w.heap.size w w':=by
 go_enter Tryz.func142,Tryz.ntmps142
 go_wp2_with fail;refine(zdh name nm _).mono ?_;rintro e w1 ⟨rfl,rfl⟩;go_wp2_with fail;go_ret;exact⟨rfl,(Below.refl _ _).alloc (Nat.le_refl _) _⟩
set_option maxRecDepth 100000 in
set_option maxHeartbeats 4000000 in
theorem zc3 (es:List En) (A:Option Addr) (n c:Nat) (nm:ByteArray) (w:World) (hI:EntsAt none w A n es) (hn:n≤1099511627776) (hr:RiseE es):
  Calls Tryz.prog 141 #[.slice A n c,.string nm,.func (.func 142) #[] #[]] w fun e w'=>∃i b,e=.returned (.tuple #[.int .i64 (i:Nat),.bool b])∧Below w.heap.size w w'∧EnPos es nm i b:=by
 have HI:=hid hI
 go_enter Tryz.func141,Tryz.ntmps141
 clear hI;go_wp2_with fail
 go_loopw [9,10] (fun iv jv wr=>∃i j:Nat,iv=.int .i64 i∧jv=.int .i64 j∧i≤j∧j≤n∧(∀(k:Nat) (x:En),k<i→es[k]? =some x→ltN x.name nm=true)∧(∀(k:Nat) (x:En),j≤k→es[k]? =some x→ltN x.name nm=false)∧Below w.heap.size w wr) (fun iv jv _=>(intOf jv).toNat-(intOf iv).toNat)
 case atStart=>exact⟨0,n,rfl,rfl,by omega,by omega,fun k x hk=>by omega,fun k x hk hx=>by have:=(List.getElem?_eq_some_iff.1 hx).1;have:=HI.out.1;omega,Below.refl _ _⟩
 case round =>
  obtain⟨i,j,rfl,rfl,hij,hjn,hlo,hhi,hbel⟩:=hrel;have HB:=hid hbel;have HIr:=hid (HI.out.below hbel);have HLO:=hid hlo;have HHI:=hid hhi;clear hbel hlo hhi
  by_cases hlt:i<j
  ·obtain⟨h,hh⟩:∃h,(i+j) / 2=h:=⟨_,rfl⟩;have hh1:i≤h:=by omega
   have hh2:h<j:=by omega
   obtain⟨g,off,x,rfl,hg,hx,hd,hmem,c0,c1⟩:=HIr.out.get h (by omega);have HHH:=hid hh;have hx2:es[h]? =some x:=hx;have HX:=hid hx2;have HRR:=hid hr;have HHH2:Hid (h<j):=hid hh2;clear hx2;go_wp2_with fail;refine(zen x.name x.num nm _).mono ?_;rintro e5 w5 ⟨rfl,hb5⟩;have e2:((i:Int)+(j:Int)) / 2=(h:Int):=by have:=HHH.out;omega
   rw[e2];have HB5:=hid (HB.out.trans (hb5.mono HB.out.size));clear hb5 c0 c1
   by_cases hc:ltN x.name nm=true
   ·have q1:decide (cmpV x.name nm<0)=true:=by rw[decide_eq_true_eq];exact(zhk _ _).2 hc
    go_wp2_with fail;go_roundw
    case rel=>exact⟨h+1,j,by go_num,rfl,by omega,hjn,fun k y hk hy=>by
     by_cases e:k=h
     ·subst e;have:=HX.out;rw[hy] at this;cases this;exact hc
     ·exact z5v (HRR.out k h y x (by omega) hy HX.out) hc,HHI.out,HB5.out⟩
    case measure=>simp[intOf];omega
   ·have q1:decide (cmpV x.name nm<0)=false:=by rw[decide_eq_false_iff_not];exact fun h=>hc ((zhk _ _).1 h)
    go_wp2_with fail;go_roundw
    case rel=>exact⟨i,h,rfl,rfl,hh1,by omega,HLO.out,fun k y hk hy=>by
     by_cases e:k=h
     ·subst e;have:=HX.out;rw[hy] at this;have e9:y=x:=Option.some.inj this;rw[e9];exact Bool.eq_false_iff.2 hc
     ·cases hv:ltN y.name nm
      ·rfl
      ·exact absurd (z5v (HRR.out h k x y (by omega) HX.out hy) hv) hc,HB5.out⟩
    case measure=>simp[intOf];omega
  ·have eij:j=i:=by omega
   subst eij
   by_cases hin:j<n
   ·obtain⟨g,off,x,rfl,hg,hx,hd,hmem,c0,c1⟩:=HIr.out.get j hin;have HX:=hid hx;have HRR:=hid hr;go_wp2_with fail;refine(zen x.name x.num nm _).mono ?_;rintro e5 w5 ⟨rfl,hb5⟩;have HB5:=hid (HB.out.trans (hb5.mono HB.out.size));clear hb5 c0 c1
    by_cases hc:x.name=nm
    ·have q1:cmpV x.name nm=0:=(zhl _ _).2 hc;rw[q1];clear q1;go_wp2_with fail;go_ret2;exact⟨j,true,rfl,HB5.out,by have:=HIr.out.1;omega,HLO.out,HHI.out,fun _=>⟨x,HX.out,hc⟩,fun _=>rfl⟩
    ·have q1:(cmpV x.name nm==0)=false:=by rw[beq_eq_false_iff_ne];exact fun h=>hc ((zhl _ _).1 h)
     go_wp2_with fail;go_ret2;refine⟨j,false,rfl,HB5.out,by have:=HIr.out.1;omega,HLO.out,HHI.out,(fun h=>by cases h),fun h=>?_⟩;obtain⟨e,he,hen⟩:=h;rw[HX.out] at he;cases he;exact absurd hen hc
   ·have q1:decide ((j:Int)<(n:Int))=false:=by rw[decide_eq_false_iff_not];omega
    clear hlt;go_wp2_with fail;go_ret2;refine⟨j,false,rfl,HB.out,by have:=HIr.out.1;omega,HLO.out,HHI.out,(fun h=>by cases h),fun h=>?_⟩;obtain⟨e,he,_⟩:=h;have h1:=(List.getElem?_eq_some_iff.1 he).1;have h2:=HIr.out.1;omega
theorem z1x (es:List En) (A:Option Addr) (n c:Nat) (nm:ByteArray) (w:World) (hI:EntsAt none w A n es) (hn:n≤1099511627776) (hr:RiseE es):
  Calls Tryz.prog 102 #[.slice A n c,.string nm] w fun e w'=>∃i b,e=.returned (.tuple #[.int .i64 (i:Nat),.bool b])∧Below w.heap.size w w'∧EnPos es nm i b:=by
 go_enter Tryz.func102,Tryz.ntmps102
 go_wp2_with fail;refine(zc3 es A n c nm _ hI hn hr).mono ?_;rintro e w1 ⟨i,b,rfl,hb,hp⟩;go_wp2_with fail;go_ret2;exact⟨i,b,rfl,hb,hp⟩
set_option maxRecDepth 100000 in
set_option maxHeartbeats 16000000 in
theorem zjb (B p:Nat) (s:St) (c:Ca) (w:World) (h:Own B w p s) (hB:B≤w.heap.size) (hw:Whole s.inos) (hpz:c.path.size≤140737488355328) (hpz2:c.path2.size≤140737488355328) (hns:(parentV s.inos c.path2).2.1.size≤140737488355328)
  (hz:Sized (linkV s c).1):
  Calls Tryz.prog 128 #[.pointer (some ⟨p,0,.none⟩),caV c] w fun e w'=>e=.returned (resV (linkV s c).2)∧Own B w' p (linkV s c).1∧Below B w w'∧Aside p w w':=by
 obtain⟨LV,hLV⟩:∃LV,linkV s c=LV:=⟨_,rfl⟩;obtain⟨⟨N1,C1⟩,hFI⟩:∃x,findV s.inos c.path=x:=⟨_,rfl⟩;obtain⟨⟨DR,NM,C2⟩,hPA⟩:∃x,parentV s.inos c.path2=x:=⟨_,rfl⟩;have hat0:=z7o hw c.path;have hdr0:=z3d s.inos c.path2;rw[hLV] at hz ⊢;unfold linkV at hLV;rw[hFI] at hLV hat0;rw[hPA] at hLV hns hdr0;dsimp only at hLV hns hat0 hdr0;obtain⟨W,W2,hW,hW2,hsz1,hfr⟩:=Fr.start h hB c;have HF:=hid hfr;clear h hfr;obtain⟨A,n,cp,E,m,d,D,k,e,hp,hcl,p0,p1,p2,pf,hst,hI,hn,c0,c1,c2,c3,c4,c5,c6,c7⟩:=HF.out.vals;have HST:=hid hst;have HI:=hid hI;clear hst hI pf;have HLV:=hid hLV;have HFI:=hid hFI;have HPA:=hid hPA;have HW:=hid hw;have HZ:=hid hz;have HAT0:=hid hat0;have HDR0:=hid hdr0;clear hLV hFI hPA hw hz hat0 hdr0;unfold caV
 go_enter Tryz.func128,Tryz.ntmps128
 go_wp2_with fail;clear hW hW2;have hX:=@Ext.cell W2;refine wre ?_
 repeat (go_big_quiet_step (first|(go_at_call 22;rename_i X;exact Calls.ext_of (by have:=z5s _ s c.path _ (HST.out.below X.bel) HW.out hpz;rw[HFI.out] at this;dsimp only at this;exact this))))
 refine wpQuiet_nil ?_;rintro w7 ⟨X,rfl⟩;generalize hZe:X.w=Z1;have hZ2:=hZe▸X.bel;have HF1:=hid (HF.out.below hZ2);clear hZe X hX hZ2;clear p0 p1 p2 c0 c1 c2 c3 c4 c5 c6 c7;obtain⟨A1,n1,cp1,E1,m1,d1,D1,k1,e1,hp1,hcl1,p01,p11,p21,pf1,hst1,hI1,hn1,c01,c11,c21,c31,c41,c51,c61,c71⟩:=HF1.out.vals;have HST1:=hid hst1;have HI1:=hid hI1;clear hst1 hI1 pf1
 by_cases hcd:C1=0
 rotate_left
 ·have q0:(C1==0)=false:=by rw[beq_eq_false_iff_ne];exact hcd
  have q1:(C1 != 0)=true:=by rw[bne_iff_ne];exact hcd
  have hr:=HLV.out;rw[if_pos hcd] at hr;have HR9:=hid hr;clear hr hcd;go_wp2_with fail;have hX:=@Ext.cell Z1;refine wre ?_
  repeat (go_big_quiet_step (fail))
  refine wpQuiet_nil ?_;rintro w7 ⟨X,rfl⟩;generalize hZe:X.w=Z2;have hZ2:=hZe▸X.bel;have HF2:=hid (HF1.out.below hZ2);clear hZe X hX hZ2;clear p01 p11 p21 c01 c11 c21 c31 c41 c51 c61 c71;go_wp2_with fail;refine(z0d C1 _).mono ?_;rintro e10 w10 ⟨rfl,hb10⟩;obtain⟨g0,g1',g2',g3,g4,g5,gf,W9,hW9,HR5,HOF,HBF,HAS⟩:=HF2.out.fin hb10 (.int .i64 C1) (.int .i64 0) (.int .i64 0) (.bool false) (.string ⟨#[]⟩) (.slice none 0 0);clear hb10;go_wp2_with fail
  (try simp only[Exit.inBlock,Exit.then])
  refine z0e rfl HR5.out rfl rfl ?_;exact⟨by rw[←HR9.out];rfl,by rw[←HR9.out];exact HOF.out,HBF.out,HAS.out⟩
 ·subst hcd;have hlv:=HLV.out;rw[if_neg (by decide)] at hlv;obtain⟨i,x,hat,hx,hxn⟩:=z0q (HAT0.out rfl);have hda:dirAt s.inos N1=x.dir:=by unfold dirAt;rw[hat,z0c,hx]
  rw[hda] at hlv;have hin:i<n1:=by have:=(List.getElem?_eq_some_iff.1 hx).1;have:=HI1.out.1;omega
  obtain⟨g,og,x',E3,m3,d3,hA1,hg,hx',_,hmem,e0,e1,e2,_,_,e3⟩:=HI1.out.get i hin;subst hA1;have ex:x'=x:=by rw[hx] at hx';exact(Option.some.inj hx').symm
  subst ex;have i0:(0:Int)≤(i:Int):=by omega
  have i1:(i:Int)<(n1:Int):=by omega
  have HLV2:=hid hlv;have HAT:=hid hat;obtain⟨DX,hDX⟩:∃DX,x'.dir=DX:=⟨_,rfl⟩;rw[hDX] at e1 HLV2;clear hlv hat hx hx' hmem hda hDX;cases DX
  ·have hr:=HLV2.out;rw[if_neg (by decide)] at hr;have HR9:=hid hr;clear hr;go_wp2_with fail;have hX:=@Ext.cell Z1;refine wre ?_
   repeat (go_big_quiet_step (first|(go_at_call 94;rename_i X;exact Calls.ext_of (by have:=z0o _ s N1 _ (HST1.out.below X.bel);rw[HAT.out] at this;exact this))))
   refine wpQuiet_nil ?_;rintro w7 ⟨X,rfl⟩;generalize hZe:X.w=Z2;have hZ2:=hZe▸X.bel;have HF2:=hid (HF1.out.below hZ2);clear hZe X hX hZ2;clear p01 p11 p21 c01 c11 c21 c31 c41 c51 c61 c71;clear e0 e1 e2 e3;obtain⟨A2,n2,cp2,E2,m2,d2,D2,k2,e2,hp2,hcl2,p02,p12,p22,pf2,hst2,hI2,hn2,c02,c12,c22,c32,c42,c52,c62,c72⟩:=HF2.out.vals;have HST2:=hid hst2;have HI2:=hid hI2;clear hst2 hI2 pf2;go_wp2_with fail;have hX:=@Ext.cell Z2;refine wre ?_
   repeat (go_big_quiet_step (first|(go_at_call 121;rename_i X;exact Calls.ext_of (by have:=z2k _ s c.path2 _ (HST2.out.below X.bel) HW.out hpz2;rw[HPA.out] at this;dsimp only at this;exact this))))
   refine wpQuiet_nil ?_;rintro w7 ⟨X,rfl⟩;generalize hZe:X.w=Z3;have hZ2:=hZe▸X.bel;have HF3:=hid (HF2.out.below hZ2);clear hZe X hX hZ2;clear p02 p12 p22 c02 c12 c22 c32 c42 c52 c62 c72;obtain⟨A3,n3,cp3,E3,m3,d3,D3,k3,e3,hp3,hcl3,p03,p13,p23,pf3,hst3,hI3,hn3,c03,c13,c23,c33,c43,c53,c63,c73⟩:=HF3.out.vals;have HST3:=hid hst3;have HI3:=hid hI3;clear hst3 hI3 pf3
   by_cases hc2:C2=0
   rotate_left
   ·have q1:(C2 != 0)=true:=by rw[bne_iff_ne];exact hc2
    have hr:=HR9.out;rw[if_pos hc2] at hr;have HR8:=hid hr;clear hr hc2;go_wp2_with fail;refine(z0d C2 _).mono ?_;rintro e10 w10 ⟨rfl,hb10⟩;obtain⟨g0,g1',g2',g3,g4,g5,gf,W9,hW9,HR5,HOF,HBF,HAS⟩:=HF3.out.fin hb10 (.int .i64 C2) (.int .i64 0) (.int .i64 0) (.bool false) (.string ⟨#[]⟩) (.slice none 0 0);clear hb10;go_wp2_with fail
    (try simp only[Exit.inBlock,Exit.then])
    refine z0e rfl HR5.out rfl rfl ?_;exact⟨by rw[←HR8.out];rfl,by rw[←HR8.out];exact HOF.out,HBF.out,HAS.out⟩
   ·subst hc2;have hdr:=HDR0.out rfl;have hr:=HR9.out;rw[if_neg (by decide)] at hr;obtain⟨EV,hEV⟩:∃EV,entV s.inos DR NM=EV:=⟨_,rfl⟩;obtain⟨FV,hFV⟩:∃FV,fullV s.inos DR NM (txt [])=FV:=⟨_,rfl⟩;rw[hEV,hFV] at hr;have HR8:=hid hr;have HEV:=hid hEV;have HFV:Hid (fullV s.inos DR NM ⟨#[]⟩=FV):=hid hFV;clear hr hEV hFV;go_wp2_with fail;refine(z1n _ s DR NM _ HST3.out).mono ?_;rintro ex Z4 ⟨rfl,hbx⟩;have HF4:=hid (HF3.out.below hbx);clear hbx;clear p03 p13 p23 c03 c13 c23 c33 c43 c53 c63 c73;obtain⟨A4,n4,cp4,E4,m4,d4,D4,k4,e4,hp4,hcl4,p04,p14,p24,pf4,hst4,hI4,hn4,c04,c14,c24,c34,c44,c54,c64,c74⟩:=HF4.out.vals;have HST4:=hid hst4;have HI4:=hid hI4;clear hst4 hI4 pf4;rw[HEV.out]
    by_cases hev:EV=0
    rotate_left
    ·have q1:(EV != 0)=true:=by rw[bne_iff_ne];exact hev
     have hr:=HR8.out;rw[if_pos hev] at hr;have HR7:=hid hr;clear hr hev;go_wp2_with fail;refine(z0d 2 _).mono ?_;rintro e10 w10 ⟨rfl,hb10⟩;obtain⟨g0,g1',g2',g3,g4,g5,gf,W9,hW9,HR5,HOF,HBF,HAS⟩:=HF4.out.fin hb10 (.int .i64 2) (.int .i64 0) (.int .i64 0) (.bool false) (.string ⟨#[]⟩) (.slice none 0 0);clear hb10;go_wp2_with fail
     (try simp only[Exit.inBlock,Exit.then])
     refine z0e rfl HR5.out rfl rfl ?_;exact⟨by rw[←HR7.out];rfl,by rw[←HR7.out];exact HOF.out,HBF.out,HAS.out⟩
    ·subst hev;have hr:=HR8.out;rw[if_neg (by simp)] at hr;have HR7:=hid hr;clear hr;go_wp2_with fail;refine(z4o _ s DR NM ⟨#[]⟩ _ HST4.out hdr hns).mono ?_;rintro ex Z5 ⟨rfl,hbx⟩;have HF5:=hid (HF4.out.below hbx);clear hbx;clear p04 p14 p24 c04 c14 c24 c34 c44 c54 c64 c74;obtain⟨A5,n5,cp5,E5,m5,d5,D5,k5,e5,hp5,hcl5,p05,p15,p25,pf5,hst5,hI5,hn5,c05,c15,c25,c35,c45,c55,c65,c75⟩:=HF5.out.vals;have HST5:=hid hst5;have HI5:=hid hI5;clear hst5 hI5 pf5;rw[HFV.out];cases FV
     ·have hr:=HR7.out;rw[if_neg (by decide)] at hr;have HR6:=hid hr;have hzz:=HZ.out;rw[←hr] at hzz;have HZZ:=hid hzz;clear hr hzz;go_wp2_with fail;refine(z6i B p s DR NM N1 Z5 HF5.out.own (by have:=HF5.out.size;omega) hdr hns HZZ.out).mono ?_;rintro ex Z6 ⟨rfl,hox,hbx,hax⟩;have HF6:=hid (HF5.out.step hox hbx hax);clear hox hbx hax;clear p05 p15 p25 c05 c15 c25 c35 c45 c55 c65 c75;go_wp2_with fail;refine(z0d 0 _).mono ?_;rintro e10 w10 ⟨rfl,hb10⟩;obtain⟨g0,g1',g2',g3,g4,g5,gf,W9,hW9,HR5,HOF,HBF,HAS⟩:=HF6.out.fin hb10 (.int .i64 0) (.int .i64 0) (.int .i64 0) (.bool false) (.string ⟨#[]⟩) (.slice none 0 0);clear hb10;go_wp2_with fail
      (try simp only[Exit.inBlock,Exit.then])
      refine z0e rfl HR5.out rfl rfl ?_;exact⟨by rw[←HR6.out];rfl,by rw[←HR6.out];exact HOF.out,HBF.out,HAS.out⟩
     ·have hr:=HR7.out;rw[if_pos rfl] at hr;have HR6:=hid hr;clear hr;go_wp2_with fail;refine(z0d 5 _).mono ?_;rintro e10 w10 ⟨rfl,hb10⟩;obtain⟨g0,g1',g2',g3,g4,g5,gf,W9,hW9,HR5,HOF,HBF,HAS⟩:=HF5.out.fin hb10 (.int .i64 5) (.int .i64 0) (.int .i64 0) (.bool false) (.string ⟨#[]⟩) (.slice none 0 0);clear hb10;go_wp2_with fail
      (try simp only[Exit.inBlock,Exit.then])
      refine z0e rfl HR5.out rfl rfl ?_;exact⟨by rw[←HR6.out];rfl,by rw[←HR6.out];exact HOF.out,HBF.out,HAS.out⟩
  ·have hr:=HLV2.out;rw[if_pos rfl] at hr;have HR9:=hid hr;clear hr;go_wp2_with fail;have hX:=@Ext.cell Z1;refine wre ?_
   repeat (go_big_quiet_step (first|(go_at_call 94;rename_i X;exact Calls.ext_of (by have:=z0o _ s N1 _ (HST1.out.below X.bel);rw[HAT.out] at this;exact this))))
   refine wpQuiet_nil ?_;rintro w7 ⟨X,rfl⟩;generalize hZe:X.w=Z2;have hZ2:=hZe▸X.bel;have HF2:=hid (HF1.out.below hZ2);clear hZe X hX hZ2;clear p01 p11 p21 c01 c11 c21 c31 c41 c51 c61 c71;clear e0 e1 e2 e3;go_wp2_with fail;refine(z0d 8 _).mono ?_;rintro e10 w10 ⟨rfl,hb10⟩;obtain⟨g0,g1',g2',g3,g4,g5,gf,W9,hW9,HR5,HOF,HBF,HAS⟩:=HF2.out.fin hb10 (.int .i64 8) (.int .i64 0) (.int .i64 0) (.bool false) (.string ⟨#[]⟩) (.slice none 0 0);clear hb10;go_wp2_with fail
   (try simp only[Exit.inBlock,Exit.then])
   refine z0e rfl HR5.out rfl rfl ?_;exact⟨by rw[←HR9.out];rfl,by rw[←HR9.out];exact HOF.out,HBF.out,HAS.out⟩
end Go.Proofs.YtmmpkfcdfcldlaaGreat
