/- Parts of the proof, side by side: Check, May, MoEnts, MoEntry, StRow. -/
import Derived.Test.YtmmpkfcdfcldlaaGreatM02
import Derived.Test.YtmmpkfcdfcldlaaGreatM01
import Derived.Lib.Bytealg
import Derived.Test.YtmmpkfcdfcldlaaGreatM00
import Derived.Laws.AppendOwnNone
set_option linter.unusedVariables false
set_option linter.unusedSimpArgs false
namespace Go.Proofs.YtmmpkfcdfcldlaaGreat
open Lib (hid)
open Go.RowKit
set_option maxHeartbeats 400000 in
theorem zaw (t p:ByteArray) (w:World) (ht:t.size≤maxLen) (h:p.size≤t.size) (e:(t.extract 0 p.size).toList=p.toList):
  Calls Tryz.prog 140 #[.string t,.string p] w fun e w'=>e=.returned (.bool true)∧w=w':=by
 unfold maxLen at ht;have hp:p.size≤9223372036854775807:=by omega
 go_enter Tryz.func140,Tryz.ntmps140
 go_wp2
 go_ret;exact⟨rfl,rfl⟩
set_option maxHeartbeats 400000 in
theorem zby (t p:ByteArray) (w:World) (ht:t.size≤maxLen) (hp:p.size≤maxLen) (e:¬(p.size≤t.size∧(t.extract 0 p.size).toList=p.toList)):
  Calls Tryz.prog 140 #[.string t,.string p] w fun e w'=>e=.returned (.bool false)∧w=w':=by
 unfold maxLen at ht hp
 by_cases h:p.size≤t.size
 ·have e2:((t.extract 0 p.size).toList==p.toList)=false:=by rw[beq_eq_false_iff_ne];exact fun h2=>e ⟨h,h2⟩
  clear e
  go_enter Tryz.func140,Tryz.ntmps140
  go_wp2
  go_ret;exact⟨rfl,rfl⟩
 ·clear e
  go_enter Tryz.func140,Tryz.ntmps140
  go_wp2
  go_ret;exact⟨rfl,rfl⟩
theorem zax (n b0 b1 b2 b3:Nat):(Lib.decodeN n b0 b1 b2 b3).1<55296∨57344≤(Lib.decodeN n b0 b1 b2 b3).1:=by
 unfold Lib.decodeN
 repeat' split
 all_goals (simp only;omega)
theorem zdh (n b0 b1 b2 b3:Nat) (h0:b0<256) (h1:b1<256) (h2:b2<256) (h:(Lib.decodeN n b0 b1 b2 b3).1=65533):
  (Lib.decodeN n b0 b1 b2 b3).2=1↔¬(3≤n∧b0=239∧b1=191∧b2=189):=by
 unfold Lib.decodeN at h ⊢
 repeat' split
 all_goals (simp_all;try omega)
theorem zlf (c:Nat) (hv:c<55296∨57344≤c) (hc:c≤1114111):(Utf8.encode (c:Int)).toList=[239,191,189]↔c=65533:=by
 have hval:Utf8.valid (c:Int)=true:=by unfold Utf8.valid;simp;omega
 rw[ByteArray.toList_eq];unfold Utf8.encode;simp only[hval,if_true,Int.toNat_natCast]
 by_cases h1:c<128
 ·rw[if_pos h1];simp;omega
 rw[if_neg h1]
 by_cases h2:c<2048
 ·rw[if_pos h2];simp;omega
 rw[if_neg h2]
 by_cases h3:c<65536
 ·rw[if_pos h3];simp only[List.cons.injEq,and_true,←UInt8.toNat_inj,UInt8.toNat_ofNat'];simp;omega
 ·rw[if_neg h3];simp;omega
theorem zm2 (l:List UInt8):l.take 3=[239,191,189]↔(3≤l.length∧(l.getD 0 0).toNat=239∧(l.getD 1 0).toNat=191∧(l.getD 2 0).toNat=189):=by
 match l with
 | []=>simp
 | [a]=>simp
 | [a,b]=>simp
 | a::b::c::r=>
  simp[←UInt8.toNat_inj]
theorem zku (l:List UInt8) (h:(decodeL l).1=65533):badRune (decodeL l)=true↔¬l.take 3=[239,191,189]:=by
 rw[zm2,←zdh l.length _ _ _ _ (l.getD 0 0).toNat_lt (l.getD 1 0).toNat_lt (l.getD 2 0).toNat_lt h];unfold badRune
 show _↔(decodeL l).2=1;simp[h]
set_option maxHeartbeats 1000000 in
theorem zbz (s:ByteArray) (w:World) (hs:s.size≤140737488355328):
  Calls Tryz.prog 101 #[.string s] w fun e w'=>e=.returned (.int .i64 ((checkL s.data.toList:Nat):Int))∧Below w.heap.size w w':=by
 have hsz:s.data.toList.length=s.size:=rfl;have htl:=ByteArray.toList_eq s
 by_cases hlong:12<s.size
 ·rw[z8j (by omega)];clear htl hsz
  go_enter Tryz.func101,Tryz.ntmps101
  go_wp2_with fail;go_ret;exact⟨rfl,Below.refl _ _⟩
 by_cases hdots:s.data.toList=[]∨s.data.toList=[46]∨s.data.toList=[46,46]
 ·rw[z8k (by omega) hdots];rw[←htl] at hdots;clear htl hsz
  rcases hdots with h|h|h
  all_goals
   go_enter Tryz.func101,Tryz.ntmps101
   go_wp2_with fail;go_ret;exact⟨rfl,Below.refl _ _⟩
 rw[z8l (by omega) hdots];obtain⟨R,hR⟩:∃R,(if anyBad s.data.toList=true then 800 else 0)=R:=⟨_,rfl⟩;rw[hR];have HR:=hid hR;clear hR;have hd0:s.toList.isEmpty=false:=by rw[htl];simpa using fun e=>hdots (.inl e)
 have hd1:(s.toList==[46])=false:=by rw[htl,beq_eq_false_iff_ne];exact fun e=>hdots (.inr (.inl e))
 have hd2:(s.toList==[46,46])=false:=by rw[htl,beq_eq_false_iff_ne];exact fun e=>hdots (.inr (.inr e))
 have he0:¬s.toList=[]:=by rw[htl];exact fun e=>hdots (.inl e)
 have he1:¬s.toList=[46]:=by rw[htl];exact fun e=>hdots (.inr (.inl e))
 have he2:¬s.toList=[46,46]:=by rw[htl];exact fun e=>hdots (.inr (.inr e))
 have Htl:=hid htl;clear htl hsz hdots
 go_enter Tryz.func101,Tryz.ntmps101
 go_wp2_with fail;clear hd0 hd1 hd2 he0 he1 he2
 go_loopw [3,4] (fun _ _ w'=>∃(pos:Nat),w'=w.iter s pos∧anyBad (s.data.toList.drop pos)=anyBad s.data.toList) (fun _ _ w'=>s.size-w'.iterPos w.heap.size)
 case atStart=>exact⟨0,rfl,by simp⟩
 case round =>
  obtain⟨pos,rfl,hc⟩:=hrel
  by_cases hp:pos<s.size
  ·have hd:=z5d s pos;have hw:=z0v (s.data.toList.drop pos);have hle:=z4m (s.data.toList.drop pos);have hvl:=zax (s.data.toList.drop pos).length ((s.data.toList.drop pos).getD 0 0).toNat ((s.data.toList.drop pos).getD 1 0).toNat ((s.data.toList.drop pos).getD 2 0).toNat ((s.data.toList.drop pos).getD 3 0).toNat;have hff:=zku (s.data.toList.drop pos);have hcc:=z8h _ (z5h hp);rw[hcc] at hc;have hnx:∀ty,(Instr.next (.pointer (some ⟨w.heap.size,0,none⟩)) true ty).run Tryz.prog (w.iter s pos)=_:=fun ty=>run_next_any w s pos ty hp
   rw[hd] at hnx
   change (decodeL (s.data.toList.drop pos)).1<55296∨57344≤(decodeL (s.data.toList.drop pos)).1 at hvl
   obtain⟨q,hq⟩:∃q,decodeL (s.data.toList.drop pos)=q:=⟨_,rfl⟩;rw[hq] at hnx hvl hle hw hff hc;obtain⟨c,v⟩:=q;simp only at hnx hvl hle hw hff hc;have henc:=zlf c hvl hle;have Hc:=hid hc;have Henc:=hid henc;have Hff:=hid hff;clear hd hcc hc hq henc hff
   by_cases c1:c=47
   ·subst c1
    go_wp2
    go_ret;exact⟨z1m (by have:=HR.out;rw[if_pos (by rw[←Hc.out,show runeBad _=true from (z1k _).2 (by simp;try omega)];rfl)] at this;omega),z2h _ _ _⟩
   by_cases c2:c<32
   ·go_wp2
    go_ret;exact⟨z1m (by have:=HR.out;rw[if_pos (by rw[←Hc.out,show runeBad _=true from (z1k _).2 (by simp;try omega)];rfl)] at this;omega),z2h _ _ _⟩
   by_cases c3:c=127
   ·subst c3
    go_wp2
    go_ret;exact⟨z1m (by have:=HR.out;rw[if_pos (by rw[←Hc.out,show runeBad _=true from (z1k _).2 (by simp;try omega)];rfl)] at this;omega),z2h _ _ _⟩
   have q1:((c:Int)==47)=false:=by rw[beq_eq_false_iff_ne];omega
   have q3:((c:Int)==127)=false:=by rw[beq_eq_false_iff_ne];omega
   have q2:decide ((c:Int)<32)=false:=by simp;omega
   by_cases c4:c=65533
   ·have q4:((Utf8.encode (c:Int)).toList==[239,191,189])=true:=by rw[beq_iff_eq];exact Henc.out.2 c4
    have hex0:(s.extract pos s.size).size=s.size-pos:=by simp
    have hexl:(s.extract pos s.size).size≤maxLen:=by rw[hex0];unfold maxLen;omega
    have hex3:((s.extract pos s.size).extract 0 3).toList=(s.data.toList.drop pos).take 3:=by
     rw[ByteArray.toList_eq];simp[List.extract_eq_take_drop];omega
    by_cases c5:(s.data.toList.drop pos).take 3=[239,191,189]
    ·have hlen:3≤s.size-pos:=by
      have:=congrArg List.length c5;rw[List.length_take,List.length_drop] at this;have hsz:s.data.toList.length=s.size:=rfl;simp at this;omega
     have C4:=hid c4;have C5:=hid c5;have H3:=hid hex3;have H0:=hid hex0;clear c4 c5 hex3 hex0;go_wp2_with fail;refine(zaw _ _ _ hexl (by rw[H0.out];exact hlen) (by rw[show(ByteArray.mk #[239,191,189]).size=3 from rfl,H3.out,C5.out];rw[ByteArray.toList_eq])).mono ?_;rintro e w' ⟨rfl,rfl⟩
     go_wp2
     go_roundw
     case rel=>exact⟨pos+v,rfl,by
      have hb:¬badRune (c,v)=true:=fun e=>(Hff.out C4.out).1 e C5.out
      rw[←Hc.out,show runeBad _=false from Bool.eq_false_iff.2 (fun e=>by rw[z1k] at e;simp only[hb] at e;simp at e;omega),List.drop_drop];rfl⟩
     case measure=>simp;omega
    ·have hno:¬((ByteArray.mk #[239,191,189]).size≤(s.extract pos s.size).size∧((s.extract pos s.size).extract 0 (ByteArray.mk #[239,191,189]).size).toList=(ByteArray.mk #[239,191,189]).toList):=by
      rw[show(ByteArray.mk #[239,191,189]).size=3 from rfl,hex3,ByteArray.toList_eq];exact fun e=>c5 e.2
     have C4:=hid c4;have C5:=hid c5;have HN:=hid hno;clear c4 c5 hex3 hex0 hno;go_wp2_with fail;refine(zby _ _ _ hexl (by rw[show(ByteArray.mk #[239,191,189]).size=3 from rfl];unfold maxLen;omega) HN.out).mono ?_;rintro e w' ⟨rfl,rfl⟩;have hbad:badRune (c,v)=true:=(Hff.out C4.out).2 C5.out;have HB:=hid hbad;clear hbad
     go_wp2
     go_ret;exact⟨z1m (by have:=HR.out;rw[if_pos (by rw[←Hc.out,show runeBad _=true from (z1k _).2 (.inr (.inr (.inr HB.out)))];rfl)] at this;omega),z2h _ _ _⟩
   ·have q4:((Utf8.encode (c:Int)).toList==[239,191,189])=false:=by rw[beq_eq_false_iff_ne];exact fun e=>c4 (Henc.out.1 e)
    go_wp2_with fail;go_roundw
    case rel=>exact⟨pos+v,rfl,by rw[←Hc.out,show runeBad _=false from Bool.eq_false_iff.2 (fun e=>by rw[z1k] at e;simp[badRune] at e;omega),List.drop_drop];rfl⟩
    case measure=>simp;omega
  ·have hnx:∀ty,(Instr.next (.pointer (some ⟨w.heap.size,0,none⟩)) true ty).run Tryz.prog (w.iter s pos)=_:=fun ty=>run_next_end w s pos ty hp
   rw[z7r hp,z9y] at hc;have Hc:=hid hc;clear hc
   go_wp2
   go_ret;exact⟨z1m (by have:=HR.out;rw[if_neg (by rw[←Hc.out];simp)] at this;omega),z2h _ _ _⟩
end Go.Proofs.YtmmpkfcdfcldlaaGreat
namespace Go.Proofs.YtmmpkfcdfcldlaaGreat
open Lib (hid)
open Go.RowKit
def mayL (l:List UInt8):Bool:=checkL l==0
theorem zhl {a b:Bool} (h:a=b):Ending.returned (.bool a)=.returned (.bool b):=by rw[h]
set_option maxHeartbeats 400000 in
theorem zhm (s:ByteArray) (w:World) (hs:s.size≤140737488355328):
  Calls Tryz.prog 134 #[.string s] w fun e w'=>e=.returned (.bool (mayL s.data.toList))∧Below w.heap.size w w':=by
 go_enter Tryz.func134,Tryz.ntmps134
 go_wp2_with fail;refine(zbz s _ hs).mono ?_;rintro e w1 ⟨rfl,hb⟩
 go_wp2
 go_ret;refine⟨zhl ?_,hb⟩;unfold mayL;rw[Bool.eq_iff_iff,beq_iff_eq,beq_iff_eq];omega
theorem z8n (s:ByteArray) (n:Nat) (hs:s.size≤140737488355328) (h:checkL s.data.toList=n) (w:World):
  Calls Tryz.prog 101 #[.string s] w fun e w'=>e=.returned (.int .i64 (n:Int))∧Below w.heap.size w w':=
 (zbz s w hs).mono fun e w' ⟨he,hb⟩=>⟨by rw[he,h],hb⟩
theorem z7f:∀(a b:List UInt8),Op.bytesLess a b=ltB a b
 | [],[]=>rfl
 | [],_::_=>rfl
 | _::_,[]=>rfl
 | a :: al, b :: bl => by
  unfold Op.bytesLess ltB;rw[z7f al bl]
  by_cases h:a=b
  ·subst h;rw[if_pos rfl];simp
  ·rw[if_neg h];have:(a==b)=false:=by rw[beq_eq_false_iff_ne];exact h
   simp[this]
theorem z5j (s:ByteArray) (w:World) (hs:s.size≤maxLen):
  Calls Tryz.prog 135 #[.string s] w fun e w'=>e=.returned (.int .i64 ((bktB s:Nat):Int))∧Below w.heap.size w w':=by
 have h1:hashL s.data.toList%8<8:=Nat.mod_lt _ (by omega);obtain⟨H,hH⟩:∃H,hashL s.data.toList=H:=⟨_,rfl⟩;have hb:bktB s=H%8:=by unfold bktB;rw[hH]
 rw[hb]
 go_enter Tryz.func135,Tryz.ntmps135
 go_wp2_with fail;refine(zjh s _ hs).mono ?_;rintro e w1 ⟨rfl,hbl⟩;rw[hH];have e1:(H:Int).tmod 8=((H%8:Nat):Int):=rfl;go_wp2_with fail;go_ret;exact⟨by first|rfl|simp,hbl⟩
set_option maxRecDepth 100000 in
set_option maxHeartbeats 4000000 in
theorem zfw (p:Nat) (s:St) (num:Int) (w:World) (h:PtrAt w p s) (h1: -9223372036854775808≤num) (h2:num≤9223372036854775807):
  Calls Tryz.prog 90 #[.pointer (some ⟨p,0,.none⟩),.int .i64 num] w fun e w'=>e=.returned (.bool (givenV s.made num))∧Below w.heap.size w w':=by
 obtain⟨A,n,c,E,m,d,D,k,e,hp,c0,c1,c2,hI,hD,hM,hn,_,hk⟩:=h.val;have hkl:=hM.1;obtain⟨R,hR⟩:∃R,givenV s.made num=R:=⟨_,rfl⟩;rw[hR];unfold givenV at hR;have hX:=@Ext.cell w
 go_enter Tryz.func90,Tryz.ntmps90
 go_wp2_with fail;refine(zjf num h1 h2 _).mono ?_;rintro e1 w1 ⟨rfl,rfl⟩
 by_cases hnum:num<2
 ·rw[if_pos hnum] at hR ⊢;subst hR;go_wp2_with fail;refine wre ?_
  repeat (go_big_quiet_step (fail))
  refine wpQuiet_nil ?_;rintro w7 ⟨X,rfl⟩;go_wp2_with fail;go_ret;exact⟨rfl,X.bel⟩
 ·rw[if_neg hnum] at hR ⊢;obtain⟨C,hC⟩:∃C:Nat,(num-2)%8=(C:Int):=⟨((num-2)%8).toNat,by omega⟩;obtain⟨Q,hQ⟩:∃Q:Int,(num-2) / 8=Q:=⟨_,rfl⟩;rw[hC,hQ,Int.toNat_natCast] at hR;rw[hC];have q0:decide ((0:Int)≤(C:Int))=true:=by rw[decide_eq_true_eq];omega
  by_cases hlt:C<k
  ·have q1:decide ((C:Int)<(k:Int))=true:=by rw[decide_eq_true_eq];omega
   obtain⟨g,off,x,rfl,hg,hx,hd,hmem,cx⟩:=hM.get C hlt;have hgd:s.made.getD C 0=x:=by rw[List.getD_eq_getElem?_getD,hx];rfl
   rw[hgd,decide_eq_true (show(C:Int)<(s.made.length:Int) by omega),Bool.true_and] at hR;subst hR;have k0:(0:Int)≤(C:Int):=by omega
   have k1:(C:Int)<(k:Int):=by omega
   clear hd hx hmem hgd hI hD hM;go_wp2_with fail;refine wre ?_
   repeat (go_big_quiet_step (first|(go_at_call 133;exact Calls.ext_of_same (by have:=zjg num (by omega) h2;rw[hQ] at this;exact this _))))
   refine wpQuiet_nil ?_;rintro w7 ⟨X,rfl⟩;go_wp2_with fail;go_ret;exact⟨rfl,X.bel⟩
  ·have q1:decide ((C:Int)<(k:Int))=false:=by rw[decide_eq_false_iff_not];omega
   rw[decide_eq_false (show ¬(C:Int)<(s.made.length:Int) by omega),Bool.false_and] at hR;subst hR;go_wp2_with fail;refine wre ?_
   repeat (go_big_quiet_step (fail))
   refine wpQuiet_nil ?_;rintro w7 ⟨X,rfl⟩;go_wp2_with fail;go_ret;exact⟨rfl,X.bel⟩
def ManyT (w:World) (M:Nat) (f:Nat→Nat):Prop:=∃(cur:Array Value) (t:TypeId),w.heap[M]? =some (.cells cur t (0,0))∧∀j,j<8→cur[j]? =some (.int .i64 (f j:Nat))
theorem ManyT.lt {w:World} {M:Nat} {f:Nat→Nat} (h:ManyT w M f):M<w.heap.size:=by
 obtain⟨cur,t,hh,_⟩:=h;exact(Array.getElem?_eq_some_iff.1 hh).1
theorem ManyT.below {w w':World} {M:Nat} {f:Nat→Nat} (h:ManyT w M f) (hb:Below w.heap.size w w'):ManyT w' M f:=by
 have hl:=h.lt;obtain⟨cur,t,hh,hc⟩:=h;exact⟨cur,t,(hb.block M hl).trans hh,hc⟩
theorem ManyT.get {w:World} {M:Nat} {f:Nat→Nat} (h:ManyT w M f) (j:Nat) (hj:j<8):w.cell? ⟨M,j,.none⟩=some (.int .i64 (f j:Nat))∧w.frozen? ⟨M,j,.none⟩=false:=by
 obtain⟨cur,t,hh,hc⟩:=h;exact⟨by rw[cell_of_row w M j cur _ (0,0) hh];exact hc j hj,frozen_of_row w M j cur _ hh⟩
theorem ManyT.set {w:World} {M:Nat} {f:Nat→Nat} (h:ManyT w M f) (b:Nat) (hb:b<8):ManyT (w.setCell ⟨M,b,.none⟩ (.int .i64 ((f b:Int)+1))) M (fun j=>if j=b then f j+1 else f j):=by
 obtain⟨cur,t,hh,hc⟩:=h;refine⟨_,t,heap_setCell_same w M b cur _ _ hh,fun j hj=>?_⟩;rw[Array.getElem?_setIfInBounds]
 by_cases e:b=j
 ·subst e;have:b<cur.size:=(Array.getElem?_eq_some_iff.1 (hc b hb)).1;simp[this]
 ·have e2:¬j=b:=fun h=>e h.symm
  simp only[e,e2,if_false];exact hc j hj
theorem zji (w:World) (t:TypeId):∃W,w.alloc (.cells #[.int .i64 0,.int .i64 0,.int .i64 0,.int .i64 0,.int .i64 0,.int .i64 0,.int .i64 0,.int .i64 0] t)=W∧ManyT W w.heap.size (fun _=>0)∧Below w.heap.size w W:=by
 refine⟨_,rfl,⟨_,t,heap_alloc_new w _,fun j hj=>?_⟩,(Below.refl _ _).alloc (Nat.le_refl _) _⟩;have:j=0∨j=1∨j=2∨j=3∨j=4∨j=5∨j=6∨j=7:=by omega
 rcases this with h|h|h|h|h|h|h|h<;>subst h<;>rfl
def cmpV (a b:ByteArray):Int:=Lib.compareBytes a.data.toList b.data.toList
theorem zhn:∀(a b:List UInt8),Lib.compareBytes a b<0↔ltB a b=true
 | [],[]=>by simp[Lib.compareBytes,ltB]
 | [],_::_=>by simp[Lib.compareBytes,ltB]
 | _::_,[]=>by simp[Lib.compareBytes,ltB]
 | a :: al, b :: bl => by
  unfold Lib.compareBytes ltB
  by_cases h1:a<b
  ·have:a≠b:=fun e=>by subst e;exact absurd h1 (UInt8.lt_irrefl _)
   rw[if_pos h1,if_neg this];simp[h1]
  ·rw[if_neg h1]
   by_cases h2:b<a
   ·have:a≠b:=fun e=>by subst e;exact absurd h2 (UInt8.lt_irrefl _)
    rw[if_pos h2,if_neg this];simp[h1]
   ·have:a=b:=UInt8.le_antisymm (UInt8.not_lt.1 h2) (UInt8.not_lt.1 h1);rw[if_neg h2,if_pos this];exact zhn al bl
theorem zem:∀(a b:List UInt8),Lib.compareBytes a b=0↔a=b
 | [],[]=>by simp[Lib.compareBytes]
 | [],_::_=>by simp[Lib.compareBytes]
 | _::_,[]=>by simp[Lib.compareBytes]
 | a :: al, b :: bl => by
  unfold Lib.compareBytes
  by_cases h1:a<b
  ·have:a≠b:=fun e=>by subst e;exact absurd h1 (UInt8.lt_irrefl _)
   rw[if_pos h1];simp[this]
  ·rw[if_neg h1]
   by_cases h2:b<a
   ·have:a≠b:=fun e=>by subst e;exact absurd h2 (UInt8.lt_irrefl _)
    rw[if_pos h2];simp[this]
   ·have:a=b:=UInt8.le_antisymm (UInt8.not_lt.1 h2) (UInt8.not_lt.1 h1);rw[if_neg h2,this,zem al bl];simp
theorem zho (a b:ByteArray):cmpV a b<0↔ltN a b=true:=zhn _ _
theorem zhp (a b:ByteArray):cmpV a b=0↔a=b:=by
 unfold cmpV;rw[zem]
 constructor
 ·intro h;cases a;cases b;exact congrArg ByteArray.mk (Array.toList_inj.1 h)
 ·intro h;rw[h]
theorem zc0:∀(a b c:List UInt8),ltB a b=true→ltB b c=true→ltB a c=true
 | [],[],_,h,_=>by simp[ltB] at h
 | [],_::_,[],_,h=>by simp[ltB] at h
 | [],_::_,_::_,_,_=>rfl
 | _::_,[],_,h,_=>by simp[ltB] at h
 | _::_,_::_,[],_,h=>by simp[ltB] at h
 | a :: al, b :: bl, c :: cl, h1, h2 => by
  unfold ltB at h1 h2 ⊢
  by_cases e1:a=b
  ·subst e1;rw[if_pos rfl] at h1
   by_cases e2:a=c
   ·subst e2;rw[if_pos rfl] at h2 ⊢;exact zc0 al bl cl h1 h2
   ·rw[if_neg e2] at h2 ⊢;exact h2
  ·rw[if_neg e1,decide_eq_true_eq] at h1
   by_cases e2:b=c
   ·subst e2;rw[if_neg e1,decide_eq_true_eq];exact h1
   ·rw[if_neg e2,decide_eq_true_eq] at h2;have h3:=UInt8.lt_trans h1 h2;have e3:a≠c:=fun e=>by subst e;exact absurd h3 (UInt8.lt_irrefl _)
    rw[if_neg e3,decide_eq_true_eq];exact h3
theorem z5x {a b c:ByteArray} (h1:ltN a b=true) (h2:ltN b c=true):ltN a c=true:=zc0 _ _ _ h1 h2
def RiseE (es:List En):Prop:=∀(i j:Nat) (x y:En),i<j→es[i]? =some x→es[j]? =some y→ltN x.name y.name=true
structure EnPos (es:List En) (nm:ByteArray) (i:Nat) (b:Bool):Prop where
 le:i≤es.length
 lo:∀(k:Nat) (x:En),k<i→es[k]? =some x→ltN x.name nm=true
 hi:∀(k:Nat) (x:En),i≤k→es[k]? =some x→ltN x.name nm=false
 is_:b=true→∃e,es[i]? =some e∧e.name=nm
 of_:(∃e,es[i]? =some e∧e.name=nm)→b=true
theorem zdi (a b:ByteArray) (w:World):Calls Tryz.prog 143 #[.string a,.string b] w fun e w'=>e=.returned (.int .i64 (cmpV a b))∧w=w':=by
 have hx:∀w,(callFunc 158 #[.string a,.string b]).run Tryz.prog w=.ok (.value (.int .i64 (cmpV a b))) w:=fun w=>by
  rw[run_callFunc_extern Tryz.func158 (by kernel_rfl) (by kernel_rfl) (by kernel_rfl) (e:=Extern.BytealgCompare.compare) (by kernel_rfl),Lib.run_compareString]
  rfl
 go_enter Tryz.func143,Tryz.ntmps143
 go_wp2
 go_ret;exact⟨rfl,rfl⟩
theorem zen (name:ByteArray) (num:Int) (nm:ByteArray) (w:World):
  Calls Tryz.prog 142 #[.agg #[.string name,.int .i64 num],.string nm] w fun e w'=>e=.returned (.int .i64 (cmpV name nm))∧Below w.heap.size w w':=by
 go_enter Tryz.func142,Tryz.ntmps142
 go_wp2_with fail;refine(zdi name nm _).mono ?_;rintro e w1 ⟨rfl,rfl⟩;go_wp2_with fail;go_ret;exact⟨rfl,(Below.refl _ _).alloc (Nat.le_refl _) _⟩
set_option maxRecDepth 100000 in
set_option maxHeartbeats 4000000 in
theorem zc1 (es:List En) (A:Option Addr) (n c:Nat) (nm:ByteArray) (w:World) (hI:EntsAt none w A n es) (hn:n≤1099511627776) (hr:RiseE es):
  Calls Tryz.prog 141 #[.slice A n c,.string nm,.func (.func 142) #[] #[]] w fun e w'=>∃i b,e=.returned (.tuple #[.int .i64 (i:Nat),.bool b])∧Below w.heap.size w w'∧EnPos es nm i b:=by
 have HI:=hid hI
 go_enter Tryz.func141,Tryz.ntmps141
 clear hI;go_wp2_with fail
 go_loopw [9,10] (fun iv jv wr=>∃i j:Nat,iv=.int .i64 i∧jv=.int .i64 j∧i≤j∧j≤n∧(∀(k:Nat) (x:En),k<i→es[k]? =some x→ltN x.name nm=true)∧(∀(k:Nat) (x:En),j≤k→es[k]? =some x→ltN x.name nm=false)∧Below w.heap.size w wr) (fun iv jv _=>(intOf jv).toNat-(intOf iv).toNat)
 case atStart=>exact⟨0,n,rfl,rfl,by omega,by omega,fun k x hk=>by omega,fun k x hk hx=>by have:=(List.getElem?_eq_some_iff.1 hx).1;have:=HI.out.1;omega,Below.refl _ _⟩
 case round =>
  obtain⟨i,j,rfl,rfl,hij,hjn,hlo,hhi,hbel⟩:=hrel;have HB:=hid hbel;have HIr:=hid (HI.out.below hbel);have HLO:=hid hlo;have HHI:=hid hhi;clear hbel hlo hhi
  by_cases hlt:i<j
  ·obtain⟨h,hh⟩:∃h,(i+j) / 2=h:=⟨_,rfl⟩;have hh1:i≤h:=by omega
   have hh2:h<j:=by omega
   obtain⟨g,off,x,rfl,hg,hx,hd,hmem,c0,c1⟩:=HIr.out.get h (by omega);have HHH:=hid hh;have hx2:es[h]? =some x:=hx;have HX:=hid hx2;have HRR:=hid hr;have HHH2:Hid (h<j):=hid hh2;clear hx2;go_wp2_with fail;refine(zen x.name x.num nm _).mono ?_;rintro e5 w5 ⟨rfl,hb5⟩;have e2:((i:Int)+(j:Int)) / 2=(h:Int):=by have:=HHH.out;omega
   rw[e2];have HB5:=hid (HB.out.trans (hb5.mono HB.out.size));clear hb5 c0 c1
   by_cases hc:ltN x.name nm=true
   ·have q1:decide (cmpV x.name nm<0)=true:=by rw[decide_eq_true_eq];exact(zho _ _).2 hc
    go_wp2_with fail;go_roundw
    case rel=>exact⟨h+1,j,by go_num,rfl,by omega,hjn,fun k y hk hy=>by
     by_cases e:k=h
     ·subst e;have:=HX.out;rw[hy] at this;cases this;exact hc
     ·exact z5x (HRR.out k h y x (by omega) hy HX.out) hc,HHI.out,HB5.out⟩
    case measure=>simp[intOf];omega
   ·have q1:decide (cmpV x.name nm<0)=false:=by rw[decide_eq_false_iff_not];exact fun h=>hc ((zho _ _).1 h)
    go_wp2_with fail;go_roundw
    case rel=>exact⟨i,h,rfl,rfl,hh1,by omega,HLO.out,fun k y hk hy=>by
     by_cases e:k=h
     ·subst e;have:=HX.out;rw[hy] at this;have e9:y=x:=Option.some.inj this;rw[e9];exact Bool.eq_false_iff.2 hc
     ·cases hv:ltN y.name nm
      ·rfl
      ·exact absurd (z5x (HRR.out h k x y (by omega) HX.out hy) hv) hc,HB5.out⟩
    case measure=>simp[intOf];omega
  ·have eij:j=i:=by omega
   subst eij
   by_cases hin:j<n
   ·obtain⟨g,off,x,rfl,hg,hx,hd,hmem,c0,c1⟩:=HIr.out.get j hin;have HX:=hid hx;have HRR:=hid hr;go_wp2_with fail;refine(zen x.name x.num nm _).mono ?_;rintro e5 w5 ⟨rfl,hb5⟩;have HB5:=hid (HB.out.trans (hb5.mono HB.out.size));clear hb5 c0 c1
    by_cases hc:x.name=nm
    ·have q1:cmpV x.name nm=0:=(zhp _ _).2 hc;rw[q1];clear q1;go_wp2_with fail;go_ret2;exact⟨j,true,rfl,HB5.out,by have:=HIr.out.1;omega,HLO.out,HHI.out,fun _=>⟨x,HX.out,hc⟩,fun _=>rfl⟩
    ·have q1:(cmpV x.name nm==0)=false:=by rw[beq_eq_false_iff_ne];exact fun h=>hc ((zhp _ _).1 h)
     go_wp2_with fail;go_ret2;refine⟨j,false,rfl,HB5.out,by have:=HIr.out.1;omega,HLO.out,HHI.out,(fun h=>by cases h),fun h=>?_⟩;obtain⟨e,he,hen⟩:=h;rw[HX.out] at he;cases he;exact absurd hen hc
   ·have q1:decide ((j:Int)<(n:Int))=false:=by rw[decide_eq_false_iff_not];omega
    clear hlt;go_wp2_with fail;go_ret2;refine⟨j,false,rfl,HB.out,by have:=HIr.out.1;omega,HLO.out,HHI.out,(fun h=>by cases h),fun h=>?_⟩;obtain⟨e,he,_⟩:=h;have h1:=(List.getElem?_eq_some_iff.1 he).1;have h2:=HIr.out.1;omega
theorem z1y (es:List En) (A:Option Addr) (n c:Nat) (nm:ByteArray) (w:World) (hI:EntsAt none w A n es) (hn:n≤1099511627776) (hr:RiseE es):
  Calls Tryz.prog 102 #[.slice A n c,.string nm] w fun e w'=>∃i b,e=.returned (.tuple #[.int .i64 (i:Nat),.bool b])∧Below w.heap.size w w'∧EnPos es nm i b:=by
 go_enter Tryz.func102,Tryz.ntmps102
 go_wp2_with fail;refine(zc1 es A n c nm _ hI hn hr).mono ?_;rintro e w1 ⟨i,b,rfl,hb,hp⟩;go_wp2_with fail;go_ret2;exact⟨i,b,rfl,hb,hp⟩
theorem z1b {α:Type} (f:α→List Value) (k:Nat) (hk:∀x,(f x).length=k):∀(l:List α) (j:Nat) (x:α),l[j]? =some x→∀i,i<k→(l.flatMap f)[j*k+i]? =(f x)[i]?
 | [],j,x,h,i,hi=>by simp at h
 | y::l,0,x,h,i,hi=>by
  have:y=x:=by simpa using h
  subst this;rw[List.flatMap_cons,List.getElem?_append_left (by rw[hk];omega)];simp
 | y::l,j+1,x,h,i,hi=>by
  have e:(j+1)*k=k+j*k:=by rw[Nat.add_mul];omega
  rw[List.flatMap_cons,List.getElem?_append_right (by rw[hk];omega),hk];have h2:l[j]? =some x:=by simpa using h
  rw[←z1b f k hk l j x h2 i hi]
  congr 1
  omega
theorem z1c {α:Type} (f:α→List Value) (k:Nat) (hk:∀x,(f x).length=k):∀(l:List α),(l.flatMap f).length=l.length*k
 | []=>by simp
 | y::l=>by rw[List.flatMap_cons,List.length_append,hk,z1c f k hk l,List.length_cons,Nat.add_mul];omega
theorem z1e {w:World} {B:Nat} {e:TypeId} {size:Nat} {v:Value} {n:Nat} {xs:List Value} (h:w.ownsRow B e size v n xs) (hs:0<size):
  ∃A c,v=.slice A n c∧n≤c∧(A=none→n=0∧c=0)∧(0<n→∃g,A=some ⟨g,0,none⟩∧g<w.heap.size∧Mine (some B) e w g∧∀j,j<n*size→w.cell? ⟨g,j,none⟩=xs[j]?):=by
 have h0:=h
 rcases h.2 with⟨rfl,rfl⟩|⟨g,cap,cur,rfl,hb,hg,hnc,hcm,hcs,htk⟩
 ·exact⟨none,0,rfl,Nat.le_refl _,fun _=>⟨rfl,rfl⟩,fun h=>absurd h (by omega)⟩
 ·refine⟨some ⟨g,0,none⟩,cap,rfl,hnc,fun e=>(by cases e),fun hn=>⟨g,rfl,(Array.getElem?_eq_some_iff.1 hg).1,fun C hC=>?_,fun j hj=>h0.cellAt j hj⟩⟩;cases hC;exact⟨hb,cur,hg⟩
def enV (e:En):List Value:=[.string e.name,.int .i64 e.num]
def dsV (d:Ds):List Value:=[.int .i64 d.core,.int .i64 d.fd,.int .i64 d.num]
def inoV (z:Ino×Value):List Value:=[.int .i64 z.1.num,.bool z.1.dir,z.2,.string z.1.data]
theorem EntsAt.of_row {B:Nat} {w:World} {v:Value} {n:Nat} {es:List En} (h:w.ownsRow B 73 2 v n (es.flatMap enV)):∃A c,v=.slice A n c∧n≤c∧(A=none→n=0∧c=0)∧EntsAt (some B) w A n es:=by
 obtain⟨A,c,hv,hc,hn,hg⟩:=z1e h (by decide)
 have hl:es.length=n:=by
  have h1:=h.1;rw[z1c enV 2 (fun x=>rfl)] at h1;omega
 refine⟨A,c,hv,hc,hn,hl,fun h0=>?_⟩;obtain⟨g,hA,hlt,hm,hcell⟩:=hg h0;refine⟨g,0,hA,hlt,hm,fun j e he=>?_⟩;have hj:j<es.length:=(List.getElem?_eq_some_iff.1 he).1;have f:=z1b enV 2 (fun x=>rfl) es j e he;refine⟨?_,?_⟩
 ·rw[Nat.zero_add,hcell (j*2) (by omega)];exact f 0 (by omega)
 ·rw[Nat.zero_add,hcell (j*2+1) (by omega)];exact f 1 (by omega)
theorem DescsAt.of_row {B:Nat} {w:World} {v:Value} {n:Nat} {ds:List Ds} (h:w.ownsRow B 75 3 v n (ds.flatMap dsV)):∃A c,v=.slice A n c∧n≤c∧(A=none→n=0∧c=0)∧DescsAt (some B) w A n ds:=by
 obtain⟨A,c,hv,hc,hn,hg⟩:=z1e h (by decide)
 have hl:ds.length=n:=by
  have h1:=h.1;rw[z1c dsV 3 (fun x=>rfl)] at h1;omega
 refine⟨A,c,hv,hc,hn,hl,fun h0=>?_⟩;obtain⟨g,hA,hlt,hm,hcell⟩:=hg h0;refine⟨g,0,hA,hlt,hm,fun j e he=>?_⟩;have hj:j<ds.length:=(List.getElem?_eq_some_iff.1 he).1;have f:=z1b dsV 3 (fun x=>rfl) ds j e he;refine⟨?_,?_,?_⟩
 ·rw[Nat.zero_add,hcell (j*3) (by omega)];exact f 0 (by omega)
 ·rw[Nat.zero_add,hcell (j*3+1) (by omega)];exact f 1 (by omega)
 ·rw[Nat.zero_add,hcell (j*3+2) (by omega)];exact f 2 (by omega)
theorem IntsAt.of_row {B:Nat} {w:World} {v:Value} {n:Nat} {xs:List Int} (h:w.ownsRow B 3 1 v n (xs.map (Value.int .i64))):∃A c,v=.slice A n c∧n≤c∧(A=none→n=0∧c=0)∧IntsAt (some B) w A n xs:=by
 obtain⟨A,c,hv,hc,hn,hg⟩:=z1e h (by decide);have hl:xs.length=n:=by have:=h.1;simpa using this
 refine⟨A,c,hv,hc,hn,hl,fun h0=>?_⟩;obtain⟨g,hA,hlt,hm,hcell⟩:=hg h0;refine⟨g,0,hA,hlt,hm,fun j e he=>?_⟩;have hj:j<xs.length:=(List.getElem?_eq_some_iff.1 he).1;rw[Nat.zero_add,hcell j (by omega)];simp[he]
structure InoRow (B:Nat) (w:World) (v:Value) (n:Nat) (zs:List (Ino×Value)):Prop where
 row:w.ownsRow B 59 4 v n (zs.flatMap inoV)
 ents:∀z∈zs,∃A m c,z.2=.slice A m c∧SlOk A m c∧EntsAt (some B) w A m z.1.ents
theorem InosAt.of_row {B:Nat} {w:World} {v:Value} {n:Nat} {zs:List (Ino×Value)} (h:InoRow B w v n zs):∃A c,v=.slice A n c∧n≤c∧(A=none→n=0∧c=0)∧InosAt (some B) w A n (zs.map Prod.fst):=by
 obtain⟨A,c,hv,hc,hn,hg⟩:=z1e h.row (by decide)
 have hl:zs.length=n:=by
  have h1:=h.row.1;rw[z1c inoV 4 (fun x=>rfl)] at h1;omega
 refine⟨A,c,hv,hc,hn,by simpa using hl,fun h0=>?_⟩;obtain⟨g,hA,hlt,hm,hcell⟩:=hg h0;refine⟨g,0,hA,hlt,hm,fun j x hx=>?_⟩;rw[List.getElem?_map] at hx;obtain⟨z,hz,rfl⟩:=Option.map_eq_some_iff.1 hx;have hj:j<zs.length:=(List.getElem?_eq_some_iff.1 hz).1;have f:=z1b inoV 4 (fun x=>rfl) zs j z hz;obtain⟨E,m,d,he,hmd,hents⟩:=h.ents z (List.mem_of_getElem? hz);refine⟨?_,?_,⟨E,m,d,?_,hmd,hents⟩,?_⟩
 ·rw[Nat.zero_add,hcell (j*4) (by omega)];exact f 0 (by omega)
 ·rw[Nat.zero_add,hcell (j*4+1) (by omega)];exact f 1 (by omega)
 ·rw[Nat.zero_add,hcell (j*4+2) (by omega),←he];exact f 2 (by omega)
 ·rw[Nat.zero_add,hcell (j*4+3) (by omega)];exact f 3 (by omega)
end Go.Proofs.YtmmpkfcdfcldlaaGreat
