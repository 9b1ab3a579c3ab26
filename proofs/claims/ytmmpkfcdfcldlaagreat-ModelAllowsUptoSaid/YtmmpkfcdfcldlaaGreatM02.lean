/- Parts of the proof, side by side: NameBase, Rune1, NameHash, RefHash, RefCheck, FsEnts. -/
import Derived.Test.YtmmpkfcdfcldlaaGreatRows
import Derived.Test.YtmmpkfcdfcldlaaGreatM00
import Derived.WalkKit
import Derived.WalkSpells
import Derived.WalkLawsBesides
import Derived.Lib.Hide
import Derived.Laws.RangeAny
import Derived.Test.YtmmpkfcdfcldlaaGreatM01
import Derived.Deep.Cut
import Derived.Deep.DeepCutAuto
set_option linter.unusedVariables false
set_option linter.unusedSimpArgs false
namespace Go.Proofs.YtmmpkfcdfcldlaaGreat
open Lib (hid)
open Go.RowKit
theorem z5h {s:ByteArray} {p:Nat} (h:p<s.size):s.data.toList.drop p≠[]:=by
 intro e;have e2:=congrArg List.length e;have e3:s.size=s.data.toList.length:=rfl;rw[List.length_drop] at e2;simp only[List.length_nil] at e2;omega
theorem z7r {s:ByteArray} {p:Nat} (h:¬p<s.size):s.data.toList.drop p=[]:=by
 apply List.drop_eq_nil_of_le;have e3:s.size=s.data.toList.length:=rfl;omega
theorem z1m {k:IntKind} {a b:Int} (h:a=b):Ending.returned (.int k a)=.returned (.int k b):=by rw[h]
theorem z4p {k:IntKind} {a b:Int} (h:a=b):Value.int k a=.int k b:=by rw[h]
theorem z2h (w:World) (s:ByteArray) (p:Nat):Below w.heap.size w (w.iter s p):=(Below.refl _ _).alloc (Nat.le_refl _) _
theorem z6j {s:ByteArray} {i:Nat} (h:i<s.size):s.data.toList.getD i 0=s[i]:=by
 have h':i<s.data.size:=h;rw[List.getD_eq_getElem?_getD,Array.getElem?_toList,Array.getElem?_eq_getElem h']
 rfl
set_option maxHeartbeats 400000 in
theorem zav (s:ByteArray) (i:Int) (h0:0≤i) (h1:i≤9223372036854775806) (w:World) (hs:s.size≤maxLen):
  Calls Tryz.prog 151 #[.string s,.int .i64 i] w fun e w'=>e=.returned (.int .i64 (nextL s.data.toList i.toNat))∧w=w':=by
 unfold maxLen at hs;obtain⟨n,rfl⟩:=Int.eq_ofNat_of_zero_le h0;rw[Int.toNat_natCast];have hsz:s.data.toList.length=s.size:=rfl
 by_cases hn:n<s.size
 ·have hg:=z6j hn;obtain⟨v,hv⟩:∃v:UInt8,s[n]=v:=⟨_,rfl⟩;have hvl:=v.toNat_lt
  have e:nextL s.data.toList n=if 128≤v.toNat∧v.toNat≤191 then(v.toNat:Int)-128 else -1:=by
   unfold nextL;rw[hsz,hg,hv];simp[hn]
  rw[e];clear e hg hsz
  by_cases c1:v.toNat<128
  ·rw[if_neg (by omega)]
   go_enter Tryz.func151,Tryz.ntmps151
   go_wp2
   go_ret;exact⟨rfl,rfl⟩
  ·by_cases c2:v.toNat≤191
   ·rw[if_pos (by omega)]
    go_enter Tryz.func151,Tryz.ntmps151
    go_wp2
    go_ret;exact⟨rfl,rfl⟩
   ·rw[if_neg (by omega)]
    go_enter Tryz.func151,Tryz.ntmps151
    go_wp2
    go_ret;exact⟨rfl,rfl⟩
 ·have e:nextL s.data.toList n=-1:=by unfold nextL;rw[if_neg (by omega)]
  rw[e];clear e hsz
  go_enter Tryz.func151,Tryz.ntmps151
  go_wp2
  go_ret;exact⟨rfl,rfl⟩
theorem zhj {x y:Int} {q:Int×Int} (h:(x,y)=q):Ending.returned (.tuple #[.int .i64 x,.int .i64 y])=.returned (.tuple #[.int .i64 q.1,.int .i64 q.2]):=by rw[←h]
set_option maxRecDepth 100000 in
set_option maxHeartbeats 1000000 in
theorem zhk (s:ByteArray) (p:Nat) (hp:p<s.size) (w:World) (hs:s.size≤140737488355328):
  Calls Tryz.prog 137 #[.string s,.int .i64 (p:Int)] w fun e w'=>e=.returned (.tuple #[.int .i64 ((rune1L (s.data.toList.drop p)).1:Int),.int .i64 ((rune1L (s.data.toList.drop p)).2:Int)])∧w=w':=by
 have hl:=zfr _ (z5h hp);simp only[zfp] at hl
 have hg:(s.data.toList.drop p).getD 0 0=s[p]:=by
  rw[←z6j hp];simp[List.getD_eq_getElem?_getD,List.getElem?_drop]
 rw[hg] at hl;obtain⟨v,hv⟩:∃v:UInt8,s[p]=v:=⟨_,rfl⟩;have hvl:=v.toNat_lt;rw[hv] at hl;obtain⟨a,ha⟩:∃a,nextL s.data.toList (p+1)=a:=⟨_,rfl⟩;obtain⟨b,hb⟩:∃a,nextL s.data.toList (p+2)=a:=⟨_,rfl⟩;obtain⟨d,hd⟩:∃a,nextL s.data.toList (p+3)=a:=⟨_,rfl⟩;have ra:=z5e s.data.toList (p+1);have rb:=z5e s.data.toList (p+2);have rd:=z5e s.data.toList (p+3);rw[ha] at ra hl;rw[hb] at rb hl;rw[hd] at rd hl;have hl1:=congrArg Prod.fst hl;have hl2:=congrArg Prod.snd hl;simp only at hl1 hl2;rw[←hl1,←hl2];clear hl hl1 hl2 hg;have HA:=hid ha;have HB:=hid hb;have HD:=hid hd;clear ha hb hd
 go_enter Tryz.func137,Tryz.ntmps137
 go_wp2_with fail;refine(zav s _ (by omega) (by omega) _ (by unfold maxLen;omega)).mono ?_;rintro e w' ⟨rfl,rfl⟩;rw[show((p:Int)+1).toNat=p+1 by omega,HA.out];go_wp2_with fail;refine(zav s _ (by omega) (by omega) _ (by unfold maxLen;omega)).mono ?_;rintro e w' ⟨rfl,rfl⟩;rw[show((p:Int)+2).toNat=p+2 by omega,HB.out];go_wp2_with fail;refine(zav s _ (by omega) (by omega) _ (by unfold maxLen;omega)).mono ?_;rintro e w' ⟨rfl,rfl⟩;rw[show((p:Int)+3).toNat=p+3 by omega,HD.out];go_wp2_with fail
 all_goals
  go_ret2;refine⟨zhj ?_,rfl⟩;unfold rune1I
  repeat' split
  all_goals first|rfl|(exfalso;omega)|exact zhg (by omega) (by omega)
theorem z5i (l:List UInt8):(rune1L l).1=(decodeL l).1∧max (rune1L l).2 1=(decodeL l).2∧((rune1L l).2=0↔badRune (decodeL l)=true):=by
 have hw:=z0v l;unfold rune1L
 by_cases h:badRune (decodeL l)=true
 ·rw[if_pos h];have h':=h;unfold badRune at h';simp at h';refine⟨h'.1.symm,?_,?_⟩
  ·rw[h'.2];rfl
  ·simp[h]
 ·rw[if_neg h];refine⟨rfl,Nat.max_eq_left hw.1,?_⟩
  constructor
  ·intro e;omega
  ·intro e;exact absurd e h
theorem zel (s:ByteArray) (p:Nat) (hp:p<s.size) (w:World) (hs:s.size≤140737488355328):
  Calls Tryz.prog 137 #[.string s,.int .i64 (p:Int)] w fun e w'=>∃c k:Nat,e=.returned (.tuple #[.int .i64 (c:Int),.int .i64 (k:Int)])∧c=(decodeL (s.data.toList.drop p)).1∧max k 1=(decodeL (s.data.toList.drop p)).2∧(k=0↔badRune (decodeL (s.data.toList.drop p))=true)∧w=w':=
 (zhk s p hp w hs).mono fun e w' hh=>⟨_,_,hh.1,(z5i _).1,(z5i _).2.1,(z5i _).2.2,hh.2⟩
set_option maxHeartbeats 400000 in
theorem zjh (s:ByteArray) (w:World) (hs:s.size≤maxLen):
  Calls Tryz.prog 150 #[.string s] w fun e w'=>e=.returned (.int .i64 ((hashL s.data.toList:Nat):Int))∧Below w.heap.size w w':=by
 unfold maxLen at hs
 go_enter Tryz.func150,Tryz.ntmps150
 go_wp2
 go_loopw [3] (fun n w'=>∃(pos acc:Nat),w'=w.iter s pos∧n=.int .u32 acc∧acc<4294967296∧hashFrom (s.data.toList.drop pos) acc=hashL s.data.toList) (fun _ w'=>s.size-w'.iterPos w.heap.size)
 case atStart=>exact⟨0,7,rfl,rfl,by omega,by simp[hashL]⟩
 case round=>
  obtain⟨pos,acc,rfl,rfl,hacc,hc⟩:=hrel
  by_cases hp:pos<s.size
  ·have hd:=z5d s pos;have hw:=z0v (s.data.toList.drop pos);have hle:=z4m (s.data.toList.drop pos);have hcc:=z5v _ acc (z5h hp);rw[hcc,←hd] at hc;rw[←hd] at hw hle;have hnx:∀ty,(Instr.next (.pointer (some ⟨w.heap.size,0,none⟩)) true ty).run Tryz.prog (w.iter s pos)=_:=fun ty=>run_next_any w s pos ty hp
   have Hc:=hid hc;clear hd hcc hc
   go_wp2
   go_roundw
   case rel=>exact⟨pos+(Utf8.decode s pos).2,hashStep acc (Utf8.decode s pos),rfl,z4p (by unfold hashStep;omega),z3j _ _,by have:=Hc.out;rw[List.drop_drop] at this;exact this⟩
   case measure=>simp;omega
  ·have hnx:∀ty,(Instr.next (.pointer (some ⟨w.heap.size,0,none⟩)) true ty).run Tryz.prog (w.iter s pos)=_:=fun ty=>run_next_end w s pos ty hp
   rw[z7r hp] at hc;have Hc:=hid hc;clear hc
   go_wp2
   go_ret;exact⟨z1m (by have:=Hc.out;rw[z7c] at this;omega),z2h _ _ _⟩
set_option maxHeartbeats 400000 in
theorem zdg (s:ByteArray) (w:World) (hs:s.size≤140737488355328):
  Calls Tryz.prog 138 #[.string s] w fun e w'=>e=.returned (.int .i64 ((hashL s.data.toList:Nat):Int))∧w=w':=by
 go_enter Tryz.func138,Tryz.ntmps138
 go_wp2_with fail
 go_loop [3,4] (fun n i=>∃(pos acc:Nat),i=.int .i64 pos∧n=.int .i64 acc∧pos≤s.size∧acc<4294967296∧hashFrom (s.data.toList.drop pos) acc=hashL s.data.toList) (fun _ i=>s.size-(intOf i).toNat)
 case atStart=>exact⟨0,7,rfl,rfl,by omega,by omega,by simp[hashL]⟩
 case round=>
  obtain⟨pos,acc,rfl,rfl,hps,hacc,hc⟩:=hrel
  by_cases hp:pos<s.size
  ·have hw:=z0v (s.data.toList.drop pos);have hle:=z4m (s.data.toList.drop pos);have hf:=z2u _ (z5h hp);rw[List.length_drop] at hf;have hsz:s.data.toList.length=s.size:=rfl;rw[hsz] at hf;have hcc:=z5v _ acc (z5h hp);rw[hcc] at hc;have Hc:=hid hc;clear hcc hc hsz;go_wp2_with fail;refine(zel s pos hp _ hs).mono ?_;rintro e w' ⟨c,k,rfl,hc1,hk1,hk2,rfl⟩;have hk1':k≤4:=by omega
   have hcle:c≤1114111:=by omega
   have Hc1:=hid hc1;have Hk1:=hid hk1;clear hc1 hk1 hk2
   by_cases hk0:1≤k
   ·go_wp2
    go_round
    case rel=>exact⟨pos+(decodeL (s.data.toList.drop pos)).2,hashStep acc (decodeL (s.data.toList.drop pos)),z4p (by have:=Hk1.out;omega),z4p (by have:=Hc1.out;unfold hashStep;omega),by omega,z3j _ _,by have:=Hc.out;rw[List.drop_drop] at this;exact this⟩
    case measure=>simp[intOf];omega
   ·obtain rfl:k=0:=by omega
    go_wp2
    go_round
    case rel=>exact⟨pos+(decodeL (s.data.toList.drop pos)).2,hashStep acc (decodeL (s.data.toList.drop pos)),z4p (by have:=Hk1.out;omega),z4p (by have:=Hc1.out;unfold hashStep;omega),by omega,z3j _ _,by have:=Hc.out;rw[List.drop_drop] at this;exact this⟩
    case measure=>simp[intOf];omega
  ·rw[z7r hp] at hc;have Hc:=hid hc;clear hc
   go_wp2
   go_ret;exact⟨z1m (by have:=Hc.out;rw[z7c] at this;omega),rfl⟩
set_option maxHeartbeats 400000 in
theorem z3n (s:ByteArray) (w:World) (hs:s.size≤140737488355328):
  Calls Tryz.prog 97 #[.string s] w fun e w'=>e=.returned (.int .i64 ((hashL s.data.toList%8:Nat):Int))∧w=w':=by
 have hh:=zje s.data.toList
 go_enter Tryz.func97,Tryz.ntmps97
 go_wp2_with fail;refine(zdg s _ hs).mono ?_;rintro e w' ⟨rfl,rfl⟩
 go_wp2
 go_ret;exact⟨z1m (by omega),rfl⟩
theorem z8j {l:List UInt8} (h:12<l.length):checkL l=801:=if_pos h
theorem z8k {l:List UInt8} (h:¬12<l.length) (k:l=[]∨l=[46]∨l=[46,46]):checkL l=800:=by unfold checkL;rw[if_neg h,if_pos k]
theorem z8l {l:List UInt8} (h:¬12<l.length) (k:¬(l=[]∨l=[46]∨l=[46,46])):checkL l=if anyBad l then 800 else 0:=by unfold checkL;rw[if_neg h,if_neg k]
theorem z1k (p:Nat×Nat):runeBad p=true↔(p.1=47∨p.1<32∨p.1=127∨badRune p=true):=by
 unfold runeBad;simp[or_assoc]
set_option maxHeartbeats 1000000 in
theorem z1l (s:ByteArray) (w:World) (hs:s.size≤140737488355328):
  Calls Tryz.prog 95 #[.string s] w fun e w'=>e=.returned (.int .i64 ((checkL s.data.toList:Nat):Int))∧w=w':=by
 have hsz:s.data.toList.length=s.size:=rfl;have htl:=ByteArray.toList_eq s
 by_cases hlong:12<s.size
 ·rw[z8j (by omega)];clear htl hsz
  go_enter Tryz.func95,Tryz.ntmps95
  go_wp2_with fail;go_ret;exact⟨rfl,rfl⟩
 by_cases hdots:s.data.toList=[]∨s.data.toList=[46]∨s.data.toList=[46,46]
 ·rw[z8k (by omega) hdots];rw[←htl] at hdots;clear htl hsz
  rcases hdots with h|h|h
  ·go_enter Tryz.func95,Tryz.ntmps95
   go_wp2_with fail;go_ret;exact⟨rfl,rfl⟩
  ·go_enter Tryz.func95,Tryz.ntmps95
   go_wp2_with fail;go_ret;exact⟨rfl,rfl⟩
  ·go_enter Tryz.func95,Tryz.ntmps95
   go_wp2_with fail;go_ret;exact⟨rfl,rfl⟩
 rw[z8l (by omega) hdots];obtain⟨R,hR⟩:∃R,(if anyBad s.data.toList=true then 800 else 0)=R:=⟨_,rfl⟩;rw[hR];have HR:=hid hR;clear hR;have hd0:s.toList.isEmpty=false:=by rw[htl];simpa using fun e=>hdots (.inl e)
 have hd1:(s.toList==[46])=false:=by rw[htl,beq_eq_false_iff_ne];exact fun e=>hdots (.inr (.inl e))
 have hd2:(s.toList==[46,46])=false:=by rw[htl,beq_eq_false_iff_ne];exact fun e=>hdots (.inr (.inr e))
 have he0:¬s.toList=[]:=by rw[htl];exact fun e=>hdots (.inl e)
 have he1:¬s.toList=[46]:=by rw[htl];exact fun e=>hdots (.inr (.inl e))
 have he2:¬s.toList=[46,46]:=by rw[htl];exact fun e=>hdots (.inr (.inr e))
 clear htl hsz hdots
 go_enter Tryz.func95,Tryz.ntmps95
 go_wp2_with fail;clear hd0 hd1 hd2 he0 he1 he2
 go_loop [3] (fun i=>∃(pos:Nat),i=.int .i64 pos∧pos≤s.size∧anyBad (s.data.toList.drop pos)=anyBad s.data.toList) (fun i=>s.size-(intOf i).toNat)
 case atStart=>exact⟨0,rfl,by omega,by simp⟩
 case round =>
  obtain⟨pos,rfl,hps,hc⟩:=hrel
  by_cases hp:pos<s.size
  ·have hw:=z0v (s.data.toList.drop pos);have hf:=z2u _ (z5h hp);rw[List.length_drop] at hf;have hsz:s.data.toList.length=s.size:=rfl;rw[hsz] at hf;have hcc:=z8h _ (z5h hp);rw[hcc] at hc;have Hc:=hid hc;clear hcc hc hsz;go_wp2_with fail;refine(zel s pos hp _ hs).mono ?_;rintro e w' ⟨c,k,rfl,hc1,hk1,hk2,rfl⟩;have hk1':k≤4:=by omega
   have Hk1:=hid hk1
   by_cases hb:runeBad (decodeL (s.data.toList.drop pos))=true
   ·have hbad:anyBad s.data.toList=true:=by rw[←Hc.out,hb];rfl
    rw[z1k,←hc1,←hk2] at hb;have HB:=hid hbad;clear hc1 hk1 hk2 hbad
    by_cases c0:k=0
    ·subst c0
     go_wp2
     go_ret;exact⟨z1m (by have:=HR.out;rw[if_pos HB.out] at this;omega),rfl⟩
    ·by_cases c1:c=47
     ·subst c1
      go_wp2
      go_ret;exact⟨z1m (by have:=HR.out;rw[if_pos HB.out] at this;omega),rfl⟩
     ·by_cases c2:c<32
      ·clear hb
       go_wp2
       go_ret;exact⟨z1m (by have:=HR.out;rw[if_pos HB.out] at this;omega),rfl⟩
      ·obtain rfl:c=127:=by omega
       go_wp2
       go_ret;exact⟨z1m (by have:=HR.out;rw[if_pos HB.out] at this;omega),rfl⟩
   ·have hn:anyBad (s.data.toList.drop (pos+(decodeL (s.data.toList.drop pos)).2))=anyBad s.data.toList:=by
     rw[←Hc.out,Bool.eq_false_iff.2 hb,List.drop_drop];rfl
    rw[z1k,←hc1,←hk2] at hb;have c0:1≤k:=by omega
    have c1:¬c=47:=by omega
    have c2:¬c<32:=by omega
    have c3:¬c=127:=by omega
    have q0:((k:Int)==0)=false:=by rw[beq_eq_false_iff_ne];omega
    have q1:((c:Int)==47)=false:=by rw[beq_eq_false_iff_ne];omega
    have q3:((c:Int)==127)=false:=by rw[beq_eq_false_iff_ne];omega
    have q2:decide ((c:Int)<32)=false:=by simp;omega
    have HN:=hid hn;clear hc1 hk1 hk2 hb hn
    go_wp2
    go_round
    case rel=>exact⟨pos+(decodeL (s.data.toList.drop pos)).2,z4p (by have:=Hk1.out;omega),by omega,HN.out⟩
    case measure=>simp[intOf];omega
  ·rw[z7r hp,z9y] at hc;have Hc:=hid hc;clear hc
   go_wp2
   go_ret;exact⟨z1m (by have:=HR.out;rw[if_neg (by rw[←Hc.out];simp)] at this;omega),rfl⟩
theorem z3o (w:World) (num:Int) (dir:Bool) (E:Option Addr) (m d:Nat) (data:ByteArray):∃W,w.alloc (.cells #[.int .i64 num,.bool dir,.slice E m d,.string data] 59)=W∧W.cell? ⟨w.heap.size,0,.none⟩=some (.int .i64 num)∧W.cell? ⟨w.heap.size,1,.none⟩=some (.bool dir)∧W.cell? ⟨w.heap.size,2,.none⟩=some (.slice E m d)∧W.cell? ⟨w.heap.size,3,.none⟩=some (.string data)∧Below w.heap.size w W∧w.heap.size<W.heap.size:=by
 refine⟨_,rfl,?_,?_,?_,?_,(Below.refl _ _).alloc (Nat.le_refl _) _,by simp⟩
 ·exact(World.cell?_alloc_mark w _ _ (0,0) _).trans rfl
 ·exact(World.cell?_alloc_mark w _ _ (0,0) _).trans rfl
 ·exact(World.cell?_alloc_mark w _ _ (0,0) _).trans rfl
 ·exact(World.cell?_alloc_mark w _ _ (0,0) _).trans rfl
theorem z8m (w:World) (name:ByteArray) (num:Int):∃W,w.alloc (.cells #[.string name,.int .i64 num] 73)=W∧W.cell? ⟨w.heap.size,0,.none⟩=some (.string name)∧W.cell? ⟨w.heap.size,1,.none⟩=some (.int .i64 num)∧Below w.heap.size w W∧w.heap.size<W.heap.size:=by
 refine⟨_,rfl,?_,?_,(Below.refl _ _).alloc (Nat.le_refl _) _,by simp⟩
 ·exact(World.cell?_alloc_mark w _ _ (0,0) _).trans rfl
 ·exact(World.cell?_alloc_mark w _ _ (0,0) _).trans rfl
def ManyAt (w:World) (M:Nat) (f:Nat→Nat):Prop:=∃cur:Array Value,w.heap[M]? =some (.cells cur 3 (0,0))∧∀j,j<8→cur[j]? =some (.int .i64 (f j:Nat))
theorem ManyAt.lt {w:World} {M:Nat} {f:Nat→Nat} (h:ManyAt w M f):M<w.heap.size:=by
 obtain⟨cur,hh,_⟩:=h;exact(Array.getElem?_eq_some_iff.1 hh).1
theorem ManyAt.below {w w':World} {M:Nat} {f:Nat→Nat} (h:ManyAt w M f) (hb:Below w.heap.size w w'):ManyAt w' M f:=by
 have hl:=h.lt;obtain⟨cur,hh,hc⟩:=h;exact⟨cur,(hb.block M hl).trans hh,hc⟩
theorem ManyAt.get {w:World} {M:Nat} {f:Nat→Nat} (h:ManyAt w M f) (j:Nat) (hj:j<8):w.cell? ⟨M,j,.none⟩=some (.int .i64 (f j:Nat))∧w.frozen? ⟨M,j,.none⟩=false:=by
 obtain⟨cur,hh,hc⟩:=h;exact⟨by rw[cell_of_row w M j cur _ (0,0) hh];exact hc j hj,frozen_of_row w M j cur _ hh⟩
theorem ManyAt.set {w:World} {M:Nat} {f:Nat→Nat} (h:ManyAt w M f) (b:Nat) (hb:b<8):ManyAt (w.setCell ⟨M,b,.none⟩ (.int .i64 ((f b:Int)+1))) M (fun j=>if j=b then f j+1 else f j):=by
 obtain⟨cur,hh,hc⟩:=h;refine⟨_,heap_setCell_same w M b cur _ _ hh,fun j hj=>?_⟩;rw[Array.getElem?_setIfInBounds]
 by_cases e:b=j
 ·subst e;have:b<cur.size:=(Array.getElem?_eq_some_iff.1 (hc b hb)).1;simp[this]
 ·have e2:¬j=b:=fun h=>e h.symm
  simp only[e,e2,if_false];exact hc j hj
theorem zfu (w:World):(Instr.makeSlice 24 (.int .i64 8) (.int .i64 8)).run Tryz.prog w=.ok (.slice (some ⟨w.heap.size,0,.none⟩) 8 8) (w.alloc (.cells #[.int .i64 0,.int .i64 0,.int .i64 0,.int .i64 0,.int .i64 0,.int .i64 0,.int .i64 0,.int .i64 0] 3)):=by kernel_rfl
theorem zfv (w:World):∃W,w.alloc (.cells #[.int .i64 0,.int .i64 0,.int .i64 0,.int .i64 0,.int .i64 0,.int .i64 0,.int .i64 0,.int .i64 0] 3)=W∧ManyAt W w.heap.size (fun _=>0)∧Below w.heap.size w W:=by
 refine⟨_,rfl,⟨_,heap_alloc_new w _,fun j hj=>?_⟩,(Below.refl _ _).alloc (Nat.le_refl _) _⟩;have:j=0∨j=1∨j=2∨j=3∨j=4∨j=5∨j=6∨j=7:=by omega
 rcases this with h|h|h|h|h|h|h|h<;>subst h<;>rfl
def prevN (es:List En) (k:Nat):Option ByteArray:=if k=0 then none else(es[k-1]?).map (·.name)
theorem zkt (s:ByteArray):bktB s<8:=Nat.mod_lt _ (by omega)
set_option maxRecDepth 100000 in
set_option maxHeartbeats 8000000 in
theorem z0f (v : Value) (s : St) (w : World) (h : StAt none w v s) (x : Ino) (E : Option Addr) (m2 d2 : Nat) (hE : EntsAt none w E m2 x.ents) (hmd : SlOk E m2 d2) (hm2 : m2 ≤ 1099511627776) (htx : ∀ e ∈ x.ents, e.name.size ≤ 140737488355328) :
  Calls Tryz.prog 44 #[v,.agg #[.int .i64 x.num,.bool x.dir,.slice E m2 d2,.string x.data]] w fun e w'=>e=.returned (.bool (entsV s.inos x.ents))∧Below w.heap.size w w':=by
 obtain⟨⟨A,n,c,B,m,d,D,k,e,rfl,hI,hD,hM,h5,h6,h7⟩,hz⟩:=h;obtain⟨R,hR⟩:∃R,entsV s.inos x.ents=R:=⟨_,rfl⟩;rw[hR];unfold entsV at hR;obtain⟨W,hW,b0,b1,b2,hal,hlt0⟩:=z1p w A n c B m d D k e;obtain⟨U,hU,y0,y1,y2,y3,hal2,hlt2⟩:=z3o W x.num x.dir E m2 d2 x.data;obtain⟨V,hV,hmany,hal3⟩:=zfv U;have bb0:=(hal2.cell (p:=⟨w.heap.size,0,.none⟩) hlt0).trans b0;have bb1:=(hal2.cell (p:=⟨w.heap.size,1,.none⟩) hlt0).trans b1;have bb2:=(hal2.cell (p:=⟨w.heap.size,2,.none⟩) hlt0).trans b2;have HS:=hid ((StAt.of_parts hI hD hM h5 h6 h7 hz).below (Cv.next hal hal2));have HE:=hid (hE.below (Cv.next hal hal2));have HAL:=hid (Cv.next hal hal2);have HAL3:=hid hal3;have HR:=hid hR;have HTX:=hid htx;have HMY:=hid hmany;have hmk:=zfu U;have hlt3:w.heap.size<U.heap.size:=Nat.lt_of_lt_of_le hlt0 hal2.size;clear hI hD hM hz hR hal hal2 hE htx b0 b1 b2 hmany hal3
 go_enter Tryz.func44,Tryz.ntmps44
 go_wp2_with fail;clear hW hU hmk hV
 go_loopw [6,7,8] (fun i _ _ wr=>∃(k:Nat) (f:Nat→Nat),i=.int .i64 k∧k≤m2∧Below U.heap.size U wr∧ManyAt wr U.heap.size f∧(∀j,f j≤k)∧entsG s.inos (x.ents.drop k) (prevN x.ents k) f=R) (fun i _ _ _=>m2-(intOf i).toNat)
 case atStart=>exact⟨0,fun _=>0,rfl,by omega,HAL3.out,HMY.out,fun _=>Nat.le_refl _,HR.out⟩
 case round =>
  obtain⟨k,f,rfl,hk,hbel,hmy,hfk,hc⟩:=hrel;have z0:=(hbel.cell (p:=⟨w.heap.size,0,.none⟩) hlt3).trans bb0;have z1:=(hbel.cell (p:=⟨w.heap.size,1,.none⟩) hlt3).trans bb1;have z2:=(hbel.cell (p:=⟨w.heap.size,2,.none⟩) hlt3).trans bb2;have z3:=(hbel.cell (p:=⟨W.heap.size,2,.none⟩) hlt2).trans y2;have HB:=hid hbel;have HM:=hid hmy;have HF:=hid hfk;have HSr:=hid (HS.out.below hbel);have HEr:=hid (HE.out.below hbel);clear hbel hmy hfk
  by_cases hlt:k<m2
  ·obtain⟨g,off,y,rfl,hg,hy,hd,hmem,e0,e1⟩:=HEr.out.get k hlt;rw[hd,entsG] at hc;have hsz:=HTX.out y hmem;have k0:(0:Int)≤(k:Int):=by omega
   have k1:(k:Int)<(m2:Int):=by omega
   obtain⟨BD,hBD⟩:∃BD,entBad s.inos (prevN x.ents k) y=BD:=⟨_,rfl⟩;rw[hBD] at hc;have HBD:=hid hBD;have HC:=hid hc;have HY:=hid hy;clear hBD;clear hc hd hmem hy;obtain⟨V2,hV2,v0,v1,hal4,hlt4⟩:=z8m wr y.name y.num;have HAL4:=hid hal4;have HSV:=hid (HSr.out.below hal4);have HEV:=hid (HEr.out.below hal4);clear hal4;go_upto_region 6 with fail
   have x0:=(HAL4.out.cell (p:=⟨w.heap.size,0,.none⟩) (Nat.lt_of_lt_of_le hlt3 HB.out.size)).trans z0;have x1:=(HAL4.out.cell (p:=⟨w.heap.size,1,.none⟩) (Nat.lt_of_lt_of_le hlt3 HB.out.size)).trans z1;have x2:=(HAL4.out.cell (p:=⟨w.heap.size,2,.none⟩) (Nat.lt_of_lt_of_le hlt3 HB.out.size)).trans z2;have x3:=(HAL4.out.cell (p:=⟨W.heap.size,2,.none⟩) (Nat.lt_of_lt_of_le hlt2 HB.out.size)).trans z3;have hx:∀(X:Ext V2) (p:Addr),(V2.cell? p).isSome=true→X.w.cell? p=V2.cell? p:=fun X p h=>X.cell p h
   have hsp:(0:Nat)≤0:=Nat.le_refl _;clear hV2 z0 z1 z2 z3 e0 e1
   go_cut [54] (fun c wx=>c=.bool BD∧∃X:Ext V2,wx=X.w)
   case first =>
    by_cases hchk:checkL y.name.data.toList=0
    ·have qc:(((checkL y.name.data.toList:Nat):Int) != 0)=false:=by rw[hchk];rfl
     by_cases hk0:k=0
     ·have q1:decide ((0:Int)<(k:Int))=false:=by simp;omega
      have hp:prevN x.ents k=none:=if_pos hk0
      by_cases hnum:y.num=1
      ·have q2:(y.num==1)=true:=by rw[hnum];rfl
       refine wre ?_
       repeat (go_big_quiet_step (first|(go_at_call 95;rename_i X;exact Calls.ext_of_same (z1l _ _ hsz))|(go_at_call 96;rename_i X;exact Calls.ext_of ((z5g _ _ _ hsp hsz).mono fun _ _ hh=>⟨hh.1,by obtain⟨q,rfl⟩:=hh.2;exact Cv.drewN_below (Below.refl _ _) q⟩))|(go_at_call 94;rename_i X;exact Calls.ext_of (z0o _ s _ _ (HSV.out.below X.bel)))))
       refine wpQuiet_nil ?_;rintro w7 ⟨X,rfl⟩;go_wp2_with fail;go_meet;exact⟨congrArg Value.bool (by rw[←HBD.out];unfold entBad chkB;rw[hp];simp[hchk,hnum]),X,rfl⟩
      ·have q2:(y.num==1)=false:=by rw[beq_eq_false_iff_ne];exact hnum
       refine wre ?_
       repeat (go_big_quiet_step (first|(go_at_call 95;rename_i X;exact Calls.ext_of_same (z1l _ _ hsz))|(go_at_call 96;rename_i X;exact Calls.ext_of ((z5g _ _ _ hsp hsz).mono fun _ _ hh=>⟨hh.1,by obtain⟨q,rfl⟩:=hh.2;exact Cv.drewN_below (Below.refl _ _) q⟩))|(go_at_call 94;rename_i X;exact Calls.ext_of (z0o _ s _ _ (HSV.out.below X.bel)))))
       refine wpQuiet_nil ?_;rintro w7 ⟨X,rfl⟩;go_wp2_with fail;go_meet;exact⟨congrArg Value.bool (by rw[←HBD.out];unfold entBad chkB;rw[hp];simp[hchk,hnum]),X,rfl⟩
     ·obtain⟨j,rfl⟩:∃j,k=j+1:=⟨k-1,by omega⟩;have q1:decide ((0:Int)<((j+1:Nat):Int))=true:=by rw[decide_eq_true_eq];omega
      have q1b:decide ((0:Int)<(j:Int)+1)=true:=by rw[decide_eq_true_eq];omega
      obtain⟨g',off',y',hA',hg',hy',_,hmem',f0,f1⟩:=HEV.out.get j (by omega);injection hA' with hA'
      injection hA' with hA1 hA2
      subst hA1 hA2;have hsp:=HTX.out y' hmem';have hp:prevN x.ents (j+1)=some y'.name:=by unfold prevN;rw[if_neg (by omega),Nat.add_sub_cancel,hy'];rfl
      have j0:(0:Int)≤(j:Int):=by omega
      have j1:(j:Int)<(m2:Int):=by omega
      have jw:IntKind.i64.wrap ((j:Int)+1-1)=(j:Int):=by rw[IntKind.wrap_i64];omega
      have HP:=hid hp;clear hp hy' hmem' hk0
      by_cases hlt2:ltN y'.name y.name=true
      ·by_cases hnum:y.num=1
       ·have q2:(y.num==1)=true:=by rw[hnum];rfl
        refine wre ?_
        repeat (go_big_quiet_step (first|(go_at_call 95;rename_i X;exact Calls.ext_of_same (z1l _ _ hsz))|(go_at_call 96;rename_i X;exact Calls.ext_of ((z5g _ _ _ hsp hsz).mono fun _ _ hh=>⟨hh.1,by obtain⟨q,rfl⟩:=hh.2;exact Cv.drewN_below (Below.refl _ _) q⟩))|(go_at_call 94;rename_i X;exact Calls.ext_of (z0o _ s _ _ (HSV.out.below X.bel)))))
        refine wpQuiet_nil ?_;rintro w7 ⟨X,rfl⟩;go_wp2_with fail;go_meet;exact⟨congrArg Value.bool (by rw[←HBD.out];unfold entBad chkB;rw[HP.out];simp[hchk,hnum,hlt2]),X,rfl⟩
       ·have q2:(y.num==1)=false:=by rw[beq_eq_false_iff_ne];exact hnum
        refine wre ?_
        repeat (go_big_quiet_step (first|(go_at_call 95;rename_i X;exact Calls.ext_of_same (z1l _ _ hsz))|(go_at_call 96;rename_i X;exact Calls.ext_of ((z5g _ _ _ hsp hsz).mono fun _ _ hh=>⟨hh.1,by obtain⟨q,rfl⟩:=hh.2;exact Cv.drewN_below (Below.refl _ _) q⟩))|(go_at_call 94;rename_i X;exact Calls.ext_of (z0o _ s _ _ (HSV.out.below X.bel)))))
        refine wpQuiet_nil ?_;rintro w7 ⟨X,rfl⟩;go_wp2_with fail;go_meet;exact⟨congrArg Value.bool (by rw[←HBD.out];unfold entBad chkB;rw[HP.out];simp[hchk,hnum,hlt2]),X,rfl⟩
      ·have hlt3:ltN y'.name y.name=false:=by simpa using hlt2
       refine wre ?_
       repeat (go_big_quiet_step (first|(go_at_call 95;rename_i X;exact Calls.ext_of_same (z1l _ _ hsz))|(go_at_call 96;rename_i X;exact Calls.ext_of ((z5g _ _ _ hsp hsz).mono fun _ _ hh=>⟨hh.1,by obtain⟨q,rfl⟩:=hh.2;exact Cv.drewN_below (Below.refl _ _) q⟩))|(go_at_call 94;rename_i X;exact Calls.ext_of (z0o _ s _ _ (HSV.out.below X.bel)))))
       refine wpQuiet_nil ?_;rintro w7 ⟨X,rfl⟩;go_wp2_with fail;go_meet;exact⟨congrArg Value.bool (by rw[←HBD.out];unfold entBad chkB;rw[HP.out];simp[hchk,hlt3]),X,rfl⟩
    ·have qc:(((checkL y.name.data.toList:Nat):Int) != 0)=true:=by rw[bne_iff_ne];omega
     refine wre ?_
     repeat (go_big_quiet_step (first|(go_at_call 95;rename_i X;exact Calls.ext_of_same (z1l _ _ hsz))|(go_at_call 96;rename_i X;exact Calls.ext_of ((z5g _ _ _ hsp hsz).mono fun _ _ hh=>⟨hh.1,by obtain⟨q,rfl⟩:=hh.2;exact Cv.drewN_below (Below.refl _ _) q⟩))|(go_at_call 94;rename_i X;exact Calls.ext_of (z0o _ s _ _ (HSV.out.below X.bel)))))
     refine wpQuiet_nil ?_;rintro w7 ⟨X,rfl⟩;go_wp2_with fail;go_meet;exact⟨congrArg Value.bool (by rw[←HBD.out];unfold entBad chkB;simp[hchk]),X,rfl⟩
   case rest=>
    obtain⟨rfl,X,rfl⟩:=hcut;generalize hZe:X.w=Z;have hZ:=hZe▸X.bel;clear hZe X;have hbx:=Cv.next HAL4.out hZ;have e0:=(hZ.cell (p:=⟨wr.heap.size,0,.none⟩) hlt4).trans v0;have hU:=Cv.next HB.out hbx;have HMZ:=hid (HM.out.below hbx);have HUZ:=hid hU;clear hx x0 x1 x2 x3 v0 v1 hbx hU hZ;cases BD;rotate_left
    ·have hr:=HC.out;rw[if_pos rfl] at hr;have HR2:=hid hr;clear hr;go_wp2_with fail;go_ret;exact⟨Cv.ret_bool HR2.out,Cv.next HAL.out HUZ.out⟩
    ·have hr:=HC.out;rw[if_neg (by simp)] at hr;obtain⟨b,hb⟩:∃b,hashL y.name.data.toList%8=b:=⟨_,rfl⟩;have hbk:bktB y.name=b:=hb;rw[hbk] at hr;have hb8:b<8:=by rw[←hb];exact Nat.mod_lt _ (by omega)
     have hfb:=HF.out b;obtain⟨cb,fz⟩:=HMZ.out.get b hb8;have b0:(0:Int)≤(b:Int):=by omega
     have b8:(b:Int)<8:=by omega
     have wf:IntKind.i64.wrap ((f b:Int)+1)=(f b:Int)+1:=by rw[IntKind.wrap_i64];omega
     have HBK:=hid hb;have HR2:=hid hr;clear hr hbk hb;go_wp2_with fail;refine(z3n y.name _ hsz).mono ?_;rintro e w2 ⟨rfl,rfl⟩;rw[HBK.out]
     by_cases h4:4<f b+1
     ·have hr:=HR2.out;rw[if_pos h4] at hr;have HR3:=hid hr;have q4:decide ((4:Int)<(f b:Int)+1)=true:=by simp;omega
      clear hr;go_wp2_with fail;go_ret;exact⟨Cv.ret_bool HR3.out,Cv.next HAL.out (HUZ.out.setCell (Nat.le_refl _) _)⟩
     ·have hr:=HR2.out;rw[if_neg h4] at hr;have HR3:=hid hr;have q4:decide ((4:Int)<(f b:Int)+1)=false:=by simp;omega
      clear hr;go_wp2_with fail;go_roundw
      case rel=>exact⟨k+1,fun j=>if j=b then f j+1 else f j,by go_num,by omega,HUZ.out.setCell (Nat.le_refl _) _,HMZ.out.set b hb8,fun j=>by have:=HF.out j;simp only;split<;>omega,by
       have e:prevN x.ents (k+1)=some y.name:=by unfold prevN;rw[if_neg (by omega),Nat.add_sub_cancel,HY.out];rfl
       rw[e];exact HR3.out⟩
      case measure=>simp[intOf];omega
  ·have:x.ents.drop k=[]:=List.drop_eq_nil_of_le (by have:=HEr.out.1;omega);rw[this,entsG] at hc;have HC:=hid hc;clear hc this;go_wp2_with fail;go_ret;exact⟨Cv.ret_bool HC.out,Cv.next HAL.out HB.out⟩
end Go.Proofs.YtmmpkfcdfcldlaaGreat
