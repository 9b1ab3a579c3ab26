/- Parts of the proof, side by side: Rune1, RefCheck, Check, May, RefParse. -/
import Derived.Test.YtkflaifopbodfaaGreatDoorM02
import Derived.Test.YtkflaifopbodfaaGreatDoorM00
set_option linter.unusedVariables false
set_option linter.unusedSimpArgs false
namespace Go.Proofs.YtkflaifopbodfaaGreatDoor
open Lib (hid)
open Go.RowKit
theorem getD_at {s:ByteArray} {i:Nat} (h:i<s.size):s.data.toList.getD i 0=s[i]:=by
 have h':i<s.data.size:=h;rw[List.getD_eq_getElem?_getD,Array.getElem?_toList,Array.getElem?_eq_getElem h']
 rfl
set_option maxHeartbeats 400000 in
theorem zc7 (s:ByteArray) (i:Int) (h0:0≤i) (h1:i≤9223372036854775806) (w:World) (hs:s.size≤maxLen):
  Calls Tryz.prog 150 #[.string s,.int .i64 i] w fun e w'=>e=.returned (.int .i64 (nextL s.data.toList i.toNat))∧w=w':=by
 unfold maxLen at hs;obtain⟨n,rfl⟩:=Int.eq_ofNat_of_zero_le h0;rw[Int.toNat_natCast];have hsz:s.data.toList.length=s.size:=rfl
 by_cases hn:n<s.size
 ·have hg:=getD_at hn;obtain⟨v,hv⟩:∃v:UInt8,s[n]=v:=⟨_,rfl⟩;have hvl:=v.toNat_lt
  have e:nextL s.data.toList n=if 128≤v.toNat∧v.toNat≤191 then(v.toNat:Int)-128 else -1:=by
   unfold nextL;rw[hsz,hg,hv];simp[hn]
  rw[e];clear e hg hsz
  by_cases c1:v.toNat<128
  ·rw[if_neg (by omega)]
   go_enter Tryz.func150,Tryz.ntmps150
   go_wp2
   go_ret;exact⟨rfl,rfl⟩
  ·by_cases c2:v.toNat≤191
   ·rw[if_pos (by omega)]
    go_enter Tryz.func150,Tryz.ntmps150
    go_wp2
    go_ret;exact⟨rfl,rfl⟩
   ·rw[if_neg (by omega)]
    go_enter Tryz.func150,Tryz.ntmps150
    go_wp2
    go_ret;exact⟨rfl,rfl⟩
 ·have e:nextL s.data.toList n=-1:=by unfold nextL;rw[if_neg (by omega)]
  rw[e];clear e hsz
  go_enter Tryz.func150,Tryz.ntmps150
  go_wp2
  go_ret;exact⟨rfl,rfl⟩
theorem zjo {x y:Int} {q:Int×Int} (h:(x,y)=q):Ending.returned (.tuple #[.int .i64 x,.int .i64 y])=.returned (.tuple #[.int .i64 q.1,.int .i64 q.2]):=by rw[←h]
set_option maxRecDepth 100000 in
set_option maxHeartbeats 1000000 in
theorem zjp (s:ByteArray) (p:Nat) (hp:p<s.size) (w:World) (hs:s.size≤140737488355328):
  Calls Tryz.prog 121 #[.string s,.int .i64 (p:Int)] w fun e w'=>e=.returned (.tuple #[.int .i64 ((rune1L (s.data.toList.drop p)).1:Int),.int .i64 ((rune1L (s.data.toList.drop p)).2:Int)])∧w=w':=by
 have hl:=zhw _ (z5t hp);simp only[zhu] at hl
 have hg:(s.data.toList.drop p).getD 0 0=s[p]:=by
  rw[←getD_at hp];simp[List.getD_eq_getElem?_getD,List.getElem?_drop]
 rw[hg] at hl;obtain⟨v,hv⟩:∃v:UInt8,s[p]=v:=⟨_,rfl⟩;have hvl:=v.toNat_lt;rw[hv] at hl;obtain⟨a,ha⟩:∃a,nextL s.data.toList (p+1)=a:=⟨_,rfl⟩;obtain⟨b,hb⟩:∃a,nextL s.data.toList (p+2)=a:=⟨_,rfl⟩;obtain⟨d,hd⟩:∃a,nextL s.data.toList (p+3)=a:=⟨_,rfl⟩;have ra:=z5q s.data.toList (p+1);have rb:=z5q s.data.toList (p+2);have rd:=z5q s.data.toList (p+3);rw[ha] at ra hl;rw[hb] at rb hl;rw[hd] at rd hl;have hl1:=congrArg Prod.fst hl;have hl2:=congrArg Prod.snd hl;simp only at hl1 hl2;rw[←hl1,←hl2];clear hl hl1 hl2 hg;have HA:=hid ha;have HB:=hid hb;have HD:=hid hd;clear ha hb hd
 go_enter Tryz.func121,Tryz.ntmps121
 go_wp2_with fail;refine(zc7 s _ (by omega) (by omega) _ (by unfold maxLen;omega)).mono ?_;rintro e w' ⟨rfl,rfl⟩;rw[show((p:Int)+1).toNat=p+1 by omega,HA.out];go_wp2_with fail;refine(zc7 s _ (by omega) (by omega) _ (by unfold maxLen;omega)).mono ?_;rintro e w' ⟨rfl,rfl⟩;rw[show((p:Int)+2).toNat=p+2 by omega,HB.out];go_wp2_with fail;refine(zc7 s _ (by omega) (by omega) _ (by unfold maxLen;omega)).mono ?_;rintro e w' ⟨rfl,rfl⟩;rw[show((p:Int)+3).toNat=p+3 by omega,HD.out];go_wp2_with fail
 all_goals
  go_ret2;refine⟨zjo ?_,rfl⟩;unfold rune1I
  repeat' split
  all_goals first|rfl|(exfalso;omega)|exact zjk (by omega) (by omega)
theorem z5u (l:List UInt8):(rune1L l).1=(decodeL l).1∧max (rune1L l).2 1=(decodeL l).2∧((rune1L l).2=0↔badRune (decodeL l)=true):=by
 have hw:=z0p l;unfold rune1L
 by_cases h:badRune (decodeL l)=true
 ·rw[if_pos h];have h':=h;unfold badRune at h';simp at h';refine⟨h'.1.symm,?_,?_⟩
  ·rw[h'.2];rfl
  ·simp[h]
 ·rw[if_neg h];refine⟨rfl,Nat.max_eq_left hw.1,?_⟩
  constructor
  ·intro e;omega
  ·intro e;exact absurd e h
theorem zgh (s:ByteArray) (p:Nat) (hp:p<s.size) (w:World) (hs:s.size≤140737488355328):
  Calls Tryz.prog 121 #[.string s,.int .i64 (p:Int)] w fun e w'=>∃c k:Nat,e=.returned (.tuple #[.int .i64 (c:Int),.int .i64 (k:Int)])∧c=(decodeL (s.data.toList.drop p)).1∧max k 1=(decodeL (s.data.toList.drop p)).2∧(k=0↔badRune (decodeL (s.data.toList.drop p))=true)∧w=w':=
 (zjp s p hp w hs).mono fun e w' hh=>⟨_,_,hh.1,(z5u _).1,(z5u _).2.1,(z5u _).2.2,hh.2⟩
theorem z9r {l:List UInt8} (h:12<l.length):checkL l=801:=if_pos h
theorem z9s {l:List UInt8} (h:¬12<l.length) (k:l=[]∨l=[46]∨l=[46,46]):checkL l=800:=by unfold checkL;rw[if_neg h,if_pos k]
theorem z9t {l:List UInt8} (h:¬12<l.length) (k:¬(l=[]∨l=[46]∨l=[46,46])):checkL l=if anyBad l then 800 else 0:=by unfold checkL;rw[if_neg h,if_neg k]
theorem z1e (p:Nat×Nat):runeBad p=true↔(p.1=47∨p.1<32∨p.1=127∨badRune p=true):=by
 unfold runeBad;simp[or_assoc]
set_option maxHeartbeats 1000000 in
theorem z1f (s:ByteArray) (w:World) (hs:s.size≤140737488355328):
  Calls Tryz.prog 88 #[.string s] w fun e w'=>e=.returned (.int .i64 ((checkL s.data.toList:Nat):Int))∧w=w':=by
 have hsz:s.data.toList.length=s.size:=rfl;have htl:=ByteArray.toList_eq s
 by_cases hlong:12<s.size
 ·rw[z9r (by omega)];clear htl hsz
  go_enter Tryz.func88,Tryz.ntmps88
  go_wp2_with fail;go_ret;exact⟨rfl,rfl⟩
 by_cases hdots:s.data.toList=[]∨s.data.toList=[46]∨s.data.toList=[46,46]
 ·rw[z9s (by omega) hdots];rw[←htl] at hdots;clear htl hsz
  rcases hdots with h|h|h
  ·go_enter Tryz.func88,Tryz.ntmps88
   go_wp2_with fail;go_ret;exact⟨rfl,rfl⟩
  ·go_enter Tryz.func88,Tryz.ntmps88
   go_wp2_with fail;go_ret;exact⟨rfl,rfl⟩
  ·go_enter Tryz.func88,Tryz.ntmps88
   go_wp2_with fail;go_ret;exact⟨rfl,rfl⟩
 rw[z9t (by omega) hdots];obtain⟨R,hR⟩:∃R,(if anyBad s.data.toList=true then 800 else 0)=R:=⟨_,rfl⟩;rw[hR];have HR:=hid hR;clear hR;have hd0:s.toList.isEmpty=false:=by rw[htl];simpa using fun e=>hdots (.inl e)
 have hd1:(s.toList==[46])=false:=by rw[htl,beq_eq_false_iff_ne];exact fun e=>hdots (.inr (.inl e))
 have hd2:(s.toList==[46,46])=false:=by rw[htl,beq_eq_false_iff_ne];exact fun e=>hdots (.inr (.inr e))
 have he0:¬s.toList=[]:=by rw[htl];exact fun e=>hdots (.inl e)
 have he1:¬s.toList=[46]:=by rw[htl];exact fun e=>hdots (.inr (.inl e))
 have he2:¬s.toList=[46,46]:=by rw[htl];exact fun e=>hdots (.inr (.inr e))
 clear htl hsz hdots
 go_enter Tryz.func88,Tryz.ntmps88
 go_wp2_with fail;clear hd0 hd1 hd2 he0 he1 he2
 go_loop [3] (fun i=>∃(pos:Nat),i=.int .i64 pos∧pos≤s.size∧anyBad (s.data.toList.drop pos)=anyBad s.data.toList) (fun i=>s.size-(intOf i).toNat)
 case atStart=>exact⟨0,rfl,by omega,by simp⟩
 case round =>
  obtain⟨pos,rfl,hps,hc⟩:=hrel
  by_cases hp:pos<s.size
  ·have hw:=z0p (s.data.toList.drop pos);have hf:=z2q _ (z5t hp);rw[List.length_drop] at hf;have hsz:s.data.toList.length=s.size:=rfl;rw[hsz] at hf;have hcc:=z5p _ (z5t hp);rw[hcc] at hc;have Hc:=hid hc;clear hcc hc hsz;go_wp2_with fail;refine(zgh s pos hp _ hs).mono ?_;rintro e w' ⟨c,k,rfl,hc1,hk1,hk2,rfl⟩;have hk1':k≤4:=by omega
   have Hk1:=hid hk1
   by_cases hb:runeBad (decodeL (s.data.toList.drop pos))=true
   ·have hbad:anyBad s.data.toList=true:=by rw[←Hc.out,hb];rfl
    rw[z1e,←hc1,←hk2] at hb;have HB:=hid hbad;clear hc1 hk1 hk2 hbad
    by_cases c0:k=0
    ·subst c0
     go_wp2
     go_ret;exact⟨z1j (by have:=HR.out;rw[if_pos HB.out] at this;omega),rfl⟩
    ·by_cases c1:c=47
     ·subst c1
      go_wp2
      go_ret;exact⟨z1j (by have:=HR.out;rw[if_pos HB.out] at this;omega),rfl⟩
     ·by_cases c2:c<32
      ·clear hb
       go_wp2
       go_ret;exact⟨z1j (by have:=HR.out;rw[if_pos HB.out] at this;omega),rfl⟩
      ·obtain rfl:c=127:=by omega
       go_wp2
       go_ret;exact⟨z1j (by have:=HR.out;rw[if_pos HB.out] at this;omega),rfl⟩
   ·have hn:anyBad (s.data.toList.drop (pos+(decodeL (s.data.toList.drop pos)).2))=anyBad s.data.toList:=by
     rw[←Hc.out,Bool.eq_false_iff.2 hb,List.drop_drop];rfl
    rw[z1e,←hc1,←hk2] at hb;have c0:1≤k:=by omega
    have c1:¬c=47:=by omega
    have c2:¬c<32:=by omega
    have c3:¬c=127:=by omega
    have q0:((k:Int)==0)=false:=by rw[beq_eq_false_iff_ne];omega
    have q1:((c:Int)==47)=false:=by rw[beq_eq_false_iff_ne];omega
    have q3:((c:Int)==127)=false:=by rw[beq_eq_false_iff_ne];omega
    have q2:decide ((c:Int)<32)=false:=by simp;omega
    have HN:=hid hn;clear hc1 hk1 hk2 hb hn
    go_wp2
    go_round
    case rel=>exact⟨pos+(decodeL (s.data.toList.drop pos)).2,z4u (by have:=Hk1.out;omega),by omega,HN.out⟩
    case measure=>simp[intOf];omega
  ·rw[z9b hp,zb9] at hc;have Hc:=hid hc;clear hc
   go_wp2
   go_ret;exact⟨z1j (by have:=HR.out;rw[if_neg (by rw[←Hc.out];simp)] at this;omega),rfl⟩
set_option maxHeartbeats 400000 in
theorem zc8 (t p:ByteArray) (w:World) (ht:t.size≤maxLen) (h:p.size≤t.size) (e:(t.extract 0 p.size).toList=p.toList):
  Calls Tryz.prog 157 #[.string t,.string p] w fun e w'=>e=.returned (.bool true)∧w=w':=by
 unfold maxLen at ht;have hp:p.size≤9223372036854775807:=by omega
 go_enter Tryz.func157,Tryz.ntmps157
 go_wp2
 go_ret;exact⟨rfl,rfl⟩
set_option maxHeartbeats 400000 in
theorem zdl (t p:ByteArray) (w:World) (ht:t.size≤maxLen) (hp:p.size≤maxLen) (e:¬(p.size≤t.size∧(t.extract 0 p.size).toList=p.toList)):
  Calls Tryz.prog 157 #[.string t,.string p] w fun e w'=>e=.returned (.bool false)∧w=w':=by
 unfold maxLen at ht hp
 by_cases h:p.size≤t.size
 ·have e2:((t.extract 0 p.size).toList==p.toList)=false:=by rw[beq_eq_false_iff_ne];exact fun h2=>e ⟨h,h2⟩
  clear e
  go_enter Tryz.func157,Tryz.ntmps157
  go_wp2
  go_ret;exact⟨rfl,rfl⟩
 ·clear e
  go_enter Tryz.func157,Tryz.ntmps157
  go_wp2
  go_ret;exact⟨rfl,rfl⟩
theorem zc9 (n b0 b1 b2 b3:Nat):(Lib.decodeN n b0 b1 b2 b3).1<55296∨57344≤(Lib.decodeN n b0 b1 b2 b3).1:=by
 unfold Lib.decodeN
 repeat' split
 all_goals (simp only;omega)
theorem zf9 (n b0 b1 b2 b3:Nat) (h0:b0<256) (h1:b1<256) (h2:b2<256) (h:(Lib.decodeN n b0 b1 b2 b3).1=65533):
  (Lib.decodeN n b0 b1 b2 b3).2=1↔¬(3≤n∧b0=239∧b1=191∧b2=189):=by
 unfold Lib.decodeN at h ⊢
 repeat' split
 all_goals (simp_all;try omega)
theorem zon (c:Nat) (hv:c<55296∨57344≤c) (hc:c≤1114111):(Utf8.encode (c:Int)).toList=[239,191,189]↔c=65533:=by
 have hval:Utf8.valid (c:Int)=true:=by unfold Utf8.valid;simp;omega
 rw[ByteArray.toList_eq];unfold Utf8.encode;simp only[hval,if_true,Int.toNat_natCast]
 by_cases h1:c<128
 ·rw[if_pos h1];simp;omega
 rw[if_neg h1]
 by_cases h2:c<2048
 ·rw[if_pos h2];simp;omega
 rw[if_neg h2]
 by_cases h3:c<65536
 ·rw[if_pos h3];simp only[List.cons.injEq,and_true,←UInt8.toNat_inj,UInt8.toNat_ofNat'];simp;omega
 ·rw[if_neg h3];simp;omega
theorem zpi (l:List UInt8):l.take 3=[239,191,189]↔(3≤l.length∧(l.getD 0 0).toNat=239∧(l.getD 1 0).toNat=191∧(l.getD 2 0).toNat=189):=by
 match l with
 | []=>simp
 | [a]=>simp
 | [a,b]=>simp
 | a::b::c::r=>
  simp[←UInt8.toNat_inj]
theorem znp (l:List UInt8) (h:(decodeL l).1=65533):badRune (decodeL l)=true↔¬l.take 3=[239,191,189]:=by
 rw[zpi,←zf9 l.length _ _ _ _ (l.getD 0 0).toNat_lt (l.getD 1 0).toNat_lt (l.getD 2 0).toNat_lt h];unfold badRune
 show _↔(decodeL l).2=1;simp[h]
set_option maxHeartbeats 1000000 in
theorem zdm (s:ByteArray) (w:World) (hs:s.size≤140737488355328):
  Calls Tryz.prog 130 #[.string s] w fun e w'=>e=.returned (.int .i64 ((checkL s.data.toList:Nat):Int))∧Below w.heap.size w w':=by
 have hsz:s.data.toList.length=s.size:=rfl;have htl:=ByteArray.toList_eq s
 by_cases hlong:12<s.size
 ·rw[z9r (by omega)];clear htl hsz
  go_enter Tryz.func130,Tryz.ntmps130
  go_wp2_with fail;go_ret;exact⟨rfl,Below.refl _ _⟩
 by_cases hdots:s.data.toList=[]∨s.data.toList=[46]∨s.data.toList=[46,46]
 ·rw[z9s (by omega) hdots];rw[←htl] at hdots;clear htl hsz
  rcases hdots with h|h|h
  all_goals
   go_enter Tryz.func130,Tryz.ntmps130
   go_wp2_with fail;go_ret;exact⟨rfl,Below.refl _ _⟩
 rw[z9t (by omega) hdots];obtain⟨R,hR⟩:∃R,(if anyBad s.data.toList=true then 800 else 0)=R:=⟨_,rfl⟩;rw[hR];have HR:=hid hR;clear hR;have hd0:s.toList.isEmpty=false:=by rw[htl];simpa using fun e=>hdots (.inl e)
 have hd1:(s.toList==[46])=false:=by rw[htl,beq_eq_false_iff_ne];exact fun e=>hdots (.inr (.inl e))
 have hd2:(s.toList==[46,46])=false:=by rw[htl,beq_eq_false_iff_ne];exact fun e=>hdots (.inr (.inr e))
 have he0:¬s.toList=[]:=by rw[htl];exact fun e=>hdots (.inl e)
 have he1:¬s.toList=[46]:=by rw[htl];exact fun e=>hdots (.inr (.inl e))
 have he2:¬s.toList=[46,46]:=by rw[htl];exact fun e=>hdots (.inr (.inr e))
 have Htl:=hid htl;clear htl hsz hdots
 go_enter Tryz.func130,Tryz.ntmps130
 go_wp2_with fail;clear hd0 hd1 hd2 he0 he1 he2
 go_loopw [3,4] (fun _ _ w'=>∃(pos:Nat),w'=w.iter s pos∧anyBad (s.data.toList.drop pos)=anyBad s.data.toList) (fun _ _ w'=>s.size-w'.iterPos w.heap.size)
 case atStart=>exact⟨0,rfl,by simp⟩
 case round =>
  obtain⟨pos,rfl,hc⟩:=hrel
  by_cases hp:pos<s.size
  ·have hd:=z5o s pos;have hw:=z0p (s.data.toList.drop pos);have hle:=z4s (s.data.toList.drop pos);have hvl:=zc9 (s.data.toList.drop pos).length ((s.data.toList.drop pos).getD 0 0).toNat ((s.data.toList.drop pos).getD 1 0).toNat ((s.data.toList.drop pos).getD 2 0).toNat ((s.data.toList.drop pos).getD 3 0).toNat;have hff:=znp (s.data.toList.drop pos);have hcc:=z5p _ (z5t hp);rw[hcc] at hc;have hnx:∀ty,(Instr.next (.pointer (some ⟨w.heap.size,0,none⟩)) true ty).run Tryz.prog (w.iter s pos)=_:=fun ty=>run_next_any w s pos ty hp
   rw[hd] at hnx
   change (decodeL (s.data.toList.drop pos)).1<55296∨57344≤(decodeL (s.data.toList.drop pos)).1 at hvl
   obtain⟨q,hq⟩:∃q,decodeL (s.data.toList.drop pos)=q:=⟨_,rfl⟩;rw[hq] at hnx hvl hle hw hff hc;obtain⟨c,v⟩:=q;simp only at hnx hvl hle hw hff hc;have henc:=zon c hvl hle;have Hc:=hid hc;have Henc:=hid henc;have Hff:=hid hff;clear hd hcc hc hq henc hff
   by_cases c1:c=47
   ·subst c1
    go_wp2
    go_ret;exact⟨z1j (by have:=HR.out;rw[if_pos (by rw[←Hc.out,show runeBad _=true from (z1e _).2 (by simp;try omega)];rfl)] at this;omega),z2a _ _ _⟩
   by_cases c2:c<32
   ·go_wp2
    go_ret;exact⟨z1j (by have:=HR.out;rw[if_pos (by rw[←Hc.out,show runeBad _=true from (z1e _).2 (by simp;try omega)];rfl)] at this;omega),z2a _ _ _⟩
   by_cases c3:c=127
   ·subst c3
    go_wp2
    go_ret;exact⟨z1j (by have:=HR.out;rw[if_pos (by rw[←Hc.out,show runeBad _=true from (z1e _).2 (by simp;try omega)];rfl)] at this;omega),z2a _ _ _⟩
   have q1:((c:Int)==47)=false:=by rw[beq_eq_false_iff_ne];omega
   have q3:((c:Int)==127)=false:=by rw[beq_eq_false_iff_ne];omega
   have q2:decide ((c:Int)<32)=false:=by simp;omega
   by_cases c4:c=65533
   ·have q4:((Utf8.encode (c:Int)).toList==[239,191,189])=true:=by rw[beq_iff_eq];exact Henc.out.2 c4
    have hex0:(s.extract pos s.size).size=s.size-pos:=by simp
    have hexl:(s.extract pos s.size).size≤maxLen:=by rw[hex0];unfold maxLen;omega
    have hex3:((s.extract pos s.size).extract 0 3).toList=(s.data.toList.drop pos).take 3:=by
     rw[ByteArray.toList_eq];simp[List.extract_eq_take_drop];omega
    by_cases c5:(s.data.toList.drop pos).take 3=[239,191,189]
    ·have hlen:3≤s.size-pos:=by
      have:=congrArg List.length c5;rw[List.length_take,List.length_drop] at this;have hsz:s.data.toList.length=s.size:=rfl;simp at this;omega
     have C4:=hid c4;have C5:=hid c5;have H3:=hid hex3;have H0:=hid hex0;clear c4 c5 hex3 hex0;go_wp2_with fail;refine(zc8 _ _ _ hexl (by rw[H0.out];exact hlen) (by rw[show(ByteArray.mk #[239,191,189]).size=3 from rfl,H3.out,C5.out];rw[ByteArray.toList_eq])).mono ?_;rintro e w' ⟨rfl,rfl⟩
     go_wp2
     go_roundw
     case rel=>exact⟨pos+v,rfl,by
      have hb:¬badRune (c,v)=true:=fun e=>(Hff.out C4.out).1 e C5.out
      rw[←Hc.out,show runeBad _=false from Bool.eq_false_iff.2 (fun e=>by rw[z1e] at e;simp only[hb] at e;simp at e;omega),List.drop_drop];rfl⟩
     case measure=>simp;omega
    ·have hno:¬((ByteArray.mk #[239,191,189]).size≤(s.extract pos s.size).size∧((s.extract pos s.size).extract 0 (ByteArray.mk #[239,191,189]).size).toList=(ByteArray.mk #[239,191,189]).toList):=by
      rw[show(ByteArray.mk #[239,191,189]).size=3 from rfl,hex3,ByteArray.toList_eq];exact fun e=>c5 e.2
     have C4:=hid c4;have C5:=hid c5;have HN:=hid hno;clear c4 c5 hex3 hex0 hno;go_wp2_with fail;refine(zdl _ _ _ hexl (by rw[show(ByteArray.mk #[239,191,189]).size=3 from rfl];unfold maxLen;omega) HN.out).mono ?_;rintro e w' ⟨rfl,rfl⟩;have hbad:badRune (c,v)=true:=(Hff.out C4.out).2 C5.out;have HB:=hid hbad;clear hbad
     go_wp2
     go_ret;exact⟨z1j (by have:=HR.out;rw[if_pos (by rw[←Hc.out,show runeBad _=true from (z1e _).2 (.inr (.inr (.inr HB.out)))];rfl)] at this;omega),z2a _ _ _⟩
   ·have q4:((Utf8.encode (c:Int)).toList==[239,191,189])=false:=by rw[beq_eq_false_iff_ne];exact fun e=>c4 (Henc.out.1 e)
    go_wp2_with fail;go_roundw
    case rel=>exact⟨pos+v,rfl,by rw[←Hc.out,show runeBad _=false from Bool.eq_false_iff.2 (fun e=>by rw[z1e] at e;simp[badRune] at e;omega),List.drop_drop];rfl⟩
    case measure=>simp;omega
  ·have hnx:∀ty,(Instr.next (.pointer (some ⟨w.heap.size,0,none⟩)) true ty).run Tryz.prog (w.iter s pos)=_:=fun ty=>run_next_end w s pos ty hp
   rw[z9b hp,zb9] at hc;have Hc:=hid hc;clear hc
   go_wp2
   go_ret;exact⟨z1j (by have:=HR.out;rw[if_neg (by rw[←Hc.out];simp)] at this;omega),z2a _ _ _⟩
def mayL (l:List UInt8):Bool:=checkL l==0
theorem zjq {a b:Bool} (h:a=b):Ending.returned (.bool a)=.returned (.bool b):=by rw[h]
set_option maxHeartbeats 400000 in
theorem zjr (s:ByteArray) (w:World) (hs:s.size≤140737488355328):
  Calls Tryz.prog 102 #[.string s] w fun e w'=>e=.returned (.bool (mayL s.data.toList))∧Below w.heap.size w w':=by
 go_enter Tryz.func102,Tryz.ntmps102
 go_wp2_with fail;refine(zdm s _ hs).mono ?_;rintro e w1 ⟨rfl,hb⟩
 go_wp2
 go_ret;refine⟨zjq ?_,hb⟩;unfold mayL;rw[Bool.eq_iff_iff,beq_iff_eq,beq_iff_eq];omega
theorem z9u (s:ByteArray) (n:Nat) (hs:s.size≤140737488355328) (h:checkL s.data.toList=n) (w:World):
  Calls Tryz.prog 130 #[.string s] w fun e w'=>e=.returned (.int .i64 (n:Int))∧Below w.heap.size w w':=
 (zdm s w hs).mono fun e w' ⟨he,hb⟩=>⟨by rw[he,h],hb⟩
theorem zoo:(Tryz.prog.info? 9).map (fun i=>(i.zero,i.size,i.bytes))=some (some (.string ⟨#[]⟩),1,16):=by kernel_rfl
def strV (l:List UInt8):Value:=.string ⟨l.toArray⟩
theorem z1v (s:ByteArray) (n:Nat) (hs:s.size≤140737488355328) (h:checkL s.data.toList=n) (w:World):
  Calls Tryz.prog 88 #[.string s] w fun e w'=>e=.returned (.int .i64 (n:Int))∧w=w':=
 (z1f s w hs).mono fun e w' ⟨he,hb⟩=>⟨by rw[he,h],hb⟩
def Names (B:Nat) (w':World) (v:Value) (out:List (List UInt8)):Prop:=w'.ownsRow B 9 1 v out.length (out.map strV)
theorem z7n {B:Nat} {w':World} {v':Value} {out:List (List UInt8)} {cur:List UInt8} (h:w'.ownsRow B 9 1 v' (out.length+1) (out.map strV++[strV cur])):Names B w' v' (out++[cur]):=by
 unfold Names
 simpa using h
theorem z9v {B:Nat} {w':World} {v:Value} {out:List (List UInt8)} (h:Names B w' v out):∃A c,v=.slice A out.length c:=by
 rcases h.2 with⟨rfl,hx⟩|⟨g,cap,cur,rfl,_⟩
 ·have:out=[]:=by simpa using hx
  subst this;exact⟨_,_,rfl⟩
 ·exact⟨_,_,rfl⟩
theorem zgi {B:Nat} {w':World} {v:Value} {out:List (List UInt8)} (h:Names B w' v out):∀k,v.ownBlock=some k→B≤k:=by
 intro k hk
 rcases h.2 with⟨rfl,hx⟩|⟨g,cap,cur,rfl,hg,_⟩
 ·simp[Value.ownBlock] at hk
 ·simp[Value.ownBlock] at hk;omega
set_option maxRecDepth 100000 in
set_option maxHeartbeats 2000000 in
theorem zca (s:ByteArray) (w:World) (hs:s.size≤140737488355328) (h0:s.size≤64) (hd:∃h:0<s.size,s[0]=47) (h1:¬s.size=1):
  Calls Tryz.prog 91 #[.string s] w fun e w'=>∃(v:Value) (out:List (List UInt8)) (n:Nat),e=.returned (.tuple #[v,.int .i64 (n:Int)])∧parseL s.data.toList=(out,n)∧Names w.heap.size w' v out∧(n≠0→v=.slice none 0 0)∧Below w.heap.size w w':=by
 obtain⟨hp,hb0⟩:=hd;have hsz:s.data.toList.length=s.size:=rfl
 have hpar:parseL s.data.toList=scanP (s.data.toList.drop 1++[47]) [] []:=by
  unfold parseL;rw[if_neg (by omega),if_neg (fun e=>e ((z3y s).2 ⟨hp,hb0⟩)),if_neg (by omega)]
 have htl:=ByteArray.toList_eq s
 have he0:s.toList.isEmpty=false:=by
  rw[htl];cases e:s.data.toList with
  | nil=>rw[e] at hsz;simp at hsz;omega
  | cons a l=>rfl
 have he1:¬s.toList=[]:=by intro e;rw[e] at he0;simp at he0
 have he2:(s.toList==[47])=false:=by
  rw[beq_eq_false_iff_ne,htl];intro e;rw[e] at hsz;simp at hsz;omega
 obtain⟨i0,hi,hz0,hz1,hz2⟩:=info_parts zoo;obtain⟨R,hR⟩:∃R,parseL s.data.toList=R:=⟨_,rfl⟩;rw[hpar] at hR;have HR:=hid hR;have Hpar:=hid hpar;clear htl hsz hpar hR
 go_enter Tryz.func91,Tryz.ntmps91
 go_wp2_with fail
 go_loopw [4,5,6] (fun v fr i wr=>∃(p j:Nat) (out:List (List UInt8)),fr=.int .i64 p∧i=.int .i64 j∧1≤p∧p≤j∧j≤s.size+1∧out.length≤j∧Names w.heap.size wr v out∧Below w.heap.size w wr∧scanP ((s.data.toList++[47]).drop j) (piece s.data.toList p j) out=R) (fun _ _ i _=>s.size+1-(intOf i).toNat)
 case atStart=>exact⟨1,1,[],rfl,rfl,by omega,by omega,by omega,by simp,World.ownsRow_nil _ _ _ _,Below.refl _ _,by
  rw[z2z,←HR.out,List.drop_append_of_le_length (by have:s.data.toList.length=s.size:=rfl;omega)]⟩
 case round =>
  obtain⟨p,j,out,rfl,rfl,hp1,hpj,hj,hol,hown,hbel,hscan⟩:=hrel;obtain⟨A,c,rfl⟩:=z9v hown;have hlen:s.data.toList.length=s.size:=rfl;have Hlen:=hid hlen;clear hlen
  by_cases hend:j=s.size+1
  ·rw[zgg _ _ (by rw[Hlen.out];exact hend),zdj] at hscan;have Hs:=hid hscan;have Hown:=hid hown;have Hbel:=hid hbel;have Hend:=hid hend;have hj1:s.size<j:=by omega
   clear hscan hown hbel hend
   by_cases hdeep:4<out.length
   ·go_wp2_with fail;go_ret2;exact⟨_,[],1102,rfl,by rw[Hpar.out,HR.out,←Hs.out,if_pos hdeep],World.ownsRow_nil _ _ _ _,fun _=>rfl,Hbel.out⟩
   ·go_wp2_with fail;go_ret2;exact⟨_,out,0,rfl,by rw[Hpar.out,HR.out,←Hs.out,if_neg hdeep],Hown.out,fun h=>absurd rfl h,Hbel.out⟩
  ·by_cases hcut:j<s.size∧¬s.data.toList.getD j 0=47
   ·obtain⟨hlt,hne⟩:=hcut;have hg:=getD_at hlt
    have qne:((s[j].toNat:Int) != 47)=true:=by
     rw[bne_iff_ne];intro e;apply hne;rw[hg];exact UInt8.toNat_inj.1 (by show s[j].toNat=47;omega)
    have hg2:s.data.toList[j]'(by rw[Hlen.out];exact hlt)=s[j]:=rfl;rw[zjn _ _ (by rw[Hlen.out];exact hlt),z9p _ _ _ _ (by rw[hg2,←hg];exact hne),←zi0 _ _ _ hpj] at hscan;have Hs:=hid hscan;have Hown:=hid hown;have Hbel:=hid hbel;clear hscan hown hbel hg hg2 hne;go_wp2_with fail;go_roundw
    case rel=>exact⟨p,j+1,out,rfl,by go_num,hp1,by omega,by omega,by omega,Hown.out,Hbel.out,Hs.out⟩
    case measure=>simp[intOf]<;>omega
   ·have hdrop:(s.data.toList++[47]).drop j=47::(s.data.toList++[47]).drop (j+1):=by
     by_cases hlt:j<s.size
     ·have h47:s.data.toList.getD j 0=47:=by
       rcases Classical.em (s.data.toList.getD j 0=47) with h|h
       ·exact h
       ·exact absurd ⟨hlt,h⟩ hcut
      have h48:s.data.toList[j]'(by rw[Hlen.out];exact hlt)=47:=by
       rw[getD_at hlt] at h47;exact h47
      rw[zjn _ _ (by rw[Hlen.out];exact hlt),h48]
     ·exact zno _ _ (by rw[Hlen.out];omega)
    rw[hdrop] at hscan;have hj2:j≤s.size:=by omega
    have hps:(s.extract p j).size≤64:=by simp;omega
    have hpc:(s.extract p j).data.toList=piece s.data.toList p j:=by rw[z1x]
    have Hs:=hid hscan;have Hown:=hid hown;have Hbel:=hid hbel;have Hpc:=hid hpc;have Hd:=hid hdrop;have Hcut:=hid hcut;clear hscan hown hbel hpc hdrop hcut hend
    by_cases hlt:j<s.size
    ·have qeq:((s[j].toNat:Int) != 47)=false:=by
      rcases Classical.em (s.data.toList.getD j 0=47) with h|h
      ·rw[getD_at hlt] at h;rw[h];rfl
      ·exact absurd ⟨hlt,h⟩ Hcut.out
     go_wp2_with fail
     rcases z3x (piece s.data.toList p j) with hk|hk|hk
     ·refine(z1v _ 0 (by omega) (by rw[Hpc.out];exact hk) _).mono ?_;rintro e w' ⟨rfl,rfl⟩;have Hk:=hid hk;clear hk;go_wp2_with (at_builtin;refine wpList_append_own _ rfl _ _ 33 rfl w.heap.size 9 i0 (.string ⟨#[]⟩) 1 16 Tryz.underlying33 hi hz0 hz1 hz2 rfl (by decide) _ _ _ rfl (Hown.out.alloc _) ⟨wr.heap.size,0,none⟩ 1 1 [.string (s.extract p j)] rfl rfl ?ca1 ?ca2 ?ca3 ?ca4 ?ca5 ?_)
      case ca1=>exact cell_one_new _ _ _
      case ca2=>intro u hu;simp at hu;subst hu;rfl
      case ca3=>unfold maxLen;omega
      case ca4=>omega
      case ca5=>have:=Hbel.out.size;simp;omega
      intro v' w1 hown' hgrow _;have hpush:Names w.heap.size w1 v' (out++[piece s.data.toList p j]):=z7n (by rw[z1x] at hown';exact hown');have hb1:=((Hbel.out.alloc (Hbel.out.size) _).grown hgrow (by have:=Hbel.out.size;simp;omega) (zgi Hown.out));have HP:=hid hpush;have HB:=hid hb1;clear hown' hgrow hpush hb1
      go_wp2
      go_roundw
      case rel=>exact⟨j+1,j+1,out++[piece s.data.toList p j],by go_num,by go_num,by omega,by omega,by omega,by simp;omega,HP.out,HB.out,by rw[z2z,←Hs.out,zc3 _ _ _ Hk.out]⟩
      case measure=>simp[intOf]<;>omega
     ·refine(z1v _ 800 (by omega) (by rw[Hpc.out];exact hk) _).mono ?_;rintro e w' ⟨rfl,rfl⟩;have Hk:=hid hk;clear hk;go_wp2_with fail;go_ret2;exact⟨_,[],1100,rfl,by rw[Hpar.out,HR.out,←Hs.out,z7m _ _ _ Hk.out],World.ownsRow_nil _ _ _ _,fun _=>rfl,Hbel.out⟩
     ·refine(z1v _ 801 (by omega) (by rw[Hpc.out];exact hk) _).mono ?_;rintro e w' ⟨rfl,rfl⟩;have Hk:=hid hk;clear hk;go_wp2_with fail;go_ret2;exact⟨_,[],1101,rfl,by rw[Hpar.out,HR.out,←Hs.out,z7l _ _ _ Hk.out],World.ownsRow_nil _ _ _ _,fun _=>rfl,Hbel.out⟩
    ·have hje:j=s.size:=by omega
     subst hje;go_wp2_with fail
     rcases z3x (piece s.data.toList p s.size) with hk|hk|hk
     ·refine(z1v _ 0 (by omega) (by rw[Hpc.out];exact hk) _).mono ?_;rintro e w' ⟨rfl,rfl⟩;have Hk:=hid hk;clear hk;go_wp2_with (at_builtin;refine wpList_append_own _ rfl _ _ 33 rfl w.heap.size 9 i0 (.string ⟨#[]⟩) 1 16 Tryz.underlying33 hi hz0 hz1 hz2 rfl (by decide) _ _ _ rfl (Hown.out.alloc _) ⟨wr.heap.size,0,none⟩ 1 1 [.string (s.extract p s.size)] rfl rfl ?cb1 ?cb2 ?cb3 ?cb4 ?cb5 ?_)
      case cb1=>exact cell_one_new _ _ _
      case cb2=>intro u hu;simp at hu;subst hu;rfl
      case cb3=>unfold maxLen;omega
      case cb4=>omega
      case cb5=>have:=Hbel.out.size;simp;omega
      intro v' w1 hown' hgrow _;have hpush:Names w.heap.size w1 v' (out++[piece s.data.toList p s.size]):=z7n (by rw[z1x] at hown';exact hown');have hb1:=((Hbel.out.alloc (Hbel.out.size) _).grown hgrow (by have:=Hbel.out.size;simp;omega) (zgi Hown.out));have HP:=hid hpush;have HB:=hid hb1;clear hown' hgrow hpush hb1
      go_wp2
      go_roundw
      case rel=>exact⟨s.size+1,s.size+1,out++[piece s.data.toList p s.size],by go_num,by go_num,by omega,by omega,by omega,by simp;omega,HP.out,HB.out,by rw[z2z,←Hs.out,zc3 _ _ _ Hk.out]⟩
      case measure=>simp[intOf]<;>omega
     ·refine(z1v _ 800 (by omega) (by rw[Hpc.out];exact hk) _).mono ?_;rintro e w' ⟨rfl,rfl⟩;have Hk:=hid hk;clear hk;go_wp2_with fail;go_ret2;exact⟨_,[],1100,rfl,by rw[Hpar.out,HR.out,←Hs.out,z7m _ _ _ Hk.out],World.ownsRow_nil _ _ _ _,fun _=>rfl,Hbel.out⟩
     ·refine(z1v _ 801 (by omega) (by rw[Hpc.out];exact hk) _).mono ?_;rintro e w' ⟨rfl,rfl⟩;have Hk:=hid hk;clear hk;go_wp2_with fail;go_ret2;exact⟨_,[],1101,rfl,by rw[Hpar.out,HR.out,←Hs.out,z7l _ _ _ Hk.out],World.ownsRow_nil _ _ _ _,fun _=>rfl,Hbel.out⟩
def Parsed (s:ByteArray) (w:World) (e:Ending) (w':World):Prop:=
 ∃(v:Value) (out:List (List UInt8)) (n:Nat),e=.returned (.tuple #[v,.int .i64 (n:Int)])∧parseL s.data.toList=(out,n)∧Names w.heap.size w' v out∧(n≠0→v=.slice none 0 0)∧Below w.heap.size w w'
theorem zgj {l:List UInt8} (h:64<l.length):parseL l=([],1101):=if_pos h
theorem zbc {l:List UInt8} (h:¬64<l.length) (k:¬l.head? =some 47):parseL l=([],1100):=by unfold parseL;rw[if_neg h,if_pos k]
theorem zbd {l:List UInt8} (h:¬64<l.length) (k:l.head? =some 47) (e:l.length=1):parseL l=([],0):=by unfold parseL;rw[if_neg h,if_neg (fun c=>c k),if_pos e]
theorem zbe {s:ByteArray} (hp:0<s.size) (k:¬s.data.toList.head? =some 47):((s[0].toNat:Int) != 47)=true:=by
 rw[bne_iff_ne];intro e;exact k ((z3y s).2 ⟨hp,UInt8.toNat_inj.1 (by show s[0].toNat=47;omega)⟩)
set_option maxHeartbeats 1000000 in
theorem zdn (s:ByteArray) (w:World) (hs:s.size≤140737488355328):
  Calls Tryz.prog 91 #[.string s] w (Parsed s w):=by
 have hsz:s.data.toList.length=s.size:=rfl;have htl:=ByteArray.toList_eq s
 by_cases h64:64<s.size
 ·have hp:=zgj (l:=s.data.toList) (by omega);have HP:=hid hp;clear hp htl hsz
  go_enter Tryz.func91,Tryz.ntmps91
  go_wp2_with fail;go_ret2;exact⟨_,[],1101,rfl,HP.out,World.ownsRow_nil _ _ _ _,fun _=>rfl,Below.refl _ _⟩
 by_cases hh:s.data.toList.head? =some 47
 ·obtain⟨hp0,hb0⟩:=(z3y s).1 hh
  by_cases h1:s.size=1
  ·have hp:=zbd (l:=s.data.toList) (by omega) hh (by omega)
   have he:s.toList=[47]:=by
    rw[htl]
    match hl:s.data.toList,hh with
    | [a],hh=>simp at hh;rw[hh]
    | a::b::r,_=>rw[hl] at hsz;simp at hsz;omega
   have HP:=hid hp;have H1:=hid h1;have h1':s.size≤64:=by omega
   clear hp htl hsz hh h1
   go_enter Tryz.func91,Tryz.ntmps91
   go_wp2_with fail;go_ret2;exact⟨_,[],0,rfl,HP.out,World.ownsRow_nil _ _ _ _,fun _=>rfl,Below.refl _ _⟩
  ·exact(zca s w hs (by omega) ⟨hp0,hb0⟩ h1).mono fun _ _ h=>h
 ·have hp:=zbc (l:=s.data.toList) (by omega) hh;have HP:=hid hp
  by_cases h0:s.size=0
  ·have he:s.toList=[]:=by rw[htl];exact List.eq_nil_of_length_eq_zero (by omega)
   have h0':s.size≤64:=by omega
   clear hp htl hsz hh h0
   go_enter Tryz.func91,Tryz.ntmps91
   go_wp2_with fail;go_ret2;exact⟨_,[],1100,rfl,HP.out,World.ownsRow_nil _ _ _ _,fun _=>rfl,Below.refl _ _⟩
  ·have hp0:0<s.size:=by omega
   have hne:=zbe hp0 hh
   have he0:s.toList.isEmpty=false:=by
    rw[htl];cases e:s.data.toList with
    | nil=>rw[e] at hsz;simp at hsz;omega
    | cons a l=>rfl
   have he1:¬s.toList=[]:=by intro e;rw[e] at he0;simp at he0
   clear hp htl hsz hh h0
   go_enter Tryz.func91,Tryz.ntmps91
   go_wp2_with fail;go_ret2;exact⟨_,[],1100,rfl,HP.out,World.ownsRow_nil _ _ _ _,fun _=>rfl,Below.refl _ _⟩
end Go.Proofs.YtkflaifopbodfaaGreatDoor
