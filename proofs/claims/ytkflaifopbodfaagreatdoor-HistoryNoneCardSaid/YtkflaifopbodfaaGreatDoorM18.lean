/- Parts of the proof, side by side: Parse, ParseAny, MoDoer, MoAt, MoFile. -/
import Derived.Test.YtkflaifopbodfaaGreatDoorM03
import Derived.Test.YtkflaifopbodfaaGreatDoorM02
import Derived.Lib.OthersKept
import Derived.WalkSmall
import Derived.Test.YtkflaifopbodfaaGreatDoorM16
import Derived.Test.YtkflaifopbodfaaGreatDoorM17
import Derived.Deep.RegionHeld3
import Derived.Test.YtkflaifopbodfaaGreatDoorM04
import Derived.Test.YtkflaifopbodfaaGreatDoorM12
set_option linter.unusedVariables false
set_option linter.unusedSimpArgs false
namespace Go.Proofs.YtkflaifopbodfaaGreatDoor
open Lib (hid)
open Go.RowKit
theorem zfp {B:Nat} {w w':World} {v:Value} {out:List (List UInt8)} (h:Names B w v out) (hb:Below w.heap.size w w'):Names B w' v out:=by
 rcases h with⟨hl,h⟩
 refine⟨hl,?_⟩
 rcases h with h|⟨g,cap,cur,hv,hg,hh,r⟩
 ·exact Or.inl h
 ·have hlt:g<w.heap.size:=by
   rcases Nat.lt_or_ge g w.heap.size with h|h
   ·exact h
   ·rw[Array.getElem?_eq_none h] at hh;cases hh
  exact Or.inr ⟨g,cap,cur,hv,hg,(hb.block g hlt).trans hh,r⟩
theorem zii {B B':Nat} {w:World} {v:Value} {out:List (List UInt8)} (h:Names B w v out) (hb:B'≤B):Names B' w v out:=by
 rcases h with⟨hl,h⟩
 refine⟨hl,?_⟩
 rcases h with h|⟨g,cap,cur,hv,hg,r⟩
 ·exact Or.inl h
 ·exact Or.inr ⟨g,cap,cur,hv,by omega,r⟩
theorem z2h {w:World} {k:Nat} {s:ByteArray} {p:Nat} (h:w.heap[k]? =some (.stringIter s p)):w.iterPos k=p:=by simp[World.iterPos,h]
set_option maxRecDepth 100000 in
set_option maxHeartbeats 2000000 in
theorem zij (s:ByteArray) (w:World) (hs:s.size≤140737488355328) (h0:s.size≤64) (hd:∃h:0<s.size,s[0]=47) (h1:¬s.size=1):
  Calls Tryz.prog 171 #[.string s] w (Parsed s w):=by
 obtain⟨hp,hb0⟩:=hd;have hsz:s.data.toList.length=s.size:=rfl;have hh:=(z3y s).2 ⟨hp,hb0⟩
 have hpar:parseL s.data.toList=scanP (s.data.toList.drop 1++[47]) [] []:=by
  unfold parseL;rw[if_neg (by omega),if_neg (fun e=>e hh),if_neg (by omega)]
 have htl:=ByteArray.toList_eq s
 have he0:s.toList.isEmpty=false:=by
  rw[htl];cases e:s.data.toList with
  | nil=>rw[e] at hsz;simp at hsz;omega
  | cons a l=>rfl
 have he1:¬s.toList=[]:=by intro e;rw[e] at he0;simp at he0
 have q1:((s.size:Int)==1)=false:=by rw[beq_eq_false_iff_ne];omega
 have hts:(s++ByteArray.mk #[47]).size=s.size+1:=by rw[ByteArray.size_append];rfl
 have htd:(s++ByteArray.mk #[47]).data.toList=s.data.toList++[47]:=by simp
 have hg0:s.data.toList.getD 0 0=47:=by rw[getD_at hp];exact hb0
 obtain⟨i0,hi,hz0,hz1,hz2⟩:=info_parts zoo;obtain⟨R,hR⟩:∃R,parseL s.data.toList=R:=⟨_,rfl⟩;rw[hpar] at hR;have HR:=hid hR;have Hpar:=hid hpar;have Hts:=hid hts;have Htd:=hid htd;have Hg0:=hid hg0;clear htl hsz hpar hR hts htd hg0 hh
 go_enter Tryz.func171,Tryz.ntmps171
 go_wp2_with fail;clear he0 he1 q1
 go_loopw [4,5,6,7] (fun v fr _ _ wr=>∃(p j:Nat) (out:List (List UInt8)) (x:Value),fr=.int .i64 p∧v=x∧((j=0∧p=1∧out=[])∨(1≤p∧p≤j∧out.length≤j∧scanP ((s.data.toList++[47]).drop j) (piece s.data.toList p j) out=R))∧j≤s.size+1∧wr.heap[w.heap.size]? =some (.stringIter (s++⟨#[47]⟩) j)∧Names (w.heap.size+1) wr x out∧Below w.heap.size w wr) (fun _ _ _ _ wr=>s.size+1-wr.iterPos w.heap.size)
 case atStart=>exact⟨1,0,[],_,rfl,rfl,Or.inl ⟨rfl,rfl,rfl⟩,by omega,World.iter_heap _ _ _,World.ownsRow_nil _ _ _ _,z2a _ _ _⟩
 case round =>
  obtain⟨p,j,out,v,rfl,rfl,hcase,hj,hit,hown,hbel⟩:=hrel;obtain⟨A,c,rfl⟩:=z9v hown;have hlen:s.data.toList.length=s.size:=rfl;have Hlen:=hid hlen;clear hlen;have hlt0:w.heap.size<wr.heap.size:=(Array.getElem?_eq_some_iff.1 hit).1;have Hit:=hid hit
  by_cases hend:j=s.size+1
  ·have hnx:∀ty,(Instr.next (.pointer (some ⟨w.heap.size,0,none⟩)) true ty).run Tryz.prog wr=_:=fun ty=>Lib.run_next_end_at wr w.heap.size (s++⟨#[47]⟩) j ty hit (by rw[Hts.out];omega)
   obtain⟨hp1,hpj,hol,hscan⟩:1≤p∧p≤j∧out.length≤j∧scanP ((s.data.toList++[47]).drop j) (piece s.data.toList p j) out=R:=by
    rcases hcase with h|h
    ·omega
    ·exact h
   rw[zgg _ _ (by rw[Hlen.out];exact hend),zdj] at hscan;have Hs:=hid hscan;have Hown:=hid hown;have Hbel:=hid hbel;have hol2:out.length≤65:=by omega
   clear hscan hown hbel hend hit hcase
   by_cases hdeep:4<out.length
   ·go_wp2_with fail;go_ret2;exact⟨_,[],1102,rfl,by rw[Hpar.out,HR.out,←Hs.out,if_pos hdeep],World.ownsRow_nil _ _ _ _,fun _=>rfl,Hbel.out⟩
   ·go_wp2_with fail;go_ret2;exact⟨_,out,0,rfl,by rw[Hpar.out,HR.out,←Hs.out,if_neg hdeep],zii Hown.out (by omega),fun h=>absurd rfl h,Hbel.out⟩
  have hpos:j<(s++ByteArray.mk #[47]).size:=by rw[Hts.out];omega
  have hd:=z5o (s++ByteArray.mk #[47]) j;rw[Htd.out] at hd;have hnx:∀ty,(Instr.next (.pointer (some ⟨w.heap.size,0,none⟩)) true ty).run Tryz.prog wr=_:=fun ty=>Lib.run_next_any_at wr w.heap.size (s++⟨#[47]⟩) j ty hit hpos
  rw[hd] at hnx;have hit0:∀q,(wr.iterAt w.heap.size (s++⟨#[47]⟩) q).heap[w.heap.size]? =some (.stringIter (s++⟨#[47]⟩) q):=fun q=>Lib.iterAt_heap wr _ _ _ _ hit
  have hown0:∀q,Names (w.heap.size+1) (wr.iterAt w.heap.size (s++⟨#[47]⟩) q) (.slice A out.length c) out:=fun q=>ownsRow_iterAt hown (by omega) _ _
  have hbel0:∀q,Below w.heap.size w (wr.iterAt w.heap.size (s++⟨#[47]⟩) q):=fun q=>Lib.below_iterAt hbel (Nat.le_refl _) _ _
  have hsz0:∀q,(wr.iterAt w.heap.size (s++⟨#[47]⟩) q).heap.size=wr.heap.size:=fun q=>Lib.iterAt_size _ _ _ _
  by_cases hstart:j=0
  ·have hc0:p=1∧out=[]:=by
    rcases hcase with h|h
    ·exact h.2
    ·omega
   obtain⟨rfl,rfl⟩:=hc0
   have hq:decodeL ((s.data.toList++[47]).drop j)=(47,1):=by
    apply z6o;rw[hstart];cases e:s.data.toList with
    | nil=>rfl
    | cons a l=>have:=Hg0.out;rw[e] at this;exact this
   rw[hq] at hnx;simp only at hnx;have hit1:=hit0 (j+1);have hown1:=hown0 (j+1);have hbel1:=hbel0 (j+1);obtain⟨W,hW⟩:∃W,wr.iterAt w.heap.size (s++⟨#[47]⟩) (j+1)=W:=⟨_,rfl⟩;rw[hW] at hit1 hown1 hbel1 hnx;subst hstart;have Hit1:=hid hit1;have Hown1:=hid hown1;have Hbel1:=hid hbel1;clear hit hit0 hown hown0 hbel hbel0 hsz0 hcase hd hq hend hit1 hown1 hbel1 hW;go_wp2_with fail;go_roundw
   case rel=>exact⟨1,1,[],_,rfl,rfl,Or.inr ⟨by omega,by omega,by simp,by
    rw[z2z,←HR.out,List.drop_append_of_le_length (by rw[Hlen.out];omega)]⟩,by omega,Hit1.out,Hown1.out,Hbel1.out⟩
   case measure=>rw[z2h Hit1.out,z2h Hit.out];omega
  obtain⟨hp1,hpj,hol,hscan⟩:1≤p∧p≤j∧out.length≤j∧scanP ((s.data.toList++[47]).drop j) (piece s.data.toList p j) out=R:=by
   rcases hcase with h|h
   ·omega
   ·exact h
  have q0:((j:Int)==0)=false:=by rw[beq_eq_false_iff_ne];omega
  by_cases hsl:(s.data.toList++[47]).getD j 0=47
  ·have hq:decodeL ((s.data.toList++[47]).drop j)=(47,1):=by
    apply z6o;refine Eq.trans ?_ hsl;simp[List.getD_eq_getElem?_getD,List.getElem?_drop]
   rw[hq] at hnx;simp only at hnx
   have hdrop:(s.data.toList++[47]).drop j=47::(s.data.toList++[47]).drop (j+1):=by
    have hjl:j<(s.data.toList++[47]).length:=by rw[List.length_append,Hlen.out];simp;omega
    rw[List.drop_eq_getElem_cons hjl]
    have:(s.data.toList++[47])[j]=47:=by
     have h:=hsl;rw[List.getD_eq_getElem?_getD,List.getElem?_eq_getElem hjl] at h;exact h
    rw[this]
   rw[hdrop] at hscan;have hj2:j≤s.size:=by omega
   have hps:(s.extract p j).size≤64:=by simp;omega
   have hpc:(s.extract p j).data.toList=piece s.data.toList p j:=by rw[z1x]
   obtain⟨W,hW⟩:∃W,wr.iterAt w.heap.size (s++⟨#[47]⟩) (j+1)=W:=⟨_,rfl⟩;have hit1:=hit0 (j+1);have hown1:=hown0 (j+1);have hbel1:=hbel0 (j+1);have hsz1:=hsz0 (j+1);rw[hW] at hit1 hown1 hbel1 hnx hsz1;rw[←hsz1] at hlt0;have Hs:=hid hscan;have Hpc:=hid hpc;clear hit hit0 hown hown0 hbel hbel0 hsz0 hcase hd hq hend hW hsz1 hscan hpc hdrop hsl hstart;have hit0:=hid hit1;have hown0:=hid hown1;have hbel0:=hid hbel1;clear hit1 hown1 hbel1;go_wp2_with fail;have hit1:=hit0.out;have hown1:=hown0.out;have hbel1:=hbel0.out;clear hit0 hown0 hbel0;have hit0:=hit1;have hown0:=hown1;have hbel0:=hbel1;clear hit1 hown1 hbel1
   rcases z3x (piece s.data.toList p j) with hk|hk|hk
   ·refine(z9u _ 0 (by omega) (by rw[Hpc.out];exact hk) _).mono ?_;rintro e w1 ⟨rfl,hbc⟩;have hown1:Names (w.heap.size+1) w1 (.slice A out.length c) out:=zfp (hid hown0).out hbc;have hit1:w1.heap[w.heap.size]? =some (.stringIter (s++⟨#[47]⟩) (j+1)):=(hbc.block _ hlt0).trans hit0;have hbel1:Below w.heap.size w w1:=hbel0.trans (hbc.mono hbel0.size);have hsz1:w.heap.size<w1.heap.size:=Nat.lt_of_lt_of_le hlt0 hbc.size;have Hown1:=hid hown1;have Hit1:=hid hit1;have Hbel1:=hid hbel1;have Hk:=hid hk;clear hk hown1 hit1 hbel1 hbc hown0 hit0 hbel0;go_wp2_with (at_builtin;refine wpList_append_own _ rfl _ _ 33 rfl (w.heap.size+1) 9 i0 (.string ⟨#[]⟩) 1 16 Tryz.underlying33 hi hz0 hz1 hz2 rfl (by decide) _ _ _ rfl (Hown1.out.alloc _) ⟨w1.heap.size,0,none⟩ 1 1 [.string (s.extract p j)] rfl rfl ?ca1 ?ca2 ?ca3 ?ca4 ?ca5 ?_)
    case ca1=>exact cell_one_new _ _ _
    case ca2=>intro u hu;simp at hu;subst hu;rfl
    case ca3=>unfold maxLen;omega
    case ca4=>omega
    case ca5=>simp;omega
    intro v' w2 hown' hgrow _;have hpush:Names (w.heap.size+1) w2 v' (out++[piece s.data.toList p j]):=z7n (by rw[z1x] at hown';exact hown')
    have hit2:w2.heap[w.heap.size]? =some (.stringIter (s++⟨#[47]⟩) (j+1)):=by
     rw[hgrow.block _ (by simp;omega) (by intro e;have:=zgi Hown1.out _ e.symm;omega),Below.heap_alloc _ _ _ (by omega)];exact Hit1.out
    have hb2:Below w.heap.size w w2:=((Hbel1.out.alloc (Hbel1.out.size) _).grown hgrow (by simp;omega) (fun k hk=>by have:=zgi Hown1.out k hk;omega));have HP:=hid hpush;have HB:=hid hb2;have HI:=hid hit2;clear hown' hgrow hpush hb2 hit2
    go_wp2
    go_roundw
    case rel=>exact⟨j+1,j+1,out++[piece s.data.toList p j],_,by go_num,rfl,Or.inr ⟨by omega,by omega,by simp;omega,by rw[z2z,←Hs.out,zc3 _ _ _ Hk.out]⟩,by omega,HI.out,HP.out,HB.out⟩
    case measure=>rw[z2h HI.out,z2h Hit.out];simp;omega
   ·refine(z9u _ 800 (by omega) (by rw[Hpc.out];exact hk) _).mono ?_;rintro e w1 ⟨rfl,hbc⟩;have Hk:=hid hk;have Hbel1:=hid (hbel0.trans (hbc.mono hbel0.size));clear hk hbc hown0 hit0 hbel0;go_wp2_with fail;go_ret2;exact⟨_,[],1100,rfl,by rw[Hpar.out,HR.out,←Hs.out,z7m _ _ _ Hk.out],World.ownsRow_nil _ _ _ _,fun _=>rfl,Hbel1.out⟩
   ·refine(z9u _ 801 (by omega) (by rw[Hpc.out];exact hk) _).mono ?_;rintro e w1 ⟨rfl,hbc⟩;have Hk:=hid hk;have Hbel1:=hid (hbel0.trans (hbc.mono hbel0.size));clear hk hbc hown0 hit0 hbel0;go_wp2_with fail;go_ret2;exact⟨_,[],1101,rfl,by rw[Hpar.out,HR.out,←Hs.out,z7l _ _ _ Hk.out],World.ownsRow_nil _ _ _ _,fun _=>rfl,Hbel1.out⟩
  ·have hjl:j<(s.data.toList++[47]).length:=by rw[List.length_append,Hlen.out];simp;omega
   have hjs:j<s.size:=by
    rcases Nat.lt_or_ge j s.size with h|h
    ·exact h
    ·exfalso;apply hsl;have:j=s.data.toList.length:=by rw[Hlen.out];omega
     rw[this];simp
   have hno:¬((s.data.toList++[47]).drop j).getD 0 0=47:=by
    simpa [List.getD_eq_getElem?_getD,List.getElem?_drop] using hsl
   have hc47:=(z2l _ hno).1;have hskip:=(z2l _ hno).2;have hw:=z0p ((s.data.toList++[47]).drop j);have hf:=z2q ((s.data.toList++[47]).drop j) (by intro e;rw[e] at hno;have:=congrArg List.length e;rw[List.length_drop] at this;simp at this;omega);rw[List.length_drop,List.length_append,Hlen.out] at hf;have hle:=z4s ((s.data.toList++[47]).drop j);have hrune:=zi3 (s.data.toList++[47]) p j out hpj hjl hsl;obtain⟨q,hq⟩:∃q,decodeL ((s.data.toList++[47]).drop j)=q:=⟨_,rfl⟩;rw[hq] at hnx hc47 hskip hw hf hle hrune;obtain⟨cc,v⟩:=q;simp only at hnx hc47 hskip hw hf hle hrune
   have hjv:j+v≤s.size:=by
    rcases Nat.lt_or_ge s.size (j+v) with h|h
    ·exfalso
     have hmem:(47:UInt8)∈((s.data.toList++[47]).drop j).take v:=by
      have hlast:((s.data.toList++[47]).drop j).take v=(s.data.toList++[47]).drop j:=by
       rw[List.take_of_length_le];rw[List.length_drop,List.length_append,Hlen.out];simp;omega
      rw[hlast,List.drop_append_of_le_length (by rw[Hlen.out];omega)];simp
     exact hskip _ hmem rfl
    ·exact h
   rw[zbb _ _ _ _ (by rw[Hlen.out];omega),zbb _ _ _ _ (by rw[Hlen.out];omega)] at hrune;rw[hrune] at hscan;have q47:((cc:Int) != 47)=true:=by rw[bne_iff_ne];omega
   obtain⟨W,hW⟩:∃W,wr.iterAt w.heap.size (s++⟨#[47]⟩) (j+v)=W:=⟨_,rfl⟩;have hit1:=hit0 (j+v);have hown1:=hown0 (j+v);have hbel1:=hbel0 (j+v);rw[hW] at hit1 hown1 hbel1 hnx;have Hs:=hid hscan;have Hit1:=hid hit1;have Hown1:=hid hown1;have Hbel1:=hid hbel1;clear hit hit0 hown hown0 hbel hbel0 hsz0 hcase hd hq hend hW hscan hsl hstart hrune hskip hno hit1 hown1 hbel1 hc47;go_wp2_with fail;go_roundw
   case rel=>exact⟨p,j+v,out,_,rfl,rfl,Or.inr ⟨hp1,by omega,by omega,Hs.out⟩,by omega,Hit1.out,Hown1.out,Hbel1.out⟩
   case measure=>rw[z2h Hit1.out,z2h Hit.out];omega
set_option maxHeartbeats 1000000 in
theorem ze6 (s:ByteArray) (w:World) (hs:s.size≤140737488355328):
  Calls Tryz.prog 171 #[.string s] w (Parsed s w):=by
 have hsz:s.data.toList.length=s.size:=rfl;have htl:=ByteArray.toList_eq s
 by_cases h64:64<s.size
 ·have hp:=zgj (l:=s.data.toList) (by omega);have HP:=hid hp;clear hp htl hsz
  go_enter Tryz.func171,Tryz.ntmps171
  go_wp2_with fail;go_ret2;exact⟨_,[],1101,rfl,HP.out,World.ownsRow_nil _ _ _ _,fun _=>rfl,Below.refl _ _⟩
 by_cases hh:s.data.toList.head? =some 47
 ·obtain⟨hp0,hb0⟩:=(z3y s).1 hh
  by_cases h1:s.size=1
  ·have hp:=zbd (l:=s.data.toList) (by omega) hh (by omega)
   have he:s.toList=[47]:=by
    rw[htl]
    match hl:s.data.toList,hh with
    | [a],hh=>simp at hh;rw[hh]
    | a::b::r,_=>rw[hl] at hsz;simp at hsz;omega
   have HP:=hid hp;have H1:=hid h1;have q1:((s.size:Int)==1)=true:=by rw[beq_iff_eq];omega
   have he0:s.toList.isEmpty=false:=by rw[he];rfl
   have he1:¬s.toList=[]:=by rw[he];simp
   clear he;have h1':s.size≤64:=by omega
   clear hp htl hsz hh h1
   go_enter Tryz.func171,Tryz.ntmps171
   go_wp2_with fail;go_ret2;exact⟨_,[],0,rfl,HP.out,World.ownsRow_nil _ _ _ _,fun _=>rfl,Below.refl _ _⟩
  ·exact(zij s w hs (by omega) ⟨hp0,hb0⟩ h1).mono fun _ _ h=>h
 ·have hp:=zbc (l:=s.data.toList) (by omega) hh;have HP:=hid hp
  by_cases h0:s.size=0
  ·have he:s.toList=[]:=by rw[htl];exact List.eq_nil_of_length_eq_zero (by omega)
   have h0':s.size≤64:=by omega
   clear hp htl hsz hh h0
   go_enter Tryz.func171,Tryz.ntmps171
   go_wp2_with fail;go_ret2;exact⟨_,[],1100,rfl,HP.out,World.ownsRow_nil _ _ _ _,fun _=>rfl,Below.refl _ _⟩
  ·have hp0:0<s.size:=by omega
   have hne:=zbe hp0 hh
   have he0:s.toList.isEmpty=false:=by
    rw[htl];cases e:s.data.toList with
    | nil=>rw[e] at hsz;simp at hsz;omega
    | cons a l=>rfl
   have he1:¬s.toList=[]:=by intro e;rw[e] at he0;simp at he0
   clear hp htl hsz hh h0
   go_enter Tryz.func171,Tryz.ntmps171
   go_wp2_with fail;go_ret2;exact⟨_,[],1100,rfl,HP.out,World.ownsRow_nil _ _ _ _,fun _=>rfl,Below.refl _ _⟩
def codeN (n:Nat):Nat:=if n=0 then 0 else if n=1101∨n=1102 then 6 else 9
set_option maxHeartbeats 400000 in
theorem zgz (n:Nat) (hn:n≤65536) (w:World):Calls Tryz.prog 172 #[.int .i64 (n:Int)] w fun e w'=>e=.returned (.int .i64 (codeN n:Int))∧w=w':=by
 by_cases h0:n=0
 ·subst h0
  go_enter Tryz.func172,Tryz.ntmps172
  go_wp2
  go_ret;exact⟨rfl,rfl⟩
 by_cases h1:n=1101
 ·subst h1
  go_enter Tryz.func172,Tryz.ntmps172
  go_wp2
  go_ret;exact⟨rfl,rfl⟩
 by_cases h2:n=1102
 ·subst h2
  go_enter Tryz.func172,Tryz.ntmps172
  go_wp2
  go_ret;exact⟨rfl,rfl⟩
 ·have hc:codeN n=9:=by unfold codeN;rw[if_neg h0,if_neg (by omega)]
  rw[hc];have q0:((n:Int)==0)=false:=by rw[beq_eq_false_iff_ne];omega
  have q1:((n:Int)==1101)=false:=by rw[beq_eq_false_iff_ne];omega
  have q2:((n:Int)==1102)=false:=by rw[beq_eq_false_iff_ne];omega
  go_enter Tryz.func172,Tryz.ntmps172
  go_wp2
  go_ret;exact⟨rfl,rfl⟩
structure DoerAt (w:World) (q p:Nat) (c:Ca) (fd num:Int) (dir:Bool) (data:ByteArray) (nv:Value):Prop where
 cell:w.heap[q]? =some (.cells #[.pointer (some ⟨p,0,none⟩),.int .i64 c.kind,.int .i64 c.core,.int .i64 c.fd,.int .i64 c.off,.int .i64 c.num,.string c.path,.string c.path2,.string c.data,.int .i64 0,.int .i64 fd,.int .i64 num,.bool dir,.string data,nv] 140 (0,0))
section
variable {w:World} {q p:Nat} {c:Ca} {fd num:Int} {dir:Bool} {data:ByteArray} {nv:Value}
theorem DoerAt.lt (h:DoerAt w q p c fd num dir data nv):q<w.heap.size:=(Array.getElem?_eq_some_iff.1 h.cell).1
theorem DoerAt.below {w':World} (h:DoerAt w q p c fd num dir data nv) (hb:Below w.heap.size w w'):DoerAt w' q p c fd num dir data nv:=⟨(hb.block q h.lt).trans h.cell⟩
theorem DoerAt.turns {w':World} {B:Nat} (h:DoerAt w q p c fd num dir data nv) (hp:q≠p) (hb:Turns B p w w'):DoerAt w' q p c fd num dir data nv:=⟨(hb.keep q _ _ h.cell (by decide) (by decide) (by decide) (by decide) hp).trans h.cell⟩
theorem DoerAt.c0 (h:DoerAt w q p c fd num dir data nv):w.cell? ⟨q,0,none⟩=some (.pointer (some ⟨p,0,none⟩)):=by rw[cell_of_row w q _ _ _ (0,0) h.cell];rfl
theorem DoerAt.c1 (h:DoerAt w q p c fd num dir data nv):w.cell? ⟨q,1,none⟩=some (.int .i64 c.kind):=by rw[cell_of_row w q _ _ _ (0,0) h.cell];rfl
theorem DoerAt.c2 (h:DoerAt w q p c fd num dir data nv):w.cell? ⟨q,2,none⟩=some (.int .i64 c.core):=by rw[cell_of_row w q _ _ _ (0,0) h.cell];rfl
theorem DoerAt.c3 (h:DoerAt w q p c fd num dir data nv):w.cell? ⟨q,3,none⟩=some (.int .i64 c.fd):=by rw[cell_of_row w q _ _ _ (0,0) h.cell];rfl
theorem DoerAt.c4 (h:DoerAt w q p c fd num dir data nv):w.cell? ⟨q,4,none⟩=some (.int .i64 c.off):=by rw[cell_of_row w q _ _ _ (0,0) h.cell];rfl
theorem DoerAt.c5 (h:DoerAt w q p c fd num dir data nv):w.cell? ⟨q,5,none⟩=some (.int .i64 c.num):=by rw[cell_of_row w q _ _ _ (0,0) h.cell];rfl
theorem DoerAt.c6 (h:DoerAt w q p c fd num dir data nv):w.cell? ⟨q,6,none⟩=some (.string c.path):=by rw[cell_of_row w q _ _ _ (0,0) h.cell];rfl
theorem DoerAt.c7 (h:DoerAt w q p c fd num dir data nv):w.cell? ⟨q,7,none⟩=some (.string c.path2):=by rw[cell_of_row w q _ _ _ (0,0) h.cell];rfl
theorem DoerAt.c8 (h:DoerAt w q p c fd num dir data nv):w.cell? ⟨q,8,none⟩=some (.string c.data):=by rw[cell_of_row w q _ _ _ (0,0) h.cell];rfl
end
theorem z0b {P:Program} {fn:Func} {R:Ending→World→Prop} {a:Act} {w:World} {code:Int} (hd:a.defers=[]) (hR:R (.panicked (faultP code)) w):bodyPost P fn R (.panic (faultP code)) a w:=by
 simp[bodyPost,faultP,hd];exact hR
theorem znv (n:Nat):(codeN n:Int)=codeP n:=by
 unfold codeN codeP
 split
 ·rfl
 ·split<;>rfl
theorem z6u (path:ByteArray) (w:World) (hs:path.size≤140737488355328) (h0:(parseL path.data.toList).2=0):
  Calls Tryz.prog 159 #[.string path] w fun e w'=>∃A c,e=.returned (.slice A (parseL path.data.toList).1.length c)∧(parseL path.data.toList).1.length≤c∧NmAt w' A (parseL path.data.toList).1.length (parseL path.data.toList).1∧Below w.heap.size w w':=by
 obtain⟨R,hR⟩:∃R,parseL path.data.toList=R:=⟨_,rfl⟩;rw[hR] at h0 ⊢;obtain⟨NS,C⟩:=R;simp only at h0 ⊢;subst h0;have HR:=hid hR;clear hR
 go_enter Tryz.func159,Tryz.ntmps159
 go_wp2_with fail;refine(ze6 path _ hs).mono ?_;rintro e1 w1 ⟨v,out,n,rfl,hp,hn,_,hb⟩;rw[HR.out] at hp;injection hp with hp1 hp2
 subst hp1 hp2;obtain⟨A,c,rfl,hc,hnm⟩:=NmAt.of_names hn;have HNM:=hid hnm;have HB:=hid hb;clear hn hnm hb;go_wp2_with fail;refine(zgz 0 (by omega) _).mono ?_;rintro e2 w2 ⟨rfl,rfl⟩;go_wp2_with fail;refine(z0h _ _).mono ?_;rintro e3 w3 ⟨rfl,rfl⟩;go_wp2_with fail;go_ret;exact⟨A,c,rfl,hc,HNM.out,HB.out⟩
theorem z7v (path:ByteArray) (w:World) (hs:path.size≤140737488355328) (h0:(parseL path.data.toList).2≠0):
  Calls Tryz.prog 159 #[.string path] w fun e w'=>e=.panicked (faultP (codeP (parseL path.data.toList).2))∧Below w.heap.size w w':=by
 have hle:=zdk path.data.toList;obtain⟨R,hR⟩:∃R,parseL path.data.toList=R:=⟨_,rfl⟩;rw[hR] at h0 hle ⊢;obtain⟨NS,C⟩:=R;simp only at h0 hle ⊢;have HR:=hid hR;clear hR
 go_enter Tryz.func159,Tryz.ntmps159
 go_wp2_with fail;refine(ze6 path _ hs).mono ?_;rintro e1 w1 ⟨v,out,n,rfl,hp,hn,_,hb⟩;rw[HR.out] at hp;injection hp with hp1 hp2
 subst hp1 hp2;have HB:=hid hb;have hne:((C:Int) != 0)=true:=by rw[bne_iff_ne];omega
 clear hn hb;go_wp2_with fail;refine(zgz C (by omega) _).mono ?_;rintro e2 w2 ⟨rfl,rfl⟩;rw[znv];go_wp2_with fail;refine(z0f _ _).mono ?_;rintro e3 w3 ⟨rfl,rfl⟩;go_wp2_with fail
 first|exact⟨rfl,HB.out⟩|(refine bodyPost_panic ?_;exact⟨rfl,HB.out⟩)|(simp[bodyPost,faultP];exact HB.out)
theorem z7w {s:St} (hg:Good s) (names:List (List UInt8)) (h:(walkG s.inos names 1).2=0):∃(i:Nat) (x:Ino),placeG s.inos (walkG s.inos names 1)=(i:Int)∧s.inos[i]? =some x∧x.num=(walkG s.inos names 1).1:=by
 obtain⟨i,x,h1,h2,h3⟩:=z2c (z4w hg.whole names 1 (by rw[hg.root_at];omega) h);exact⟨i,x,by unfold placeG;rw[if_pos h,h1],h2,h3⟩
theorem Own2.at_ {B:Nat} {w:World} {p:Nat} {s:St} {zs:List (Ino×Value)} {vI vO vM:Value} (h:Own2 B w p s zs vI vO vM) {i:Nat} {x:Ino} (hx:s.inos[i]? =some x):
  ∃g c E m d,vI=.slice (some ⟨g,0,none⟩) s.inos.length c∧zs[i]? =some (x,.slice E m d)∧g<w.heap.size∧B≤g∧i<s.inos.length∧w.cell? ⟨g,i*4,none⟩=some (.int .i64 x.num)∧w.cell? ⟨g,i*4+1,none⟩=some (.bool x.dir)∧w.cell? ⟨g,i*4+2,none⟩=some (.slice E m d)∧w.cell? ⟨g,i*4+3,none⟩=some (.string x.data)∧(∀j,w.frozen? ⟨g,j,none⟩=false)∧SlOk E m d∧EntsAt none w E m x.ents:=by
 have hl:s.inos.length=zs.length:=by rw[←h.inos,List.length_map]
 have hil:=(List.getElem?_eq_some_iff.1 hx).1;obtain⟨g,c,cur,hv,_,hB,hlt,hg,_,hc⟩:=h.rowI.open_ (by omega);rw[←h.inos,List.getElem?_map] at hx;obtain⟨z,hz,rfl⟩:=Option.map_eq_some_iff.1 hx;have f:=z0v inoV 4 (fun x=>rfl) zs i z hz;obtain⟨E,d,he,hmd,hE⟩:=(h.ents z (List.mem_of_getElem? hz)).ents;refine⟨g,c,E,z.1.ents.length,d,by rw[hl];exact hv,by rw[←he];exact hz,hlt,hB,hil,hc _ _ (f 0 (by omega)),hc _ _ (f 1 (by omega)),?_,hc _ _ (f 3 (by omega)),fun j=>frozen_of_row w g j _ _ hg,hmd,hE⟩;rw[←he];exact hc _ _ (f 2 (by omega))
theorem Own2.s0 {B:Nat} {w:World} {p:Nat} {s:St} {zs:List (Ino×Value)} {vI vO vM:Value} (h:Own2 B w p s zs vI vO vM):w.cell? ⟨p,0,none⟩=some vI:=by rw[cell_of_row w p _ _ _ (0,0) h.cell];rfl
theorem Own2.s1 {B:Nat} {w:World} {p:Nat} {s:St} {zs:List (Ino×Value)} {vI vO vM:Value} (h:Own2 B w p s zs vI vO vM):w.cell? ⟨p,1,none⟩=some vO:=by rw[cell_of_row w p _ _ _ (0,0) h.cell];rfl
theorem Own2.s2 {B:Nat} {w:World} {p:Nat} {s:St} {zs:List (Ino×Value)} {vI vO vM:Value} (h:Own2 B w p s zs vI vO vM):w.cell? ⟨p,2,none⟩=some vM:=by rw[cell_of_row w p _ _ _ (0,0) h.cell];rfl
theorem Own2.lt {B:Nat} {w:World} {p:Nat} {s:St} {zs:List (Ino×Value)} {vI vO vM:Value} (h:Own2 B w p s zs vI vO vM):p<w.heap.size:=(Array.getElem?_eq_some_iff.1 h.cell).1
set_option maxRecDepth 100000 in
set_option maxHeartbeats 8000000 in
theorem zab (B q p:Nat) (s:St) (c:Ca) (fd num:Int) (dir:Bool) (data:ByteArray) (nv:Value) (zs:List (Ino×Value)) (vI vO vM:Value) (path:ByteArray) (w:World) (hD:DoerAt w q p c fd num dir data nv) (hO:Own2 B w p s zs vI vO vM) (hg:Good s) (hs:path.size≤140737488355328):
  Calls Tryz.prog 141 #[.pointer (some ⟨q,0,.none⟩),.string path] w fun e w'=>Below w.heap.size w w'∧(((findV s.inos path).2≠0∧e=.panicked (faultP (findV s.inos path).2))∨((findV s.inos path).2=0∧∃g n d i x,vI=.slice (some ⟨g,0,none⟩) n d∧s.inos[i]? =some x∧x.num=(findV s.inos path).1∧e=.returned (.pointer (some ⟨g,i*4,none⟩)))):=by
 have hq:=hD.lt;have d0:=hD.c0;have hp:=hO.lt;have HO:=hid hO;have HG:=hid hg;have HD:=hid hD;clear hO hg hD
 by_cases hpar:(parseL path.data.toList).2=0
 ·have hfv:findV s.inos path=walkG s.inos (parseL path.data.toList).1 1:=by unfold findV;rw[if_neg (by rw[hpar];simp)]
  rw[hfv];have hlen:=z6p path.data.toList;have HPAR:=hid hpar;obtain⟨NS,hNS⟩:∃NS,(parseL path.data.toList).1=NS:=⟨_,rfl⟩;have HPL:=z7w HG.out NS;rw[hNS] at hlen ⊢;have HNS:=hid hNS;obtain⟨RW,hRW⟩:∃RW,walkG s.inos NS 1=RW:=⟨_,rfl⟩;obtain⟨KP,hKP⟩:∃KP,placeG s.inos (walkG s.inos NS 1)=KP:=⟨_,rfl⟩;rw[hKP,hRW] at HPL;rw[hRW];obtain⟨N,C⟩:=RW;simp only at HPL ⊢;have HW:=hid hRW;have HK:=hid hKP;have HPLA:=hid HPL;clear hpar hfv hNS hRW hKP HPL
  go_enter Tryz.func141,Tryz.ntmps141
  go_wp2_with fail
  go_region_held3 (fun w'=>w'.cell? ⟨q,0,none⟩=some (.pointer (some ⟨p,0,none⟩)))
   (first|go_keep|(rw[hb5.cell (by simp;omega)];simp[*])|(rw[hb6.cell (by have:=hb5.size;simp at this ⊢;omega),hb5.cell (by simp;omega)];simp[*]))
   (first
    | (go_at_call 159;refine(z6u path _ hs HPAR.out).mono ?_;rintro e5 w5 ⟨A5,c5,rfl,hc5,hn5,hb5⟩;rw[HNS.out] at hc5 hn5 ⊢)
    | (go_at_call 160;refine(za8 p s A5 NS.length c5 NS _ ((HO.out.ptr.below (Cv.drewN_below (Below.refl _ _) 1)).below hb5) HG.out hn5 (by omega)).mono ?_;rintro e6 w6 ⟨rfl,hb6,_⟩;rw[HK.out,HW.out]))
  have hb6':Below w.heap.size w w6:=Cv.next (Cv.next (Cv.drewN_below (Below.refl _ _) 1) hb5) hb6;have HB:=hid hb6';have HO6:=hid (HO.out.below hb6');have d6:=(hb6'.cell (p:=⟨q,0,none⟩) hq).trans d0;clear hb5 hb6 hb6' hn5
  by_cases hC:C=0
  ·subst hC;obtain⟨i,x,hk,hx,hxn⟩:=HPLA.out rfl;obtain⟨g,cc,E,m,d,hv,_,_,_,hil,_⟩:=HO6.out.at_ hx;have p6:=HO6.out.s0;rw[hv] at p6;rw[hk];have i0:(0:Int)≤(i:Int):=by omega
   have i1:(i:Int)<(s.inos.length:Int):=by omega
   go_wp2_with fail;refine(z0h _ _).mono ?_;rintro e3 w3 ⟨rfl,rfl⟩;go_wp2_with fail;go_ret
   first|exact⟨HB.out,.inr ⟨rfl,g,_,cc,i,x,hv,hx,hxn,rfl⟩⟩|exact⟨HB.out,i,x,hx,hxn,rfl⟩
  ·have hne:(C != 0)=true:=by rw[bne_iff_ne];exact hC
   go_wp2_with fail;refine(z0f _ _).mono ?_;rintro e3 w3 ⟨rfl,rfl⟩;go_wp2_with fail;exact z0b rfl ⟨HB.out,.inl ⟨hC,rfl⟩⟩
 ·have hfv:findV s.inos path=(0,codeP (parseL path.data.toList).2):=by unfold findV;rw[if_pos hpar]
  rw[hfv];have hcp:codeP (parseL path.data.toList).2≠0:=by unfold codeP;rw[if_neg hpar];split<;>decide
  have HPAR:=hid hpar;obtain⟨C,hC⟩:∃C,codeP (parseL path.data.toList).2=C:=⟨_,rfl⟩;simp only;rw[hC] at hcp ⊢;have HC:=hid hC;have HCP:=hid hcp;clear hpar hfv hC hcp
  go_enter Tryz.func141,Tryz.ntmps141
  go_wp2_with fail;refine wp_region_any (by kernel_rfl) ?_
  change wpAny _ _ _ _ _ _ _ (World.drew _)
  refine wpAny_take (i:=0) (v:=.pointer (some ⟨q,0,none⟩)) rfl (by kernel_rfl) (by kernel_rfl) (by kernel_rfl) (fun _ _ _ h=>h) (Or.inl ⟨by rfl,by intro w;go_simp⟩) ?_;refine wpAny_take (i:=1) (v:=.pointer (some ⟨q,0,none⟩)) rfl (by kernel_rfl) (by kernel_rfl) (by kernel_rfl) (fun _ _ _ h=>h) (Or.inl ⟨by rfl,by intro w;go_simp⟩) ?_;refine wpAny_take (i:=2) (v:=.pointer (some ⟨q,0,none⟩)) rfl (by kernel_rfl) (by kernel_rfl) (by kernel_rfl) (fun _ _ _ h=>h) (Or.inl ⟨by rfl,by intro w;go_simp⟩) ?_;refine wpAny_take (i:=4) (v:=.string path) rfl (by kernel_rfl) (by kernel_rfl) (by kernel_rfl) (fun _ _ _ h=>h) (Or.inl ⟨by rfl,by intro w;go_simp⟩) ?_;refine wpAny_ready (rs:=[3,5]) (by kernel_rfl) (by simp) (AllReady.cons rfl (fun K hK=>?_) (AllReady.cons rfl (fun K hK=>?_) AllReady.nil))
  ·go_simp
   refine hK _ _ ?_;clear hK;refine wpAny_ready (rs:=[5]) (by kernel_rfl) (by simp) (AllReady.cons rfl (fun K hK=>?_) AllReady.nil)
   go_simp
   refine(z7v path _ hs HPAR.out).mono ?_;rintro e5 w5 ⟨rfl,hb5⟩;rw[HC.out]
   go_simp
   exact z0b rfl ⟨Cv.next (Cv.drewN_below (Below.refl _ _) 1) hb5,.inl ⟨HCP.out,rfl⟩⟩
  ·go_simp
   refine(z7v path _ hs HPAR.out).mono ?_;rintro e5 w5 ⟨rfl,hb5⟩;rw[HC.out]
   go_simp
   exact z0b rfl ⟨Cv.next (Cv.drewN_below (Below.refl _ _) 1) hb5,.inl ⟨HCP.out,rfl⟩⟩
theorem zbp (is:List Ino) (n:Nat):∀(ds:List Ds) (q:Option Ds),opensG is n ds q=true→∀d∈ds,dsBad is n d=false
 | [],_,_,d,hd=>by simp at hd
 | y :: ds, q, h, d, hd => by
  unfold opensG at h
  split at h
  ·cases h
  ·rename_i h1
   split at h
   ·cases h
   ·rcases List.mem_cons.1 hd with rfl|hd
    ·simpa using h1
    ·exact zbp is n ds _ h d hd
theorem Good.opens {s:St} (h:Good s):∀d∈s.opn,0≤d.core∧d.core<(s.made.length:Int)∧0≤d.fd∧d.fd<4∧∃(i:Nat) (x:Ino),atV s.inos d.num=(i:Int)∧s.inos[i]? =some x∧x.num=d.num∧x.dir=false:=by
 intro d hd;have h1:=zbp _ _ _ _ h.opn d hd;unfold dsBad at h1;simp only[Bool.or_eq_false_iff,decide_eq_false_iff_not] at h1;obtain⟨⟨⟨⟨a1,a2⟩,a3⟩,a4⟩,a5⟩:=h1;refine⟨by omega,by omega,by omega,by omega,?_⟩
 rcases z0k s.inos d.num with⟨h2,_⟩|⟨k,x,h2,h3,h4,_⟩
 ·rw[h2] at a5;simp[inoAt] at a5
 ·rw[h2,z0c,h3] at a5;exact⟨k,x,h2,h3,h4,a5⟩
def fdP:List Ds→Int→Int→Option Nat
 | [],_,_=>none
 | d::ds,core,fd=>if d.core=core∧d.fd=fd then some 0 else(fdP ds core fd).map (· +1)
def fdI (ds:List Ds) (core fd:Int):Int:=match fdP ds core fd with|none=> -1|some k=>(k:Int)
theorem zco:∀(ds:List Ds) (core fd:Int),fdP ds core fd=none→fdV ds core fd=0∧dropD ds core fd=ds
 | [],_,_,_=>⟨rfl,rfl⟩
 | d::ds,core,fd,h=>by
  unfold fdP at h;unfold fdV dropD
  by_cases hh:d.core=core∧d.fd=fd
  ·rw[if_pos hh] at h;cases h
  ·rw[if_neg hh] at h ⊢;rw[if_neg hh];have:=zco ds core fd (by cases hf:fdP ds core fd with|none=>rfl|some k=>rw[hf] at h;cases h);exact⟨this.1,by rw[this.2]⟩
theorem z9e:∀(ds:List Ds) (core fd:Int) (k:Nat),fdP ds core fd=some k→∃d,ds[k]? =some d∧d.core=core∧d.fd=fd∧fdV ds core fd=d.num
 | [],_,_,k,h=>by cases h
 | d :: ds, core, fd, k, h => by
  unfold fdP at h;unfold fdV
  by_cases hh:d.core=core∧d.fd=fd
  ·rw[if_pos hh] at h;cases h;exact⟨d,rfl,hh.1,hh.2,if_pos hh⟩
  ·rw[if_neg hh] at h ⊢;cases hf:fdP ds core fd with
   | none=>rw[hf] at h;cases h
   | some j=>
    rw[hf] at h;cases h;obtain⟨y,h1,h2⟩:=z9e ds core fd j hf;exact⟨y,by simpa using h1,h2⟩
theorem zcp (ds:List Ds) (core fd:Int) (q:Nat) (y:Ds) (hd:ds.drop q=y::ds.drop (q+1)):fdP (ds.drop q) core fd=if y.core=core∧y.fd=fd then some 0 else(fdP (ds.drop (q+1)) core fd).map (· +1):=by
 rw[hd,fdP]
theorem zkd (q p:Nat) (c:Ca) (fd num:Int) (dir:Bool) (data:ByteArray) (nv:Value) (a b k:Int) (bx:Nat) (w:World) (hb:w.cell? ⟨bx,0,.none⟩=some (.pointer (some ⟨q,0,none⟩))) (hlt:bx<w.heap.size) (hD:DoerAt w q p c fd num dir data nv):
  Calls Tryz.prog 142 #[.agg #[.int .i64 a,.int .i64 b,.int .i64 k],.pointer (some ⟨bx,0,.none⟩)] w fun e w'=>e=.returned (.bool (a==c.core&&b==c.fd))∧Below w.heap.size w w':=by
 obtain⟨V2,hV2,v0,v1,v2,hal4,hlt4⟩:=z5h w a b k;have z:=(hal4.cell (p:=⟨bx,0,.none⟩) hlt).trans hb;have hD2:=hD.below hal4;have d2:=hD2.c2;have d3:=hD2.c3;have HAL:=hid hal4;clear hal4 hD hD2;obtain⟨X,hX⟩:∃X,(a==c.core)=X:=⟨_,rfl⟩;obtain⟨Y,hY⟩:∃Y,(b==c.fd)=Y:=⟨_,rfl⟩;rw[hX,hY]
 go_enter Tryz.func142,Tryz.ntmps142
 cases X
 ·go_wp2_with fail;go_quiet (fail);go_wp2_with fail;go_ret;exact⟨by first|rfl|simp,Cv.next HAL.out (Cv.drewN_below (Below.refl _ _) _)⟩
 ·go_wp2_with fail;go_quiet (fail);go_wp2_with fail;go_ret;exact⟨by first|rfl|simp,Cv.next HAL.out (Cv.drewN_below (Below.refl _ _) _)⟩
set_option maxRecDepth 100000 in
set_option maxHeartbeats 4000000 in
theorem zcq (q p:Nat) (c:Ca) (fd num:Int) (dir:Bool) (data:ByteArray) (nv:Value) (xs:List Ds) (A:Option Addr) (n cp:Nat) (bx:Nat) (w:World) (hI:DescsAt none w A n xs) (hn:n≤1099511627776) (hb:w.cell? ⟨bx,0,.none⟩=some (.pointer (some ⟨q,0,none⟩))) (hblt:bx<w.heap.size) (hD:DoerAt w q p c fd num dir data nv):
  Calls Tryz.prog 81 #[.slice A n cp,.func (.func 142) #[] #[.pointer (some ⟨bx,0,.none⟩)]] w fun e w'=>e=.returned (.int .i64 (fdI xs c.core c.fd))∧Below w.heap.size w w':=by
 obtain⟨R,hR⟩:∃R,fdP xs c.core c.fd=R:=⟨_,rfl⟩;unfold fdI;rw[hR];have HI:=hid hI;have HR:=hid hR;have HD:=hid hD;clear hI hR hD
 go_enter Tryz.func81,Tryz.ntmps81
 go_wp2_with fail
 go_loopw [8] (fun j wr=>∃r:Nat,j=.int .i64 r∧r≤n∧Below w.heap.size w wr∧(fdP (xs.drop r) c.core c.fd).map (· +r)=R) (fun j _=>n-(intOf j).toNat)
 case atStart=>exact⟨0,rfl,by omega,Below.refl _ _,by rw[List.drop_zero,HR.out];cases R<;>rfl⟩
 case round=>
  obtain⟨r,rfl,hq,hbel,hc⟩:=hrel;have HB:=hid hbel;have HIr:=hid (HI.out.below hbel);have hbr:=(hbel.cell (p:=⟨bx,0,.none⟩) hblt).trans hb;have hbl:bx<wr.heap.size:=Nat.lt_of_lt_of_le hblt hbel.size;have HBR:=hid hbr;have HDR:=hid (HD.out.below hbel);clear hbel hbr
  by_cases hlt:r<n
  ·obtain⟨g,off,y,rfl,hg,hy,hd,hmem,e0,e1,e2⟩:=HIr.out.get r hlt;rw[zcp xs _ _ r y hd] at hc;have HC:=hid hc;have k0:(0:Int)≤(r:Int):=by omega
   clear hc hd hmem hy;go_wp2_with fail;refine(zkd q p c fd num dir data nv y.core y.fd y.num bx _ HBR.out hbl HDR.out).mono ?_;rintro e5 w5 ⟨rfl,hb5⟩;have HB5:=hid (HB.out.trans (hb5.mono HB.out.size));clear hb5 e0 e1 e2;obtain⟨bb,hbb⟩:∃bb,(y.core==c.core&&y.fd==c.fd)=bb:=⟨_,rfl⟩;rw[hbb];have hc:=HC.out;cases bb
   ·have hnx:¬(y.core=c.core∧y.fd=c.fd):=fun h=>by rw[h.1,h.2] at hbb;simp at hbb
    rw[if_neg hnx] at hc;have HC2:=hid hc;clear hc hbb hnx;go_wp2_with fail;go_roundw
    case rel=>exact⟨r+1,by go_num,by omega,HB5.out,by
     rw[←HC2.out];cases fdP (xs.drop (r+1)) c.core c.fd
     ·rfl
     ·simp;omega⟩
    case measure=>simp[intOf];omega
   ·have hnx:y.core=c.core∧y.fd=c.fd:=by simpa using hbb
    rw[if_pos hnx] at hc;have HC2:=hid hc;clear hc hbb hnx;go_wp2_with fail;go_ret;have h:=HC2.out;simp at h;subst h;exact⟨rfl,HB5.out⟩
  ·have hnil:xs.drop r=[]:=List.drop_eq_nil_of_le (by have:=HI.out.1;omega);rw[hnil,fdP] at hc;have HC:=hid hc;clear hc hnil;go_wp2_with fail;go_ret;exact⟨by rw[←HC.out];rfl,HB.out⟩
end Go.Proofs.YtkflaifopbodfaaGreatDoor
