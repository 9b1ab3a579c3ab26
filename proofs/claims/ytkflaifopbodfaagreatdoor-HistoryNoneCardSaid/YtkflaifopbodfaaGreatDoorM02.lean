/- Parts of the proof, side by side: FsReached, PlainPath, PlainPath2, FsPlain2, NameBase. -/
import Derived.Test.YtkflaifopbodfaaGreatDoorM01
import Derived.Laws.AppendOwn
import Derived.Deep.OwnRows
import Derived.Deep.LoopGhost
import Derived.Test.YtkflaifopbodfaaGreatDoorM00
import Derived.Test.YtkflaifopbodfaaGreatDoorRows
import Derived.WalkKit
import Derived.WalkSpells
import Derived.WalkLawsBesides
import Derived.Lib.Hide
import Derived.Laws.RangeAny
set_option linter.unusedVariables false
set_option linter.unusedSimpArgs false
namespace Go.Proofs.YtkflaifopbodfaaGreatDoor
open Lib (hid)
open Go.RowKit
def FlagsAt (w:World) (G n:Nat) (f:List Bool):Prop:=∃cur:Array Value,w.heap[G]? =some (.cells cur 4 (0,0))∧∀j,j<n→cur[j]? =some (.bool (f.getD j false))
theorem FlagsAt.lt {w:World} {G n:Nat} {f:List Bool} (h:FlagsAt w G n f):G<w.heap.size:=by
 obtain⟨cur,hh,_⟩:=h;exact(Array.getElem?_eq_some_iff.1 hh).1
theorem FlagsAt.same {w w':World} {G n:Nat} {f:List Bool} (h:FlagsAt w G n f) (hb:w'.heap[G]? =w.heap[G]?):FlagsAt w' G n f:=by
 obtain⟨cur,hh,hc⟩:=h;exact⟨cur,hb.trans hh,hc⟩
theorem FlagsAt.below {w w':World} {G n:Nat} {f:List Bool} (h:FlagsAt w G n f) (hb:Below w.heap.size w w'):FlagsAt w' G n f:=h.same (hb.block G h.lt)
theorem FlagsAt.get {w:World} {G n:Nat} {f:List Bool} (h:FlagsAt w G n f) (j:Nat) (hj:j<n):w.cell? ⟨G,j,.none⟩=some (.bool (f.getD j false))∧w.frozen? ⟨G,j,.none⟩=false:=by
 obtain⟨cur,hh,hc⟩:=h;exact⟨by rw[cell_of_row w G j cur _ (0,0) hh];exact hc j hj,frozen_of_row w G j cur _ hh⟩
theorem FlagsAt.set {w:World} {G n:Nat} {f:List Bool} (h:FlagsAt w G n f) (b:Nat) (hb:b<n) (hf:b<f.length):FlagsAt (w.setCell ⟨G,b,.none⟩ (.bool true)) G n (f.set b true):=by
 obtain⟨cur,hh,hc⟩:=h;refine⟨_,heap_setCell_same w G b cur _ _ hh,fun j hj=>?_⟩;rw[Array.getElem?_setIfInBounds,z1r f b j hf]
 by_cases e:b=j
 ·subst e;have:b<cur.size:=(Array.getElem?_eq_some_iff.1 (hc b hb)).1;simp[this]
 ·rw[if_neg e,if_neg (fun e2=>e e2.symm)];exact hc j hj
theorem zgf:(Tryz.prog.info? 4).map (fun i=>(i.zero,i.size,i.bytes))=some (some (.bool false),1,1):=by kernel_rfl
theorem z5s:(Tryz.prog.info? 3).map (fun i=>(i.zero,i.size,i.bytes))=some (some (.int .i64 0),1,8):=by kernel_rfl
theorem zhz (N:Nat) (h:N≤65536) (w:World):∃W,(Instr.makeSlice 98 (.int .i64 (N:Int)) (.int .i64 (N:Int))).run Tryz.prog w=.ok (.slice (some ⟨w.heap.size,0,.none⟩) N N) W∧FlagsAt W w.heap.size N (List.replicate N false)∧Below w.heap.size w W:=by
 refine⟨_,run_make_row' (P:=Tryz.prog) 98 4 (.bool false) 1 Tryz.underlying98 zgf rfl .i64 .i64 N (by omega) (by omega) w,⟨_,heap_alloc_new w _,fun j hj=>?_⟩,(Below.refl _ _).alloc (Nat.le_refl _) _⟩
 have h1:(List.replicate N false).getD j false=false:=by
  rw[List.getD_eq_getElem?_getD,List.getElem?_replicate]
  split<;>rfl
 rw[h1];simp[madeCells,hj,Nat.mod_one]
theorem znm {w:World} {B:Nat} {e:TypeId} {A:Option Addr} {n m c:Nat} {xs:List Value} (h:w.ownsRow B e 1 (.slice A (n+m) c) (n+m) xs) (hm:0<m):w.ownsRow B e 1 (.slice A n c) n (xs.take n):=by
 obtain⟨hl,h⟩:=h;refine⟨by rw[List.length_take];omega,?_⟩
 rcases h with⟨_,h2⟩|⟨g,cap,cur,hv,hb,hg,hnc,hcm,hcs,htk⟩
 ·omega
 ·injection hv with e1 e2 e3
  subst e1 e3;refine Or.inr ⟨g,c,cur,rfl,hb,hg,by omega,hcm,hcs,?_⟩;rw[←htk,List.take_take]
  congr 1
  omega
theorem znn (w:World) (e:TypeId) (v:Value):(w.alloc (.cells #[v] e)).ownsRow w.heap.size e 1 (.slice (some ⟨w.heap.size,0,.none⟩) 1 1) 1 [v]:=
 ⟨rfl,Or.inr ⟨w.heap.size,1,#[v],rfl,Nat.le_refl _,heap_alloc_new w _,Nat.le_refl _,by unfold maxLen;omega,rfl,rfl⟩⟩
theorem z9o (w:World) (v:Value) (t:TypeId):∀j u,([v]:List Value)[j]? =some u→(w.alloc (.cells #[v] t)).cell? ((⟨w.heap.size,0,.none⟩:Addr).add j)=some u:=by
 intro j u hu;have e:(⟨w.heap.size,0,.none⟩:Addr).add j=⟨w.heap.size,j,.none⟩:=by unfold Addr.add;split<;>simp_all
 rw[e];exact(World.cell?_alloc_mark w _ _ (0,0) _).trans (by simpa using hu)
theorem z2k {B:Nat} {e:TypeId} {k:Nat} {w w':World} {v:Value} {n:Nat} {xs:List Value} (h:w.ownsRow B e k v n xs) (hb:Below w.heap.size w w'):w'.ownsRow B e k v n xs:=by
 obtain⟨hl,h⟩:=h;refine⟨hl,?_⟩
 rcases h with h|⟨g,cap,cur,hv,hB,hg,r⟩
 ·exact Or.inl h
 ·exact Or.inr ⟨g,cap,cur,hv,hB,(hb.block g (Array.getElem?_eq_some_iff.1 hg).1).trans hg,r⟩
theorem zjm {B:Nat} {e:TypeId} {k:Nat} {w:World} {v:Value} {n:Nat} {xs:List Value} {G i:Nat} {u:Value} (h:w.ownsRow B e k v n xs) (hG:G<B):(w.setCell ⟨G,i,.none⟩ u).ownsRow B e k v n xs:=by
 obtain⟨hl,h⟩:=h;refine⟨hl,?_⟩
 rcases h with h|⟨g,cap,cur,hv,hB,hg,r⟩
 ·exact Or.inl h
 ·exact Or.inr ⟨g,cap,cur,hv,hB,(Below.heap_setCell w ⟨G,i,.none⟩ u g (by show g≠G;omega)).trans hg,r⟩
theorem zlv (ys:List Int) (t:Int):((ys++[t]).map (Value.int .i64))[ys.length]? =some (.int .i64 t):=by simp
set_option maxRecDepth 100000 in
set_option maxHeartbeats 8000000 in
theorem zf8 (v : Value) (s : St) (w : World) (h : StAt none w v s) (hn0 : s.inos.length ≤ 257) :
  Calls Tryz.prog 50 #[v] w fun e w'=>∃G,e=.returned (.slice (some ⟨G,0,.none⟩) s.inos.length s.inos.length)∧FlagsAt w' G s.inos.length (reachV s.inos)∧Below w.heap.size w w':=by
 obtain⟨⟨A,n,c,B,m,d,D,k,e,rfl,hI,hD,hM,h5,h6,h7⟩,hz⟩:=h;have hbig:=hz.big;have hn:=hI.1;obtain⟨i0,hi,hz0,hz1,hz2⟩:=info_parts z5s;obtain⟨W,hW,b0,b1,b2,hal,hlt0⟩:=z0u w A n c B m d D k e;obtain⟨U,hmk,hfl,hal2⟩:=zhz n (by omega) W;have x0:=(hal2.cell (p:=⟨w.heap.size,0,.none⟩) hlt0).trans b0;have x1:=(hal2.cell (p:=⟨w.heap.size,1,.none⟩) hlt0).trans b1;have x2:=(hal2.cell (p:=⟨w.heap.size,2,.none⟩) hlt0).trans b2;have HS:=hid (StAt.of_parts hI hD hM h5 h6 h7 hz);have HI:=hid hI;have HAL:=hid (Cv.next hal hal2);have hrow:=znn U 3 (.int .i64 1);have hal3:Below U.heap.size U (U.alloc (.cells #[.int .i64 1] 3)):=(Below.refl _ _).alloc (Nat.le_refl _) _;have hfl3:=hfl.below hal3;have HF:=hid hfl3;have HAL3:=hid hal3;have HROW:=hid hrow;have hWU:W.heap.size<U.heap.size:=hfl.lt;have hwU:w.heap.size<U.heap.size:=Nat.lt_of_lt_of_le hlt0 hal2.size
 have hB2:bulkE s.inos≤1099511627776:=by omega
 have hn2:n≤257:=by omega
 have HN:=hid hn;rw[hn];clear hI hD hM hz hbig hn hal hal2 hrow hal3 hfl hfl3 b1 b2 hn0
 go_enter Tryz.func50,Tryz.ntmps50
 go_wp2_with fail;clear hW hmk b0
 go_loopg [4,5,6] (1+bulkE s.inos) (fun gk v4 _ _ wr=>∃(V:Value) (todo:List Int) (f:List Bool),V=v4∧wr.ownsRow U.heap.size 3 1 V todo.length (todo.map (Value.int .i64))∧FlagsAt wr W.heap.size n f∧Below W.heap.size U wr∧U.heap.size≤wr.heap.size∧Found s.inos todo f∧todo.length+sumUn s.inos f=gk∧gk≤1+bulkE s.inos)
 case atStart=>exact⟨_,[1],List.replicate n false,rfl,HROW.out,HF.out,HAL3.out.mono (Nat.le_of_lt hWU),HAL3.out.size,by rw[←HN.out];exact Found.start s.inos,by rw[z3j];rfl,Nat.le_refl _⟩
 case round =>
  obtain⟨V,todo,f,hV4,hrow,hfl,hbel,hsz,hfo,hgk,hgb⟩:=hrel;subst hV4;have z0:=(hbel.cell (p:=⟨w.heap.size,0,.none⟩) hlt0).trans x0;have z1:=(hbel.cell (p:=⟨w.heap.size,1,.none⟩) hlt0).trans x1;have z2:=(hbel.cell (p:=⟨w.heap.size,2,.none⟩) hlt0).trans x2;have hbw:Below w.heap.size w wr:=HAL.out.trans (hbel.mono (Nat.le_of_lt hlt0));have HB:=hid hbel;have HBW:=hid hbw;have HFL:=hid hfl;have HFO:=hid hfo;have HSw:=hid (HS.out.below hbw);have hwsz:W.heap.size<wr.heap.size:=Nat.lt_of_lt_of_le hWU hsz;clear hbel hfl hfo hbw
  rcases List.eq_nil_or_concat todo with rfl|⟨ys,t,rfl⟩
  ·have hv:V=.slice none 0 0∨∃a c,V=.slice a 0 c:=by
    rcases hrow.2 with⟨h1,_⟩|⟨g,cap,cur,h1,_⟩
    ·exact .inl h1
    ·exact .inr ⟨_,_,h1⟩
   have HF2:=hid HFO.out.same
   rcases hv with rfl|⟨a,c4,rfl⟩
   ·clear hrow;go_wp2_with fail;go_ret;exact⟨W.heap.size,rfl,by rw[←HF2.out];exact HFL.out,HBW.out⟩
   ·clear hrow;go_wp2_with fail;go_ret;exact⟨W.heap.size,rfl,by rw[←HF2.out];exact HFL.out,HBW.out⟩
  ·rw [List.concat_eq_append] at hrow HFO hgk;have hlen : (ys ++ [t]).length = ys.length + 1 := by simp
   rw[hlen] at hrow hgk
   obtain⟨g,c4,rfl,hlast,hcut⟩:∃g c4,V=.slice (some ⟨g,0,.none⟩) (ys.length+1) c4∧wr.cell? ⟨g,ys.length,.none⟩=some (.int .i64 t)∧ys.length+1≤c4:=by
    rcases hrow.2 with⟨_,h2⟩|⟨g,cap,cur,h1,_,_,h4,_⟩
    ·omega
    ·subst h1;exact⟨g,cap,rfl,(hrow.cellAt ys.length (by omega)).trans (zlv ys t),h4⟩
   have hrow2:=znm (n:=ys.length) (m:=1) hrow (by omega);rw[show((ys++[t]).map (Value.int .i64)).take ys.length=ys.map (Value.int .i64) by simp] at hrow2;obtain⟨L,hL⟩:∃L,ys.length=L:=⟨_,rfl⟩;rw[hL] at hlast hcut hrow2 hgk ⊢;have HROW2:=hid hrow2;have HL:=hid hL;have l0:decide ((0:Int)<(L:Int)+1)=true:=by rw[decide_eq_true_eq];omega
   have lw:IntKind.i64.wrap ((L:Int)+1-1)=(L:Int):=by rw[IntKind.wrap_i64];omega
   have l1:(0:Int)≤(L:Int):=by omega
   have l2:(L:Int)<(L:Int)+1:=by omega
   have l3:L≤1099511627777:=by omega
   have hx:∀(X:Ext wr) (p:Addr),(wr.cell? p).isSome=true→X.w.cell? p=wr.cell? p:=fun X p h=>X.cell p h
   have hlast2:(ys++[t]).getLast? =some t:=by simp
   have hdl:(ys++[t]).dropLast=ys:=by simp
   have HLA:=hid hlast2;have HDL:=hid hdl;clear hrow hrow2 hlen hL hlast2 hdl;go_wp2_with fail;refine wre ?_
   repeat (go_big_quiet_step (first|(go_at_call 60;rename_i X;exact Calls.ext_of (z2y _ s _ _ (HSw.out.below X.bel)))))
   refine wpQuiet_nil ?_;rintro w7 ⟨X,rfl⟩;generalize hZe:X.w=Z;have hZ:=hZe▸X.bel;clear hZe X hx hlast;have hbz:Below w.heap.size w Z:=Cv.next HBW.out hZ;have hbu:Below W.heap.size U Z:=HB.out.trans (hZ.mono (Nat.le_of_lt hwsz));have y0:=(hZ.cell (p:=⟨w.heap.size,0,.none⟩) (Nat.lt_trans hlt0 hwsz)).trans z0;have hszz:U.heap.size≤Z.heap.size:=Nat.le_trans hsz hZ.size;have HFZ:=hid (HFL.out.below hZ);have HRZ:=hid (z2k HROW2.out hZ);have HBZ:=hid hbz;have HBU:=hid hbu;clear hbz hbu hZ z0 z1 z2
   rcases z0k s.inos t with⟨hat,_⟩|⟨i,x,hat,hx,_,_⟩
   ·rw[hat];have HSK:=hid (HFO.out.skip HLA.out fun j hj=>by rw[hat] at hj;omega);clear hat;go_wp2_with fail
    go_roundg (gk-1)
    case measure=>omega
    case rel=>exact⟨_,ys,f,rfl,by rw[HL.out];exact HRZ.out,HFZ.out,HBU.out,hszz,by have:=HSK.out;rwa [HDL.out] at this,by rw[HL.out];omega,by omega⟩
   ·rw [hat];have hin : i < n := by have := (List.getElem?_eq_some_iff.1 hx).1; have := HN.out; omega
    have hif:i<f.length:=by rw[HFO.out.len,HN.out];exact hin
    have q0:decide ((i:Int)<0)=false:=by simp
    have i0':(0:Int)≤(i:Int):=by omega
    have i9:(i:Int)<(n:Int):=by omega
    obtain⟨fc,ff⟩:=HFZ.out.get i hin
    by_cases hf:f.getD i false=true
    ·have HSK:=hid (HFO.out.skip HLA.out fun j hj=>by rw[hat] at hj;(have:i=j:=by omega);rw[←this];exact hf);rw[hf] at fc;clear hat hx;go_wp2_with fail
     go_roundg (gk-1)
     case measure=>omega
     case rel=>exact⟨_,ys,f,rfl,by rw[HL.out];exact HRZ.out,HFZ.out,HBU.out,hszz,by have:=HSK.out;rwa [HDL.out] at this,by rw[HL.out];omega,by omega⟩
    ·have hf2 : f.getD i false = false := by simpa using hf
     have HTK:=hid (HFO.out.take HLA.out hat hx);have hsum:=z9n s.inos f i x hif hf2 hx;have hle:=z1q hx;rw[hf2] at fc;obtain⟨g2,off2,x',E,m3,d3,rfl,hg2,hx',_,_,_,c1,c2,hmd,hE,_⟩:=HI.out.get i hin;have ex:x=x':=by rw[hx] at hx';exact Option.some.inj hx'
     subst ex;have hel:=hE.1;have hm3:m3≤1099511627776:=by omega
     have HE:=hid hE;have HEL:=hid hel;have HSM:=hid hsum;have HFS:=hid (HFZ.out.set i hin hif);have HRS:=hid (zjm (i:=i) (u:=.bool true) HRZ.out hWU);have HBU2:=hid (HBU.out.setCell (p:=⟨W.heap.size,i,.none⟩) (Nat.le_refl _) (.bool true));have HBZ2:=hid (HBZ.out.setCell (p:=⟨W.heap.size,i,.none⟩) (Nat.le_of_lt hlt0) (.bool true));have hszz2:U.heap.size≤(Z.setCell ⟨W.heap.size,i,.none⟩ (.bool true)).heap.size:=by simpa [World.setCell] using hszz
     have y1:=(World.cell?_setCell_other Z ⟨W.heap.size,i,.none⟩ ⟨w.heap.size,0,.none⟩ (.bool true) (fun e=>by injection e with e;omega)).trans y0;obtain⟨Z2,hZ2⟩:∃Z2,Z.setCell ⟨W.heap.size,i,.none⟩ (.bool true)=Z2:=⟨_,rfl⟩;rw[hZ2] at HFS HRS HBU2 HBZ2 hszz2 y1;clear hat hx hx' hsum hel hE hf
     by_cases hdir:x.dir=true
     ·rw [hdir] at c1;have HDR := hid hdir;clear hdir hf2;go_wp2_with fail;clear hZ2 y0 y1 fc ff
      go_loopw [4,6] (fun v j wz=>∃(q:Nat) (V:Value),V=v∧j=.int .i64 q∧q≤m3∧wz.ownsRow U.heap.size 3 1 V (L+q) ((ys++(x.ents.take q).map (·.num)).map (Value.int .i64))∧FlagsAt wz W.heap.size n (f.set i true)∧Below W.heap.size U wz∧U.heap.size≤wz.heap.size) (fun _ j _=>m3-(intOf j).toNat)
      case atStart=>exact⟨0,_,rfl,rfl,by omega,by simpa using HRS.out,HFS.out,HBU2.out,hszz2⟩
      case round=>
       obtain⟨q,V,hV,rfl,hq,hrow,hfl,hbel,hsz3⟩:=hrel;subst hV;have hbw:Below w.heap.size w wr:=HAL.out.trans (hbel.mono (Nat.le_of_lt hlt0));have r0:=(hbel.cell (p:=⟨w.heap.size,0,.none⟩) hlt0).trans x0;have s1:=(hbw.cell (p:=⟨g2,_,.none⟩) hg2).trans c1;have s2:=(hbw.cell (p:=⟨g2,_,.none⟩) hg2).trans c2;have HR9:=hid hrow;have HF9:=hid hfl;have HB9:=hid hbel;have HW9:=hid hbw;clear hrow hfl hbel hbw
       by_cases hlt:q<m3
       ·obtain⟨g3,off3,y,rfl,hg3,hy,hd,hmem,_,e1⟩:=HE.out.get q hlt;have s3:=(HW9.out.cell (p:=⟨g3,_,.none⟩) hg3).trans e1
        have htk:(x.ents.take (q+1)).map (·.num)=(x.ents.take q).map (·.num)++[y.num]:=by
         rw[List.take_add_one,hy];simp
        have HTK2:=hid htk;clear hy hd hmem e1 htk c1 c2;go_wp2_with (at_builtin;refine wpList_append_own _ rfl _ _ 25 rfl U.heap.size 3 i0 (.int .i64 0) 1 8 Tryz.underlying25 hi hz0 hz1 hz2 rfl (by decide) _ (L+q) _ rfl (HR9.out.alloc _) ⟨wr.heap.size,0,.none⟩ 1 1 [.int .i64 y.num] rfl rfl (z9o wr _ _) ?ca2 ?ca3 ?ca4 ?ca5 ?_)
        case ca2=>first|rfl|(intro u hu;simp at hu;subst hu;rfl)
        case ca3=>unfold maxLen;omega
        case ca4=>omega
        case ca5=>first|omega|(simp;omega)
        intro v' w' hown' hgrow _;have hge:∀k,V.ownBlock=some k→U.heap.size≤k:=fun k hk=>(HR9.out.lt k hk).1
        have hfl':FlagsAt w' W.heap.size n (f.set i true):=(HF9.out.below ((Below.refl _ _).alloc (Nat.le_refl _) _)).same (hgrow.block _ (by simp;omega) (fun e=>by have:=hge _ e.symm;omega));have hbel':Below W.heap.size U w':=(HB9.out.alloc (by omega) _).grown hgrow (by simp;omega) (fun k hk=>by have:=hge k hk;omega);have hsz':U.heap.size≤w'.heap.size:=Nat.le_trans hsz3 (Nat.le_trans (by simp) hgrow.size);have HO':=hid hown';have HF':=hid hfl';have HB':=hid hbel';clear hown' hgrow hge hfl' hbel';go_wp2_with fail;go_roundw
        case rel=>exact⟨q+1,_,rfl,by go_num,by omega,by
         have:=HO'.out;rw[HTK2.out]
         simpa [Nat.add_assoc] using this,HF'.out,HB'.out,hsz'⟩
        case measure=>simp[intOf];omega
       ·have hqm:q=m3:=by omega
        have HQM:=hid hqm;clear hqm c1 c2;go_wp2_with fail
        go_roundg (gk-1)
        case measure=>omega
        case rel=>
         have hall:x.ents.take q=x.ents:=List.take_of_length_le (by have:=HEL.out;have:=HQM.out;omega);have hlen:(ys++x.ents.map (·.num)).length=L+q:=by rw[List.length_append,List.length_map,HL.out,HEL.out,HQM.out]
         refine⟨_,ys++x.ents.map (·.num),f.set i true,rfl,?_,HF9.out,HB9.out,hsz3,?_,?_,by omega⟩
         ·rw[hlen];have:=HR9.out
          rwa [hall] at this
         ·have:=HTK.out
          rwa [HDL.out,if_pos HDR.out] at this
         ·rw[hlen];have:=HSM.out;have:=HEL.out;have:=HQM.out;omega
     ·have hdir2:x.dir=false:=by simpa using hdir
      rw[hdir2] at c1;have HDR:=hid hdir2;have s1:=(HBZ2.out.cell (p:=⟨g2,_,.none⟩) hg2).trans c1;have s2:=(HBZ2.out.cell (p:=⟨g2,_,.none⟩) hg2).trans c2;clear hdir hf2 hdir2 c1 c2;go_wp2_with fail;clear hZ2 y0 fc ff
      go_loopw [4,6] (fun v j wz=>v=.slice (some ⟨g,0,.none⟩) L c4∧j=.int .i64 0∧Z2=wz) (fun _ _ _=>0)
      case atStart=>exact⟨rfl,rfl,rfl⟩
      case round=>
       obtain⟨rfl,rfl,rfl⟩:=hrel
       by_cases hlt2:0<m3
       ·go_wp2_with fail
        go_roundg (gk-1-m3)
        case measure=>omega
        case rel=>exact⟨_,ys,f.set i true,rfl,by rw[HL.out];exact HRS.out,HFS.out,HBU2.out,hszz2,by have:=HTK.out;rwa [HDL.out,if_neg (by rw[HDR.out];simp),List.append_nil] at this,by rw[HL.out];have:=HSM.out;have:=HEL.out;omega,by omega⟩
       ·have hm0:m3=0:=by omega
        subst hm0;go_wp2_with fail
        go_roundg (gk-1)
        case measure=>omega
        case rel=>exact⟨_,ys,f.set i true,rfl,by rw[HL.out];exact HRS.out,HFS.out,HBU2.out,hszz2,by have:=HTK.out;rwa [HDL.out,if_neg (by rw[HDR.out];simp),List.append_nil] at this,by rw[HL.out];have:=HSM.out;have:=HEL.out;omega,by omega⟩
end Go.Proofs.YtkflaifopbodfaaGreatDoor
namespace Go.Proofs.YtkflaifopbodfaaGreatDoor
open Lib (hid)
theorem z3x (l:List UInt8):checkL l=0∨checkL l=800∨checkL l=801:=by
 unfold checkL
 split
 ·exact Or.inr (Or.inr rfl)
 ·split
  ·exact Or.inr (Or.inl rfl)
  ·split
   ·exact Or.inr (Or.inl rfl)
   ·exact Or.inl rfl
def scanP:List UInt8→List UInt8→List (List UInt8)→List (List UInt8)×Nat
 | [],_,out=>if 4<out.length then([],1102) else(out,0)
 | b::r,cur,out=>if b=47 then(if checkL cur=0 then scanP r [] (out++[cur]) else if checkL cur=801 then([],1101) else([],1100)) else scanP r (cur++[b]) out
def parseL (l:List UInt8):List (List UInt8)×Nat:=
 if 64<l.length then([],1101) else if ¬l.head? =some 47 then([],1100) else if l.length=1 then([],0) else scanP (l.drop 1++[47]) [] []
theorem zdj (cur:List UInt8) (out:List (List UInt8)):scanP [] cur out=if 4<out.length then([],1102) else(out,0):=rfl
theorem z9p (b:UInt8) (r cur:List UInt8) (out:List (List UInt8)) (h:¬b=47):scanP (b::r) cur out=scanP r (cur++[b]) out:=by
 show(if b=47 then _ else _)=_;rw[if_neg h]
theorem zc3 (r cur:List UInt8) (out:List (List UInt8)) (h:checkL cur=0):scanP (47::r) cur out=scanP r [] (out++[cur]):=by
 show(if(47:UInt8)=47 then _ else _)=_;rw[if_pos rfl,if_pos h]
theorem z7l (r cur:List UInt8) (out:List (List UInt8)) (h:checkL cur=801):scanP (47::r) cur out=([],1101):=by
 show(if(47:UInt8)=47 then _ else _)=_;rw[if_pos rfl,if_neg (by omega),if_pos h]
theorem z7m (r cur:List UInt8) (out:List (List UInt8)) (h:checkL cur=800):scanP (47::r) cur out=([],1100):=by
 show(if(47:UInt8)=47 then _ else _)=_;rw[if_pos rfl,if_neg (by omega),if_neg (by omega)]
def piece (l:List UInt8) (i j:Nat):List UInt8:=(l.take j).drop i
theorem z2z (l:List UInt8) (i:Nat):piece l i i=[]:=by
 unfold piece;exact List.drop_eq_nil_of_le (by rw[List.length_take];omega)
theorem zi0 (l:List UInt8) (i j:Nat) (hij:i≤j) (hj:j<l.length):piece l i (j+1)=piece l i j++[l[j]]:=by
 unfold piece;rw[List.take_succ_eq_append_getElem hj,List.drop_append_of_le_length (by rw[List.length_take];omega)]
theorem z1x (s:ByteArray) (i j:Nat):s.extract i j=⟨(piece s.data.toList i j).toArray⟩:=by
 apply ByteArray.ext;apply Array.ext';simp[piece,List.extract_eq_take_drop,List.drop_take]
theorem zjn (l:List UInt8) (j:Nat) (h:j<l.length):(l++[47]).drop j=l[j]::(l++[47]).drop (j+1):=by
 rw[List.drop_eq_getElem_cons (by simp;omega)];rw[List.getElem_append_left h]
theorem zno (l:List UInt8) (j:Nat) (h:j=l.length):(l++[47]).drop j=47::(l++[47]).drop (j+1):=by
 subst h;simp
theorem zgg (l:List UInt8) (j:Nat) (h:j=l.length+1):(l++[47]).drop j=[]:=by
 subst h;simp
theorem z3y (s:ByteArray):s.data.toList.head? =some 47↔∃h:0<s.size,s[0]=47:=by
 constructor
 ·intro h
  have hl:0<s.data.toList.length:=by
   cases e:s.data.toList with
   | nil=>rw[e] at h;simp at h
   | cons a l=>simp
  have hs:0<s.size:=hl;refine⟨hs,?_⟩;rw[List.head?_eq_getElem?,List.getElem?_eq_getElem hl] at h;exact Option.some.inj h
 ·rintro⟨h,e⟩;have hl:0<s.data.toList.length:=h;rw[List.head?_eq_getElem?,List.getElem?_eq_getElem hl];exact congrArg some e
end Go.Proofs.YtkflaifopbodfaaGreatDoor
namespace Go.Proofs.YtkflaifopbodfaaGreatDoor
open Lib (hid)
open Go.Lib (decodeN)
theorem zc4 (n b0 b1 b2 b3:Nat) (h:b0=47):decodeN n b0 b1 b2 b3=(47,1):=by
 unfold decodeN;rw[if_pos (by omega),h]
theorem z9q (n b0 b1 b2 b3:Nat) (h:¬b0=47):¬(decodeN n b0 b1 b2 b3).1=47∧(2≤(decodeN n b0 b1 b2 b3).2→b1 / 64=2)∧(3≤(decodeN n b0 b1 b2 b3).2→b2 / 64=2)∧(4≤(decodeN n b0 b1 b2 b3).2→b3 / 64=2):=by
 unfold decodeN
 repeat' split
 all_goals (simp only;omega)
theorem z6o (l:List UInt8) (h:l.getD 0 0=47):decodeL l=(47,1):=zc4 _ _ _ _ _ (by rw[h];rfl)
theorem zlw {b:UInt8} (h:¬b=47):¬b.toNat=47:=fun e=>h (UInt8.toNat_inj.1 e)
theorem z2l (l:List UInt8) (h:¬l.getD 0 0=47):¬(decodeL l).1=47∧∀b∈l.take (decodeL l).2,¬b=47:=by
 have hn:=z9q l.length (l.getD 0 0).toNat (l.getD 1 0).toNat (l.getD 2 0).toNat (l.getD 3 0).toNat (zlw h);have hw:=z0p l;refine⟨hn.1,fun b hb e=>?_⟩;obtain⟨j,hj,rfl⟩:=List.getElem_of_mem hb;have hj1:j<(decodeL l).2∧j<l.length:=by rw[List.length_take] at hj;omega
 rw[List.getElem_take] at e;have hg:l.getD j 0=47:=by rw[List.getD_eq_getElem?_getD,List.getElem?_eq_getElem hj1.2];exact e
 have hd:(decodeL l).2=(decodeN l.length (l.getD 0 0).toNat (l.getD 1 0).toNat (l.getD 2 0).toNat (l.getD 3 0).toNat).2:=rfl;rw[←hd] at hn
 match j,hg,hj1 with
 | 0,hg,_=>exact h hg
 | 1,hg,hj1=>have:=hn.2.1 (by omega);rw[hg] at this;exact absurd this (by decide)
 | 2,hg,hj1=>have:=hn.2.2.1 (by omega);rw[hg] at this;exact absurd this (by decide)
 | 3,hg,hj1=>have:=hn.2.2.2 (by omega);rw[hg] at this;exact absurd this (by decide)
 | j+4,_,hj1=>omega
theorem zi1 (bs:List UInt8):∀(r cur:List UInt8) (out:List (List UInt8)),(∀b∈bs,¬b=47)→scanP (bs++r) cur out=scanP r (cur++bs) out:=by
 induction bs with
 | nil=>intro r cur out _;simp
 | cons b bs ih=>
  intro r cur out h
  show scanP (b::(bs++r)) cur out=_;rw[z9p _ _ _ _ (h b (by simp)),ih r _ out (fun c hc=>h c (by simp[hc]))];simp
theorem zi2 (l:List UInt8) (i j k:Nat) (hij:i≤j) (hj:j+k≤l.length):piece l i (j+k)=piece l i j++(l.drop j).take k:=by
 unfold piece;rw[List.take_add,List.drop_append_of_le_length (by rw[List.length_take];omega)]
theorem zbb (l t:List UInt8) (i j:Nat) (hj:j≤l.length):piece (l++t) i j=piece l i j:=by
 unfold piece;rw[List.take_append_of_le_length hj]
theorem zi3 (t:List UInt8) (p j:Nat) (out:List (List UInt8)) (hpj:p≤j) (hj:j<t.length) (h:¬t.getD j 0=47):
  scanP (t.drop j) (piece t p j) out=scanP (t.drop (j+(decodeL (t.drop j)).2)) (piece t p (j+(decodeL (t.drop j)).2)) out:=by
 have hne:t.drop j≠[]:=by intro e;have:=congrArg List.length e;rw[List.length_drop] at this;simp at this;omega
 have hf:=z2q _ hne;rw[List.length_drop] at hf;have h0:¬(t.drop j).getD 0 0=47:=by simpa [List.getD_eq_getElem?_getD,List.getElem?_drop] using h
 have hs:=(z2l _ h0).2;rw[zi2 t p j _ hpj (by omega),←zi1 _ _ _ _ hs,←List.drop_drop,List.take_append_drop]
end Go.Proofs.YtkflaifopbodfaaGreatDoor
namespace Go.Proofs.YtkflaifopbodfaaGreatDoor
open Lib (hid)
def txt (l:List UInt8):ByteArray:=⟨l.toArray⟩
def walkG (is:List Ino):List (List UInt8)→Int→Int×Int
 | [],at_=>(at_,0)
 | n::ns,at_=>
  match inoAt is (atV is at_) with
  | none=>(0,0)
  | some x=>if x.dir=false then(0,7) else if entV is at_ (txt n)=0 then(0,1) else walkG is ns (entV is at_ (txt n))
def codeP (n:Nat):Int:=if n=0 then 0 else if n=1101∨n=1102 then 6 else 9
def findV (is:List Ino) (path:ByteArray):Int×Int:=
 if(parseL path.data.toList).2≠0 then(0,codeP (parseL path.data.toList).2) else walkG is (parseL path.data.toList).1 1
def dirAt (is:List Ino) (num:Int):Bool:=match inoAt is (atV is num) with|none=>false|some x=>x.dir
def parentV (is:List Ino) (path:ByteArray):Int×ByteArray×Int:=
 if(parseL path.data.toList).2≠0 then(0,txt [],codeP (parseL path.data.toList).2)
 else if(parseL path.data.toList).1=[] then(0,txt [],9)
 else if(walkG is (parseL path.data.toList).1.dropLast 1).2≠0 then(0,txt [],(walkG is (parseL path.data.toList).1.dropLast 1).2)
 else if dirAt is (walkG is (parseL path.data.toList).1.dropLast 1).1=false then(0,txt [],7)
 else((walkG is (parseL path.data.toList).1.dropLast 1).1,txt ((parseL path.data.toList).1.getLastD []),0)
def fullE:List En→ByteArray→ByteArray→Nat
 | [],_,_=>0
 | e::es,name,but=>(if e.name≠but∧bktB e.name=bktB name then 1 else 0)+fullE es name but
def fullV (is:List Ino) (dir:Int) (name but:ByteArray):Bool:=match inoAt is (atV is dir) with|none=>false|some x=>decide (4≤fullE x.ents name but)
def putE:List En→ByteArray→Int→List En
 | [],name,num=>[⟨name,num⟩]
 | e::es,name,num=>if ltN name e.name then⟨name,num⟩::e::es else e::putE es name num
def dropE:List En→ByteArray→List En
 | [],_=>[]
 | e::es,name=>if e.name=name then dropE es name else e::dropE es name
def setEnts (is:List Ino) (num:Int) (f:List En→List En):List Ino:=is.modify (atV is num).toNat fun x=>{ x with ents:=f x.ents }
def setData (is:List Ino) (num:Int) (d:ByteArray):List Ino:=is.modify (atV is num).toNat fun x=>{ x with data:=d }
def putI:List Ino→Ino→List Ino
 | [],y=>[y]
 | x::xs,y=>if y.num<x.num then y::x::xs else x::putI xs y
def dropI:List Ino→Int→List Ino
 | [],_=>[]
 | x::xs,num=>if x.num=num then dropI xs num else x::dropI xs num
def putD:List Ds→Ds→List Ds
 | [],y=>[y]
 | d::ds,y=>if y.core<d.core∨(d.core=y.core∧y.fd<d.fd) then y::d::ds else d::putD ds y
def dropD:List Ds→Int→Int→List Ds
 | [],_,_=>[]
 | d::ds,core,fd=>if d.core=core∧d.fd=fd then dropD ds core fd else d::dropD ds core fd
def sweepV (s:St) (num:Int):St:=if 0<linkI s.inos num∨openB s.opn num=true then s else { s with inos:=dropI s.inos num }
structure Ca where
 kind:Int
 core:Int
 fd:Int
 off:Int
 num:Int
 path:ByteArray
 path2:ByteArray
 data:ByteArray
structure Re where
 code:Int:=0
 fd:Int:=0
 num:Int:=0
 dir:Bool:=false
 data:ByteArray:=⟨#[]⟩
 names:List ByteArray:=[]
def make1V (s:St) (c:Ca):St×Re:=
 if(parentV s.inos c.path).2.2≠0 then(s,{ code:=(parentV s.inos c.path).2.2 })
 else if entV s.inos (parentV s.inos c.path).1 (parentV s.inos c.path).2.1≠0 then(s,{ code:=2 })
 else if fullV s.inos (parentV s.inos c.path).1 (parentV s.inos c.path).2.1 (txt [])=true∨32≤s.made.getD c.core.toNat 0 then(s,{ code:=5 })
 else({ s with made:=s.made.set c.core.toNat (s.made.getD c.core.toNat 0+1),inos:=putI (setEnts s.inos (parentV s.inos c.path).1 fun es=>putE es (parentV s.inos c.path).2.1 (2+c.core+8*s.made.getD c.core.toNat 0)) ⟨2+c.core+8*s.made.getD c.core.toNat 0,decide (c.kind=1),[],txt []⟩ },{})
def freeFd (ds:List Ds) (core:Int):Nat:=if fdV ds core 0=0 then 0 else if fdV ds core 1=0 then 1 else if fdV ds core 2=0 then 2 else if fdV ds core 3=0 then 3 else 4
def openedV (s:St) (c:Ca) (want:Int):St×Re×Bool:=
 if(findV s.inos c.path).2≠0 then(s,{ code:=(findV s.inos c.path).2 },true)
 else if dirAt s.inos (findV s.inos c.path).1=true then(s,{ code:=8 },true)
 else if freeFd s.opn c.core=4 then(s,{ code:=10 },true)
 else if 0≤want then
  if 4≤want∨fdV s.opn c.core want≠0 then(s,{},false)
  else({ s with opn:=putD s.opn ⟨c.core,want,(findV s.inos c.path).1⟩ },{ fd:=want },true)
 else({ s with opn:=putD s.opn ⟨c.core,freeFd s.opn c.core,(findV s.inos c.path).1⟩ },{ fd:=freeFd s.opn c.core },true)
def sizedL (l:List UInt8) (k:Nat):List UInt8:=(l++List.replicate k 0).take k
def layL (l:List UInt8) (off:Nat) (d:List UInt8):List UInt8:=(sizedL l (max l.length (off+d.length))).take off++d++(sizedL l (max l.length (off+d.length))).drop (off+d.length)
def dataAt (is:List Ino) (num:Int):ByteArray:=match inoAt is (atV is num) with|none=>txt []|some x=>x.data
def byFdV (s:St) (c:Ca):St×Re:=
 if fdV s.opn c.core c.fd=0 then(s,{ code:=4 })
 else if c.kind=3 then(sweepV { s with opn:=dropD s.opn c.core c.fd } (fdV s.opn c.core c.fd),{})
 else if c.kind=4 then
  if c.off<0∨256<c.off∨c.num<0∨256<c.num then(s,{ code:=9 })
  else(s,{ data:=txt (((dataAt s.inos (fdV s.opn c.core c.fd)).data.toList.drop c.off.toNat).take c.num.toNat) })
 else if c.kind=5 then
  if c.off<0∨256<c.off∨256<c.data.size then(s,{ code:=9 })
  else if 256<c.off+c.data.size then(s,{ code:=5 })
  else if c.data.size=0 then(s,{})
  else({ s with inos:=setData s.inos (fdV s.opn c.core c.fd) (txt (layL (dataAt s.inos (fdV s.opn c.core c.fd)).data.toList c.off.toNat c.data.data.toList)) },{ num:=c.data.size })
 else if c.kind=6 then
  if c.num<0∨256<c.num then(s,{ code:=9 })
  else({ s with inos:=setData s.inos (fdV s.opn c.core c.fd) (txt (sizedL (dataAt s.inos (fdV s.opn c.core c.fd)).data.toList c.num.toNat)) },{})
 else if c.kind=7 then(s,{ num:=(dataAt s.inos (fdV s.opn c.core c.fd)).size })
 else(s,{})
def linkV (s:St) (c:Ca):St×Re:=
 if(findV s.inos c.path).2≠0 then(s,{ code:=(findV s.inos c.path).2 })
 else if dirAt s.inos (findV s.inos c.path).1=true then(s,{ code:=8 })
 else if(parentV s.inos c.path2).2.2≠0 then(s,{ code:=(parentV s.inos c.path2).2.2 })
 else if entV s.inos (parentV s.inos c.path2).1 (parentV s.inos c.path2).2.1≠0 then(s,{ code:=2 })
 else if fullV s.inos (parentV s.inos c.path2).1 (parentV s.inos c.path2).2.1 (txt [])=true then(s,{ code:=5 })
 else({ s with inos:=setEnts s.inos (parentV s.inos c.path2).1 fun es=>putE es (parentV s.inos c.path2).2.1 (findV s.inos c.path).1 },{})
def withinF (is:List Ino) (dir:Int):Nat→Int→Bool
 | 0,_=>false
 | n+1,top=>if dir=top then true else match inoAt is (atV is top) with|none=>false|some x=>x.ents.any fun e=>dirAt is e.num&&withinF is dir n e.num
def withinV (is:List Ino) (dir top:Int):Bool:=withinF is dir (1+is.length) top
def renameV (s:St) (c:Ca) (dir:Int) (name:ByteArray) (num:Int):St×Re:=
 if(parentV s.inos c.path2).2.2≠0 then(s,{ code:=(parentV s.inos c.path2).2.2 })
 else if dirAt s.inos num=true∧withinV s.inos (parentV s.inos c.path2).1 num=true then(s,{ code:=9 })
 else if entV s.inos (parentV s.inos c.path2).1 (parentV s.inos c.path2).2.1≠0 then(s,{ code:=2 })
 else if fullV s.inos (parentV s.inos c.path2).1 (parentV s.inos c.path2).2.1 (if(parentV s.inos c.path2).1=dir then name else txt [])=true then(s,{ code:=5 })
 else({ s with inos:=setEnts (setEnts s.inos dir fun es=>dropE es name) (parentV s.inos c.path2).1 fun es=>putE es (parentV s.inos c.path2).2.1 num },{})
def entsOf (is:List Ino) (num:Int):List En:=match inoAt is (atV is num) with|none=>[]|some x=>x.ents
def namesV (s:St) (c:Ca):St×Re:=
 if c.kind=8 then linkV s c
 else if(parentV s.inos c.path).2.2≠0 then(s,{ code:=(parentV s.inos c.path).2.2 })
 else if entV s.inos (parentV s.inos c.path).1 (parentV s.inos c.path).2.1=0 then(s,{ code:=1 })
 else if c.kind=11 then renameV s c (parentV s.inos c.path).1 (parentV s.inos c.path).2.1 (entV s.inos (parentV s.inos c.path).1 (parentV s.inos c.path).2.1)
 else if c.kind=9∧dirAt s.inos (entV s.inos (parentV s.inos c.path).1 (parentV s.inos c.path).2.1)=true then(s,{ code:=8 })
 else if c.kind=10∧dirAt s.inos (entV s.inos (parentV s.inos c.path).1 (parentV s.inos c.path).2.1)=false then(s,{ code:=7 })
 else if c.kind=10∧entsOf s.inos (entV s.inos (parentV s.inos c.path).1 (parentV s.inos c.path).2.1)≠[] then(s,{ code:=3 })
 else(sweepV { s with inos:=setEnts s.inos (parentV s.inos c.path).1 fun es=>dropE es (parentV s.inos c.path).2.1 } (entV s.inos (parentV s.inos c.path).1 (parentV s.inos c.path).2.1),{})
def looksV (s:St) (c:Ca):Re:=
 if(findV s.inos c.path).2≠0 then { code:=(findV s.inos c.path).2 }
 else if c.kind=12 then if dirAt s.inos (findV s.inos c.path).1=false then { code:=7 } else { names:=(entsOf s.inos (findV s.inos c.path).1).map (·.name) }
 else if c.kind=13 then { dir:=dirAt s.inos (findV s.inos c.path).1,num:=(dataAt s.inos (findV s.inos c.path).1).size }
 else if dirAt s.inos (findV s.inos c.path).1=true then { code:=8 }
 else { num:=linkI s.inos (findV s.inos c.path).1 }
def doF (s:St) (c:Ca) (want:Int):St×Re×Bool:=
 if mayV s=false∨c.core<0∨(s.made.length:Int)≤c.core∨c.kind<0∨16<c.kind then(s,{ code:=9 },true)
 else if c.kind≤1 then((make1V s c).1,(make1V s c).2,true)
 else if c.kind=2 then openedV s c want
 else if c.kind≤7∨c.kind=15 then((byFdV s c).1,(byFdV s c).2,true)
 else if c.kind≤11 then((namesV s c).1,(namesV s c).2,true)
 else if c.kind≤14 then(s,looksV s c,true)
 else(s,{},true)
def doV (s:St) (c:Ca):St×Re:=((doF s c (-1)).1,(doF s c (-1)).2.1)
def newV (cores:Nat):St:=⟨[⟨1,true,[],txt []⟩],[],List.replicate cores 0⟩
theorem zc5:∀(r cur:List UInt8) (out:List (List UInt8)),(scanP r cur out).1.length≤4
 | [],_,out=>by unfold scanP;split<;>simp<;>omega
 | b :: r, cur, out => by
  unfold scanP
  split
  ·split
   ·exact zc5 r _ _
   ·split<;>simp
  ·exact zc5 r _ _
theorem zc6:∀(r cur:List UInt8) (out:List (List UInt8)),(scanP r cur out).2≤1102
 | [],_,out=>by unfold scanP;split<;>simp
 | b :: r, cur, out => by
  unfold scanP
  split
  ·split
   ·exact zc6 r _ _
   ·split<;>simp
  ·exact zc6 r _ _
theorem zdk (l:List UInt8):(parseL l).2≤1102:=by
 unfold parseL
 split
 ·simp
 ·split
  ·simp
  ·split
   ·simp
   ·exact zc6 _ _ _
theorem z6p (l:List UInt8):(parseL l).1.length≤4:=by
 unfold parseL
 split
 ·simp
 ·split
  ·simp
  ·split
   ·simp
   ·exact zc5 _ _ _
end Go.Proofs.YtkflaifopbodfaaGreatDoor
namespace Go.Proofs.YtkflaifopbodfaaGreatDoor
open Lib (hid)
open Go.RowKit
theorem z5t {s:ByteArray} {p:Nat} (h:p<s.size):s.data.toList.drop p≠[]:=by
 intro e;have e2:=congrArg List.length e;have e3:s.size=s.data.toList.length:=rfl;rw[List.length_drop] at e2;simp only[List.length_nil] at e2;omega
theorem z9b {s:ByteArray} {p:Nat} (h:¬p<s.size):s.data.toList.drop p=[]:=by
 apply List.drop_eq_nil_of_le;have e3:s.size=s.data.toList.length:=rfl;omega
theorem z1j {k:IntKind} {a b:Int} (h:a=b):Ending.returned (.int k a)=.returned (.int k b):=by rw[h]
theorem z4u {k:IntKind} {a b:Int} (h:a=b):Value.int k a=.int k b:=by rw[h]
theorem z2a (w:World) (s:ByteArray) (p:Nat):Below w.heap.size w (w.iter s p):=(Below.refl _ _).alloc (Nat.le_refl _) _
end Go.Proofs.YtkflaifopbodfaaGreatDoor
