/- Parts of the proof, side by side: MoReached, MoOpen, MoIsOpen. -/
import Derived.Test.YtkflaifopbodfaaGreatDoorM11
import Derived.Test.YtkflaifopbodfaaGreatDoorM10
import Derived.Deep.RegionHeld3
import Derived.Deep.DeepCutAuto
import Derived.Test.YtkflaifopbodfaaGreatDoorM09
set_option linter.unusedVariables false
set_option linter.unusedSimpArgs false
namespace Go.Proofs.YtkflaifopbodfaaGreatDoor
open Lib (hid)
open Go.RowKit
def NumsAt (w:World) (G n:Nat) (f:Nat→Nat):Prop:=∃cur:Array Value,w.heap[G]? =some (.cells cur 3 (0,0))∧∀j,j<n→cur[j]? =some (.int .i64 (f j:Nat))
theorem NumsAt.lt {w:World} {G n:Nat} {f:Nat→Nat} (h:NumsAt w G n f):G<w.heap.size:=by
 obtain⟨cur,hh,_⟩:=h;exact(Array.getElem?_eq_some_iff.1 hh).1
theorem NumsAt.same {w w':World} {G n:Nat} {f:Nat→Nat} (h:NumsAt w G n f) (hb:w'.heap[G]? =w.heap[G]?):NumsAt w' G n f:=by
 obtain⟨cur,hh,hc⟩:=h;exact⟨cur,hb.trans hh,hc⟩
theorem NumsAt.below {w w':World} {G n:Nat} {f:Nat→Nat} (h:NumsAt w G n f) (hb:Below w.heap.size w w'):NumsAt w' G n f:=h.same (hb.block G h.lt)
theorem NumsAt.congr {w:World} {G n:Nat} {f g:Nat→Nat} (h:NumsAt w G n f) (hfg:∀j,j<n→f j=g j):NumsAt w G n g:=by
 obtain⟨cur,hh,hc⟩:=h;exact⟨cur,hh,fun j hj=>by rw[←hfg j hj];exact hc j hj⟩
theorem NumsAt.get {w:World} {G n:Nat} {f:Nat→Nat} (h:NumsAt w G n f) (j:Nat) (hj:j<n):w.cell? ⟨G,j,.none⟩=some (.int .i64 (f j:Nat))∧w.frozen? ⟨G,j,.none⟩=false:=by
 obtain⟨cur,hh,hc⟩:=h;exact⟨by rw[cell_of_row w G j cur _ (0,0) hh];exact hc j hj,frozen_of_row w G j cur _ hh⟩
theorem NumsAt.set {w:World} {G n:Nat} {f:Nat→Nat} (h:NumsAt w G n f) (b:Nat) (hb:b<n):NumsAt (w.setCell ⟨G,b,.none⟩ (.int .i64 ((f b:Int)+1))) G n (fun j=>if j=b then f j+1 else f j):=by
 obtain⟨cur,hh,hc⟩:=h;refine⟨_,heap_setCell_same w G b cur _ _ hh,fun j hj=>?_⟩;rw[Array.getElem?_setIfInBounds]
 by_cases e:b=j
 ·subst e;have:b<cur.size:=(Array.getElem?_eq_some_iff.1 (hc b hb)).1;simp[this]
 ·simp only;rw[if_neg e,if_neg (show ¬j=b from fun e2=>e e2.symm)];exact hc j hj
theorem zdx (w:World) (n:Nat):NumsAt (w.alloc (.cells (madeCells #[.int .i64 0] n) 3)) w.heap.size n (fun _=>0):=
 ⟨_,heap_alloc_new w _,fun j hj=>by simp[madeCells,hj,Nat.mod_one]⟩
theorem zbi (w:World) (n:Nat):FlagsAt (w.alloc (.cells (madeCells #[.bool false] n) 4)) w.heap.size n (List.replicate n false):=
 ⟨_, heap_alloc_new w _, fun j hj => by
  have h1:(List.replicate n false).getD j false=false:=by
   rw[List.getD_eq_getElem?_getD,List.getElem?_replicate]
   split<;>rfl
  rw[h1];simp[madeCells,hj,Nat.mod_one]⟩
theorem zk5 (w:World) (n:Nat):NumsAt ((w.alloc (.cells (madeCells #[.int .i64 0] n) 3)).alloc (.cells (madeCells #[.bool false] n) 4)).drew w.heap.size n (fun _=>0)∧
  FlagsAt ((w.alloc (.cells (madeCells #[.int .i64 0] n) 3)).alloc (.cells (madeCells #[.bool false] n) 4)).drew (w.heap.size+1) n (List.replicate n false)∧
  Below w.heap.size w ((w.alloc (.cells (madeCells #[.int .i64 0] n) 3)).alloc (.cells (madeCells #[.bool false] n) 4)).drew:=by
 have h2:=zbi (w.alloc (.cells (madeCells #[.int .i64 0] n) 3)) n;have hs:(w.alloc (.cells (madeCells #[.int .i64 0] n) 3)).heap.size=w.heap.size+1:=by simp
 rw[hs] at h2;exact⟨((zdx w n).below ((Below.refl _ _).alloc (Nat.le_refl _) _)).same rfl,h2.same rfl,(((Below.refl _ _).alloc (Nat.le_refl _) _).alloc (by omega) _).drew⟩
theorem zk6 (w:World) (n:Nat):NumsAt ((w.alloc (.cells (madeCells #[.bool false] n) 4)).alloc (.cells (madeCells #[.int .i64 0] n) 3)).drew (w.heap.size+1) n (fun _=>0)∧
  FlagsAt ((w.alloc (.cells (madeCells #[.bool false] n) 4)).alloc (.cells (madeCells #[.int .i64 0] n) 3)).drew w.heap.size n (List.replicate n false)∧
  Below w.heap.size w ((w.alloc (.cells (madeCells #[.bool false] n) 4)).alloc (.cells (madeCells #[.int .i64 0] n) 3)).drew:=by
 have h2:=zdx (w.alloc (.cells (madeCells #[.bool false] n) 4)) n;have hs:(w.alloc (.cells (madeCells #[.bool false] n) 4)).heap.size=w.heap.size+1:=by simp
 rw[hs] at h2;exact⟨h2.same rfl,((zbi w n).below ((Below.refl _ _).alloc (Nat.le_refl _) _)).same rfl,(((Below.refl _ _).alloc (Nat.le_refl _) _).alloc (by omega) _).drew⟩
def numAt (is:List Ino) (j:Nat):Int:=match is[j]? with|none=>0|some x=>x.num
set_option maxRecDepth 100000 in
set_option maxHeartbeats 8000000 in
theorem zdy (p : Nat) (s : St) (x0 : Ino) (w : World) (h : PtrAt w p s) (hri : RiseI s.inos) (hl : Linked s.inos) (h0 : s.inos[0]? = some x0) (hx0 : x0.num = 1) (hn0 : s.inos.length ≤ 257) :
  Calls Tryz.prog 45 #[.pointer (some ⟨p,0,.none⟩)] w fun e w'=>∃G1 G2,e=.returned (.tuple #[.slice (some ⟨G1,0,.none⟩) s.inos.length s.inos.length,.slice (some ⟨G2,0,.none⟩) s.inos.length s.inos.length])∧
   NumsAt w' G1 s.inos.length (fun j=>(manyV s.inos).getD j 0)∧FlagsAt w' G2 s.inos.length (reachV s.inos)∧Below w.heap.size w w':=by
 obtain⟨A,n,c,E,m,d,D,k,e,hp,c0,c1,c2,hI,hD,hM,hn,hm,hk⟩:=h.val;have hnl:=hI.1;have hbig:=h.sized.big;have hbe:bulkE s.inos≤1099511627776:=by omega
 have hn2:n≤257:=by omega
 rw[hnl];have HI:=hid hI;have HP:=hid h;have HRI:=hid hri;have HL:=hid hl;have HN:=hid hnl;have H0:=hid h0;have HX0:=hid hx0;obtain⟨i0,hi,hz0,hz1,hz2⟩:=info_parts z5s
 have hmk1:∀w,(Instr.makeSlice 25 (.int .i64 (n:Int)) (.int .i64 (n:Int))).run Tryz.prog w=.ok (.slice (some ⟨w.heap.size,0,.none⟩) n n) (w.alloc (.cells (madeCells #[.int .i64 0] n) 3)):=
  fun w=>run_make_row' (P:=Tryz.prog) 25 3 (.int .i64 0) 8 Tryz.underlying25 z5s rfl .i64 .i64 n (by omega) (by omega) w
 have hmk2:∀w,(Instr.makeSlice 98 (.int .i64 (n:Int)) (.int .i64 (n:Int))).run Tryz.prog w=.ok (.slice (some ⟨w.heap.size,0,.none⟩) n n) (w.alloc (.cells (madeCells #[.bool false] n) 4)):=
  fun w=>run_make_row' (P:=Tryz.prog) 98 4 (.bool false) 1 Tryz.underlying98 zgf rfl .i64 .i64 n (by omega) (by omega) w
 clear hI h hri hl hnl h0 hx0 hbig hD hM hn0
 go_enter Tryz.func45,Tryz.ntmps45
 go_upto_region 1 with fail
 go_cut [4,5] (fun v4 v5 wx=>∃G1 G2,v4=.slice (some ⟨G1,0,.none⟩) n n∧v5=.slice (some ⟨G2,0,.none⟩) n n∧NumsAt wx G1 n (fun _=>0)∧FlagsAt wx G2 n (List.replicate n false)∧Below w.heap.size w wx∧w.heap.size≤G1∧w.heap.size≤G2∧G1≠G2)
 case first=>
  go_region_held3 (fun w'=>w'.cell? ⟨p,0,none⟩=some (.slice A n c)) (go_keep) (fail)
  all_goals
   go_wp2_with fail;go_meet
   first
    | exact⟨_,_,rfl,rfl,(zk5 w n).1,(zk5 w n).2.1,(zk5 w n).2.2,Nat.le_refl _,by omega,by omega⟩
    | exact⟨_,_,rfl,rfl,(zk6 w n).1,(zk6 w n).2.1,(zk6 w n).2.2,by omega,Nat.le_refl _,by omega⟩
 case rest =>
  obtain⟨G1,G2,rfl,rfl,hnu,hfl,hbel,hg1,hg2,hne⟩:=hcut;have z0:=(hbel.cell (p:=⟨p,0,.none⟩) hp).trans c0;have hl1:=hnu.lt;have hl2:=hfl.lt;have HB:=hid hbel;have HNU:=hid hnu;have HFL:=hid hfl;have hpl:p<wc.heap.size:=Nat.lt_of_lt_of_le hp hbel.size;clear hbel hnu hfl;go_wp2_with fail;clear hmk1 hmk2
  go_loopw [32] (fun i wr=>∃q:Nat,i=.int .i64 q∧q≤n∧Below w.heap.size w wr∧NumsAt wr G1 n (fun j=>partL s.inos q 0 (numAt s.inos j))∧FlagsAt wr G2 n (List.replicate n false)) (fun i _=>n-(intOf i).toNat)
  case atStart=>exact⟨0,rfl,by omega,HB.out,HNU.out.congr (fun j _=>(zid _ _).symm),HFL.out⟩
  case round =>
   obtain⟨q,rfl,hq,hbel2,hnu2,hfl2⟩:=hrel;have HB2:=hid hbel2;have HN2:=hid hnu2;have HF2:=hid hfl2;have HIr:=hid (HI.out.below hbel2);have hpr:p<wr.heap.size:=Nat.lt_of_lt_of_le hp hbel2.size;have hr1:=hnu2.lt;have hr2:=hfl2.lt;clear hbel2 hnu2 hfl2
   by_cases hlt:q<n
   ·obtain⟨g,off,x,E2,m2,d2,rfl,hg,hx,hd,hmem,e0,e1,e2,hok,hE,e3⟩:=HI.out.get q hlt;have k0:(0:Int)≤(q:Int):=by omega
    have k1:(q:Int)<(n:Int):=by omega
    have hel:=hE.1;have hble:=z1q hx;have hm2:m2≤1099511627776:=by omega
    obtain⟨V1,hV1,u0,u1,u2,u3,hal,hlt1⟩:=z2v wr x.num x.dir E2 m2 d2 x.data;have y0:=(HB2.out.cell (p:=⟨g,_,.none⟩) hg).trans e0;have y1:=(HB2.out.cell (p:=⟨g,_,.none⟩) hg).trans e1;have y2:=(HB2.out.cell (p:=⟨g,_,.none⟩) hg).trans e2;have y3:=(HB2.out.cell (p:=⟨g,_,.none⟩) hg).trans e3;have HX:=hid hx;have HME:=hid hmem;have HEL:=hid hel;have HB3:=hid (Cv.next HB2.out hal);have HN3:=hid (HN2.out.below hal);have HF3:=hid (HF2.out.below hal);have HE:=hid hE;clear hx hmem hd hel hE hal hble e0 e1 e2 e3;go_wp2_with fail;clear hV1 y0 y1 y2 y3 u0 u1 u2 u3
    go_loopw [39] (fun i wz=>∃r:Nat,i=.int .i64 r∧r≤m2∧Below w.heap.size w wz∧NumsAt wz G1 n (fun j=>partL s.inos q r (numAt s.inos j))∧FlagsAt wz G2 n (List.replicate n false)) (fun i _=>m2-(intOf i).toNat)
    case atStart=>exact⟨0,rfl,by omega,HB3.out,HN3.out,HF3.out⟩
    case round =>
     obtain⟨r,rfl,hr,hbz,hnz,hfz⟩:=hrel;have HBz:=hid hbz;have HNz:=hid hnz;have HFz:=hid hfz;have hpz:p<wr.heap.size:=Nat.lt_of_lt_of_le hp hbz.size;clear hbz hnz hfz
     by_cases hlt2:r<m2
     ·obtain⟨g3,off3,e,rfl,hg3,he,hd3,hmem3,f0,f1⟩:=HE.out.get r hlt2;have r0:(0:Int)≤(r:Int):=by omega
      have r1:(r:Int)<(m2:Int):=by omega
      obtain⟨V2,hV2,v0,v1,hal,hlt3⟩:=z6r wr e.name e.num;have x0':=(HBz.out.cell (p:=⟨g3,_,.none⟩) hg3).trans f0;have x1':=(HBz.out.cell (p:=⟨g3,_,.none⟩) hg3).trans f1;have HB4:=hid (Cv.next HBz.out hal);have HN4:=hid (HNz.out.below hal);have HF4:=hid (HFz.out.below hal);have HPV:=hid (HP.out.below HB4.out);have HE2:=hid he;have hfnd:=(HL.out x HME.out).2 e hmem3;obtain⟨j0,hj0⟩:∃j0:Nat,atV s.inos e.num=(j0:Int):=⟨(atV s.inos e.num).toNat,by omega⟩;have HJ:=hid hj0
      have hjn:j0<n:=by
       obtain⟨y,hy,_⟩:=z8j hj0;have:=(List.getElem?_eq_some_iff.1 hy).1;have:=HN.out;omega
      clear hal hfnd hj0 f0 f1 he hd3 hmem3;go_wp2_with fail;refine(z1m p s e.num _ HPV.out HRI.out).mono ?_;rintro e5 w5 ⟨rfl,hb5⟩;rw[HJ.out];have HN5:=hid (HN4.out.below hb5);have HF5:=hid (HF4.out.below hb5);have HB5:=hid (Cv.next HB4.out hb5);obtain⟨nc,nf⟩:=HN5.out.get j0 hjn;have hpl5:=zm7 s.inos q r (numAt s.inos j0);obtain⟨PL,hPL⟩:∃PL,partL s.inos q r (numAt s.inos j0)=PL:=⟨_,rfl⟩;rw[hPL] at nc hpl5;have HPL:=hid hPL;have j0a:(0:Int)≤(j0:Int):=by omega
      have j0b:(j0:Int)<(n:Int):=by omega
      have jw:IntKind.i64.wrap ((PL:Int)+1)=(PL:Int)+1:=by rw[IntKind.wrap_i64];omega
      clear hb5 hPL x0' x1' v0 v1 hV2;go_wp2_with fail;go_roundw
      case rel=>
       have hs:=HN5.out.set j0 hjn;simp only[HPL.out] at hs
       exact⟨r+1,by go_num,by omega,HB5.out.setCell (p:=⟨G1,j0,.none⟩) hg1 _,hs.congr (fun j hj=>by
        rw[zfg HX.out HE2.out];obtain⟨y,hy,hyn⟩:=z8j HJ.out
        by_cases e1:j=j0
        ·subst e1;have hn1:numAt s.inos j=y.num:=by unfold numAt;rw[hy]
         rw[if_pos rfl,if_pos (by rw[hn1,hyn])]
        ·rw[if_neg e1,if_neg]
         ·rfl
         ·intro e2;have hjl:j<s.inos.length:=by have:=HN.out;omega
          have hn1:numAt s.inos j=s.inos[j].num:=by unfold numAt;rw[List.getElem?_eq_getElem hjl]
          have:=z0e HRI.out (List.getElem?_eq_getElem hjl) (by rw[←hn1,←e2]);rw[HJ.out] at this;omega),HF5.out.same (by simp only[World.setCell,Array.getElem?_modify];rw[if_neg hne])⟩
      case measure=>simp[intOf];omega
     ·have q1:decide ((r:Int)<(m2:Int))=false:=by rw[decide_eq_false_iff_not];omega
      have hrm:x.ents.length≤r:=by have:=HEL.out;omega
      have HRM:=hid hrm;clear hrm;go_wp2_with fail;go_roundw
      case rel=>exact⟨q+1,by go_num,by omega,HBz.out,HNz.out.congr (fun j hj=>(zie HL.out HX.out HRM.out _).symm),HFz.out⟩
      case measure=>simp[intOf];omega
   ·have q1 : decide ((q : Int) < (n : Int)) = false := by rw [decide_eq_false_iff_not]; omega
    have HNa:=hid (HN2.out.congr (g:=fun j=>(manyV s.inos).getD j 0) (fun j hj=>by
     have hjl:j<s.inos.length:=by have:=HN.out;omega
     rw[zk4 (by have:=HN.out;omega)];unfold numAt manyV;rw[List.getD_eq_getElem?_getD,List.getElem?_map,List.getElem?_eq_getElem hjl]
     rfl))
    clear HN2;have hn0:0<n:=by have:=(List.getElem?_eq_some_iff.1 H0.out).1;have:=HN.out;omega
    obtain⟨B,hB⟩:∃B,wr.heap.size=B:=⟨_,rfl⟩;obtain⟨U,hU⟩:∃U,wr.alloc (.cells #[.int .i64 0] 3)=U:=⟨_,rfl⟩;have hqu:=Que.one wr 3 0;rw[hU] at hqu;have hqu:Que U B 3 (some ⟨wr.heap.size,0,.none⟩) 1 [0]:=by rw[←hB];exact hqu
    have hbu:Below wr.heap.size wr U:=by rw[←hU];exact(Below.refl _ _).alloc (Nat.le_refl _) _
    have hus:B≤U.heap.size:=by rw[←hU,←hB];simp
    have hfu:=HF2.out.below hbu;have hnu3:=HNa.out.below hbu;have hb3:=Cv.next HB2.out hbu;obtain⟨fc,ff⟩:=hfu.get 0 hn0
    have fl:((List.replicate n false).getD 0 false)=false:=by
     rw[List.getD_eq_getElem?_getD,List.getElem?_replicate]
     split<;>rfl
    rw[fl] at fc;have hG1:G1<B:=by omega
    have hG2:G2<B:=by omega
    have hwB:w.heap.size≤B:=by omega
    have HQ0:=hid (hqu.set (o:=0) hG2 (.bool true));have HF0:=hid (hfu.set 0 hn0 (by simpa using hn0));have HN0:=hid (hnu3.same (w':=U.setCell ⟨G2,0,.none⟩ (.bool true)) (Below.heap_setCell U ⟨G2,0,.none⟩ _ G1 hne));have HB0:=hid (hb3.setCell (p:=⟨G2,0,.none⟩) hg2 (.bool true));have hus2:B≤(U.setCell ⟨G2,0,.none⟩ (.bool true)).heap.size:=by simpa [World.setCell] using hus
    have n0:(0:Int)<(n:Int):=by omega
    have hst:=FoundQ.start H0.out HX0.out;rw[HN.out] at hst;have HST:=hid hst;obtain⟨MV,hMV⟩:∃MV:Nat→Nat,(fun j=>(manyV s.inos).getD j 0)=MV:=⟨_,rfl⟩;rw[hMV] at HN0;have HMV:=hid hMV;have hun:unF ((List.replicate n false).set 0 true)≤n:=by have:=znb ((List.replicate n false).set 0 true);simpa using this
    have HUN:=hid hun;clear hqu hbu hfu hnu3 hb3 fl hst hMV HNa HF2 HB2 hB hr1 hr2 hus hun;go_wp2_with fail;clear hU fc ff
    go_loopg [10,11,14] (1+unF ((List.replicate n false).set 0 true)) (fun gk v10 _ _ wy=>∃(ao:Option Addr) (cap:Nat) (todo:List Int) (f:List Bool) (cur:Nat),v10=.slice ao todo.length cap∧Que wy B 3 ao cap todo∧FlagsAt wy G2 n f∧NumsAt wy G1 n MV∧Below w.heap.size w wy∧B≤wy.heap.size∧FoundQ s.inos todo cur [] f∧todo.length+unF f=gk∧gk≤1+n)
    case atStart=>exact⟨_,1,[0],_,0,rfl,HQ0.out,HF0.out,HN0.out,HB0.out,hus2,HST.out,rfl,by have:=HUN.out;omega⟩
    case round =>
     obtain⟨ao,cap,todo,f,cur,rfl,hqu,hfl,hnu,hbel,hsz,hfo,hgk,hgb⟩:=hrel;have HB:=hid hbel;have HNy:=hid hnu;have HFy:=hid hfl;have z0:=(hbel.cell (p:=⟨p,0,.none⟩) hp).trans c0;clear hbel hnu hfl;cases todo with
     | nil=>
      have HD:=hid hfo.done;clear hfo hqu;go_wp2_with fail;go_ret2;exact⟨G1,G2,rfl,by rw[HMV.out];exact HNy.out,by rw[←HD.out];exact HFy.out,HB.out⟩
     | cons t ts =>
      obtain⟨k,x,rfl,hx,hfk,hfo2⟩:=hfo.take;obtain⟨g,off,rfl,hg,hgl,hc,hle⟩:=hqu.head;have hkn:k<n:=by have:=(List.getElem?_eq_some_iff.1 hx).1;have:=HN.out;omega
      obtain⟨gx,ox,x',E3,m3,d3,rfl,hgx,hx',_,hmem,_,_,e2,hok,hE,_⟩:=HI.out.get k hkn;have ex:x'=x:=by rw[hx] at hx';exact(Option.some.inj hx').symm
      subst ex;have y2:=(HB.out.cell (p:=⟨gx,_,.none⟩) hgx).trans e2;have HFO:=hid hfo2;have HX:=hid hx;have HFK:=hid hfk;have HQ:=hid hqu;have HGK:=hid hgk;have HE:=hid hE;have HME:=hid hmem;have k0:(0:Int)≤(k:Int):=by omega
      have k1:(k:Int)<(n:Int):=by omega
      obtain⟨L,hL⟩:∃L,ts.length=L:=⟨_,rfl⟩;have HLL:=hid hL;rw[List.length_cons,hL];rw[hL] at hle;have l0:decide ((0:Int)<(L:Int)+1)=true:=by rw[decide_eq_true_eq];omega
      have l1:(1:Int)≤(L:Int)+1:=by omega
      have l2:(0:Int)<(L:Int)+1:=by omega
      clear hfo hfo2 hx hx' hfk hqu hgk hE hmem e2 hL;go_upto_region 15 with fail
      go_cut [10] (fun v wx=>∃ao',v=.slice ao' L (cap-1)∧Que wr B 3 ao' (cap-1) ts∧wr=wx)
      case first=>
       by_cases hc1:cap=1
       ·subst hc1;have HTL:=hid (HQ.out.tail (some ⟨g,off,.none⟩) (fun h=>absurd h (by omega)));have hL0:L=0:=by omega
        subst hL0;go_wp2_with fail;go_meet;exact⟨_,rfl,HTL.out,rfl⟩
       ·have HTL:=hid (HQ.out.tail (some ⟨g,off+1,.none⟩) (fun h=>rfl));go_wp2_with fail;go_meet;exact⟨_,rfl,HTL.out,rfl⟩
      case rest =>
       obtain⟨ao',rfl,hq2,rfl⟩:=hcut;have HQ2:=hid hq2
       have hm3:m3≤1099511627776:=by
        have:=HE.out.1;have:=z1q HX.out;omega
       clear hq2 hc;go_wp2_with fail;clear y2 z0
       go_loopw [10,14,74] (fun v10 _ i wz=>∃(r:Nat) (ao:Option Addr) (cap:Nat) (todo:List Int) (f2:List Bool),v10=.slice ao todo.length cap∧i=.int .i64 r∧r≤m3∧Que wz B 3 ao cap todo∧FlagsAt wz G2 n f2∧NumsAt wz G1 n MV∧Below w.heap.size w wz∧B≤wz.heap.size∧FoundQ s.inos todo k (x'.ents.drop r) f2∧f2.getD k false=true∧todo.length+unF f2=L+unF f) (fun _ _ i _=>m3-(intOf i).toNat)
       case atStart=>exact⟨0,_,_,ts,f,by rw[HLL.out],rfl,by omega,HQ2.out,HFy.out,HNy.out,HB.out,hsz,HFO.out,HFK.out,by rw[HLL.out]⟩
       case round=>
        obtain⟨r,ao3,cap3,todo,f2,rfl,rfl,hr,hqu,hfl,hnu,hbel,hsz2,hfo,hfk,hgk2⟩:=hrel;have HBz:=hid hbel;have HNz:=hid hnu;have HFz:=hid hfl;have HQz:=hid hqu;have HOz:=hid hfo;have HKz:=hid hfk;have HGz:=hid hgk2;have hpz:p<wr.heap.size:=Nat.lt_of_lt_of_le hp hbel.size;obtain⟨L2,hL2⟩:∃L2,todo.length=L2:=⟨_,rfl⟩
        have hL2b:L2≤257:=by
         rw[←hL2];have:=HGK.out;rw[List.length_cons] at this;have:=HLL.out;omega
        rw[hL2];have HL2:=hid hL2;clear hqu hfl hnu hbel hfo hfk hgk2 hL2
        by_cases hlt2:r<m3
        ·obtain⟨g3,off3,e,rfl,hg3,he,hd3,hmem3,f0,f1⟩:=HE.out.get r hlt2;have r0:(0:Int)≤(r:Int):=by omega
         have r1:(r:Int)<(m3:Int):=by omega
         obtain⟨V2,hV2,v0,v1,hal,hlt3⟩:=z6r wr e.name e.num;have x0':=(HBz.out.cell (p:=⟨g3,_,.none⟩) hg3).trans f0;have x1':=(HBz.out.cell (p:=⟨g3,_,.none⟩) hg3).trans f1;have HB4:=hid (Cv.next HBz.out hal);have hsz4:B≤V2.heap.size:=Nat.le_trans hsz2 hal.size;have HN4:=hid (HNz.out.below hal);have HF4:=hid (HFz.out.below hal);have HQ4:=hid (HQz.out.below hal);have HPV:=hid (HP.out.below HB4.out);have hfo:=HOz.out;rw[hd3] at hfo;have HO4:=hid hfo;have hfnd:=(HL.out x' HME.out).2 e hmem3
         have hdir:x'.dir=true:=by
          cases hd:x'.dir
          ·have:=(HL.out x' HME.out).1 hd;rw[this] at hmem3;simp at hmem3
          ·rfl
         have HDR:=hid hdir;have HMM:=hid hmem3;obtain⟨j0,hj0⟩:∃j0:Nat,atV s.inos e.num=(j0:Int):=⟨(atV s.inos e.num).toNat,by omega⟩;have HJ:=hid hj0
         have hjn:j0<n:=by
          obtain⟨y,hy,_⟩:=z8j hj0;have:=(List.getElem?_eq_some_iff.1 hy).1;have:=HN.out;omega
         clear hal hfnd hj0 f0 f1 he hd3 hmem3 hfo hdir;go_wp2_with fail;refine(z1m p s e.num _ HPV.out HRI.out).mono ?_;rintro e5 w5 ⟨rfl,hb5⟩;rw[HJ.out];have HN5:=hid (HN4.out.below hb5);have HF5:=hid (HF4.out.below hb5);have HQ5:=hid (HQ4.out.below hb5);have HB5:=hid (Cv.next HB4.out hb5);have hsz5:B≤w5.heap.size:=Nat.le_trans hsz4 hb5.size;obtain⟨nc,nf⟩:=HF5.out.get j0 hjn;have j0a:(0:Int)≤(j0:Int):=by omega
         have j0b:(j0:Int)<(n:Int):=by omega
         clear hb5 x0' x1' v0 v1 hV2
         by_cases hfj:f2.getD j0 false=true
         ·rw[hfj] at nc;have HO5:=hid (HO4.out.old HJ.out hfj);clear hfj;go_wp2_with fail;go_roundw
          case rel=>exact⟨r+1,ao3,cap3,todo,f2,by rw[HL2.out],by go_num,by omega,HQ5.out,HF5.out,HN5.out,HB5.out,hsz5,HO5.out,HKz.out,HGz.out⟩
          case measure=>simp[intOf];omega
         ·have hfj2:f2.getD j0 false=false:=by simpa using hfj
          rw[hfj2] at nc;have hjf:j0<f2.length:=by rw[HO4.out.len,HN.out];exact hjn
          have HO5:=hid (HO4.out.new HKz.out HX.out HDR.out HMM.out HJ.out);have HUF:=hid (zk3 f2 j0 hjf hfj2);have HKf:Hid ((f2.set j0 true).getD k false=true):=hid (by rw[z1r f2 j0 k hjf];split;rfl;exact HKz.out);obtain⟨Y,hY⟩:∃Y,w5.setCell ⟨G2,j0,.none⟩ (.bool true)=Y:=⟨_,rfl⟩;have HFY:Hid (FlagsAt Y G2 n (f2.set j0 true)):=hid (by rw[←hY];exact HF5.out.set j0 hjn hjf);have HNY:Hid (NumsAt Y G1 n MV):=hid (by rw[←hY];exact HN5.out.same (Below.heap_setCell w5 ⟨G2,j0,.none⟩ _ G1 hne));have HQY:Hid (Que Y B 3 ao3 cap3 todo):=hid (by rw[←hY];exact HQ5.out.set hG2 _);have HBY:Hid (Below w.heap.size w Y):=hid (by rw[←hY];exact HB5.out.setCell (p:=⟨G2,j0,.none⟩) hg2 _);have hsz6:B≤Y.heap.size:=by rw[←hY];simpa [World.setCell] using hsz5
          clear hfj hfj2;have hya:Below Y.heap.size Y (Y.alloc (.cells #[.int .i64 (j0:Int)] 3)):=(Below.refl _ _).alloc (Nat.le_refl _) _;have HYA:=hid hya;have hszy:B≤(Y.alloc (.cells #[.int .i64 (j0:Int)] 3)).heap.size:=Nat.le_trans hsz6 hya.size;have HSY:=hid hszy;clear hya hszy;go_wp2_with (at_builtin;refine z7r _ rfl _ _ 25 rfl B 3 ao3 cap3 L2 todo HL2.out rfl (HQY.out.below HYA.out) HSY.out i0 (.int .i64 0) Tryz.underlying25 hi hz0 hz1 hz2 rfl ⟨Y.heap.size,0,.none⟩ 1 (j0:Int) rfl (z9o Y _ _) (by omega) ?_);intro ao4 cap4 w4 hq4 hb4;have HQ6:=hid hq4;have HF6:=hid ((HFY.out.below HYA.out).same (hb4.block G2 hG2));have HN6:=hid ((HNY.out.below HYA.out).same (hb4.block G1 hG1));have HB6:=hid ((Cv.next HBY.out HYA.out).trans (hb4.mono hwB));have hsz7:B≤w4.heap.size:=Nat.le_trans HSY.out hb4.size;clear hq4 hb4 hY;go_wp2_with fail
          go_roundw
          case rel=>exact⟨r+1,ao4,cap4,todo++[(j0:Int)],f2.set j0 true,by rw[List.length_append,HL2.out];rfl,by go_num,by omega,HQ6.out,HF6.out,HN6.out,HB6.out,hsz7,HO5.out,HKf.out,by
           have h1:=HUF.out;have h2:=HGz.out;rw[List.length_append];have h3:[(j0:Int)].length=1:=rfl;omega⟩
          case measure=>simp[intOf];omega
        ·have q9:decide ((r:Int)<(m3:Int))=false:=by rw[decide_eq_false_iff_not];omega
         have hnil:x'.ents.drop r=[]:=List.drop_eq_nil_of_le (by have:=HE.out.1;omega);have HO9:=hid hnil;clear hnil;go_wp2_with fail
         go_roundg (gk-1)
         case measure=>have:=HGK.out;rw[List.length_cons] at this;omega
         case rel=>exact⟨ao3,cap3,todo,f2,k,by rw[HL2.out],HQz.out,HFz.out,HNz.out,HBz.out,hsz2,by have:=HOz.out;rwa [HO9.out] at this,by have h1:=HGz.out;have h2:=HGK.out;have h3:=HLL.out;rw[List.length_cons] at h2;omega,by omega⟩
set_option maxRecDepth 100000 in
set_option maxHeartbeats 8000000 in
theorem zfj (p : Nat) (s : St) (w : World) (h : PtrAt w p s) (hri : RiseI s.inos) :
  Calls Tryz.prog 44 #[.pointer (some ⟨p,0,.none⟩)] w fun e w'=>e=.returned (.bool (opensV s))∧Below w.heap.size w w':=by
 obtain⟨A,n,c,E,m,d,D,k,e,hp,c0,c1,c2,hI,hD,hM,hn,hm,hk⟩:=h.val;obtain⟨R,hR⟩:∃R,opensV s=R:=⟨_,rfl⟩;rw[hR];unfold opensV at hR;have HR:=hid hR;have HI:=hid hI;have HD:=hid hD;have HKL:=hid hM.1;have HP:=hid h;have HRI:=hid hri;clear hR hI hD hM h
 go_enter Tryz.func44,Tryz.ntmps44
 go_wp2_with fail
 go_loopw [11] (fun i wr=>∃q:Nat,i=.int .i64 q∧q≤m∧Below w.heap.size w wr∧opensG s.inos s.made.length (s.opn.drop q) (prevD s.opn q)=R) (fun i _=>m-(intOf i).toNat)
 case atStart=>exact⟨0,rfl,by omega,Below.refl _ _,HR.out⟩
 case round =>
  obtain⟨q,rfl,hq,hbel,hc⟩:=hrel;have z0:=(hbel.cell (p:=⟨p,0,.none⟩) hp).trans c0;have z1:=(hbel.cell (p:=⟨p,1,.none⟩) hp).trans c1;have z2:=(hbel.cell (p:=⟨p,2,.none⟩) hp).trans c2;have HB:=hid hbel;have HDr:=hid (HD.out.below hbel);have hpr:p<wr.heap.size:=Nat.lt_of_lt_of_le hp hbel.size;clear hbel
  by_cases hlt:q<m
  ·obtain⟨g,off,y,rfl,hg,hy,hd,hmem,e0,e1,e2⟩:=HDr.out.get q hlt;rw[hd,opensG] at hc;have k0:(0:Int)≤(q:Int):=by omega
   have k1:(q:Int)<(m:Int):=by omega
   obtain⟨BD,hBD⟩:∃BD,dsBad s.inos s.made.length y=BD:=⟨_,rfl⟩;obtain⟨PD,hPD⟩:∃PD,dsPrev (prevD s.opn q) y=PD:=⟨_,rfl⟩;rw[hBD,hPD] at hc;have HBD:=hid hBD;have HPD:=hid hPD;have HC:=hid hc;have HY:=hid hy;clear hc hd hmem hy hBD hPD;obtain⟨V2,hV2,v0,v1,v2,hal4,hlt4⟩:=z5h wr y.core y.fd y.num;have hbv:=Cv.next HB.out hal4;have HPV:=hid (HP.out.below hbv);have HIV:=hid (HI.out.below hbv);have HDV:=hid (HD.out.below hbv);have x0:=(hal4.cell (p:=⟨p,0,.none⟩) hpr).trans z0;have x1:=(hal4.cell (p:=⟨p,1,.none⟩) hpr).trans z1;have x2:=(hal4.cell (p:=⟨p,2,.none⟩) hpr).trans z2;have HBV:=hid hbv;have hpv:p<V2.heap.size:=Nat.lt_of_lt_of_le hpr hal4.size;clear hal4 hbv;go_upto_region 4 with fail
   clear hV2 z0 z1 z2 e0 e1 e2;obtain⟨B1,hB1⟩:∃B1,(decide (y.core<0)||decide ((k:Int)≤y.core)||decide (y.fd<0)||decide (4≤y.fd))=B1:=⟨_,rfl⟩;have HB1:=hid hB1;clear hB1
   go_cut [38] (fun c wx=>c=.bool B1∧∃X:Ext V2,wx=X.w)
   case first=>
    obtain⟨D1,hD1⟩:∃D1,decide (y.core<0)=D1:=⟨_,rfl⟩;obtain⟨D2,hD2⟩:∃D2,decide ((k:Int)≤y.core)=D2:=⟨_,rfl⟩;obtain⟨D3,hD3⟩:∃D3,decide (y.fd<0)=D3:=⟨_,rfl⟩;obtain⟨D4,hD4⟩:∃D4,decide (4≤y.fd)=D4:=⟨_,rfl⟩;have hx:∀(X:Ext V2) (p:Addr),(V2.cell? p).isSome=true→X.w.cell? p=V2.cell? p:=fun X p h=>X.cell p h
    have hbb:=HB1.out;rw[hD1,hD2,hD3,hD4] at hbb;have HBX:=hid hbb;clear hbb
    cases D1<;>cases D2<;>cases D3<;>(
     refine wre ?_
     repeat (go_big_quiet_step (fail))
     refine wpQuiet_nil ?_;rintro w7 ⟨X,rfl⟩;go_wp2_with fail;go_meet;exact⟨congrArg Value.bool (by rw[←HBX.out];simp),X,rfl⟩)
   case rest =>
    obtain⟨rfl,X,rfl⟩:=hcut;generalize hZe:X.w=Z;have hZ:=hZe▸X.bel;have HPZ:=hid (HPV.out.below hZ);have HIZ:=hid (HIV.out.below hZ);have HDZ:=hid (HDV.out.below hZ);have HBZ:=hid (Cv.next HBV.out hZ);have y0:=(hZ.cell (p:=⟨p,0,.none⟩) hpv).trans x0;have y1:=(hZ.cell (p:=⟨p,1,.none⟩) hpv).trans x1;have y2:=(hZ.cell (p:=⟨p,2,.none⟩) hpv).trans x2;have u0:=(hZ.cell (p:=⟨wr.heap.size,0,.none⟩) hlt4).trans v0;have u1:=(hZ.cell (p:=⟨wr.heap.size,1,.none⟩) hlt4).trans v1;have u2:=(hZ.cell (p:=⟨wr.heap.size,2,.none⟩) hlt4).trans v2;have hpz:p<Z.heap.size:=Nat.lt_of_lt_of_le hpv hZ.size;have hltz:wr.heap.size<Z.heap.size:=Nat.lt_of_lt_of_le hlt4 hZ.size;clear hZe hZ X x0 x1 x2 v0 v1 v2 HPV HIV HDV HBV;cases B1;rotate_left
    ·have hbt:BD=true:=by rw[←HBD.out,HKL.out];unfold dsBad;rw[HB1.out];simp
     have hr:=HC.out;rw[if_pos hbt] at hr;have HR2:=hid hr;clear hr;go_wp2_with fail;go_ret;exact⟨Cv.ret_bool HR2.out,HBZ.out⟩
    go_upto_region 6 with fail
    go_cut [82] (fun c wx=>c=.bool PD∧∃X:Ext Z,wx=X.w)
    case first=>
     have hx:∀(X:Ext Z) (p:Addr),(Z.cell? p).isSome=true→X.w.cell? p=Z.cell? p:=fun X p h=>X.cell p h
     by_cases hq0:q=0
     ·have hP:PD=false:=by rw[←HPD.out,prevD,if_pos hq0];rfl
      have q1:decide ((0:Int)<(q:Int))=false:=by rw[decide_eq_false_iff_not];omega
      have q1n:decide (0<q)=false:=by rw[decide_eq_false_iff_not];omega
      clear hq0;refine wre ?_
      repeat (go_big_quiet_step (fail))
      refine wpQuiet_nil ?_;rintro w7 ⟨X,rfl⟩;go_wp2_with fail;go_meet;exact⟨congrArg Value.bool hP.symm,X,rfl⟩
     ·obtain⟨j,rfl⟩:∃j,q=j+1:=⟨q-1,by omega⟩;obtain⟨g3,off3,o,hA3,hg3,hy3,_,_,f0,f1,f2⟩:=HDZ.out.get j (by omega);injection hA3 with hA3
      injection hA3 with hA1 hA2
      subst hA1 hA2;have q1:decide ((0:Int)<((j+1:Nat):Int))=true:=by rw[decide_eq_true_eq];omega
      have q1b:decide ((0:Int)<(j:Int)+1)=true:=by rw[decide_eq_true_eq];omega
      have j0:(0:Int)≤(j:Int):=by omega
      have j1:(j:Int)<(m:Int):=by omega
      have jw:IntKind.i64.wrap ((j:Int)+1-1)=(j:Int):=by rw[IntKind.wrap_i64];omega
      have hP:dsPrev (some o) y=PD:=by rw[←HPD.out,prevD,if_neg (by omega),Nat.add_sub_cancel,hy3]
      obtain⟨D1,hD1⟩:∃D1,decide (y.core<o.core)=D1:=⟨_,rfl⟩;obtain⟨D2,hD2⟩:∃D2,(o.core==y.core)=D2:=⟨_,rfl⟩;obtain⟨D3,hD3⟩:∃D3,decide (y.fd≤o.fd)=D3:=⟨_,rfl⟩;unfold dsPrev at hP;have HP2:=hid hP;clear hP hy3 hq0
      cases D1<;>cases D2<;>(
       refine wre ?_
       repeat (go_big_quiet_step (fail))
       refine wpQuiet_nil ?_;rintro w7 ⟨X,rfl⟩;go_wp2_with fail;go_meet;exact⟨congrArg Value.bool (by rw[←HP2.out];simp_all),X,rfl⟩)
    case rest=>
     obtain⟨rfl,X,rfl⟩:=hcut;generalize hZe:X.w=Y;have hZ:=hZe▸X.bel;have HPY:=hid (HPZ.out.below hZ);have HIY:=hid (HIZ.out.below hZ);have HBY:=hid (Cv.next HBZ.out hZ);have x0:=(hZ.cell (p:=⟨p,0,.none⟩) hpz).trans y0;have v2:=(hZ.cell (p:=⟨wr.heap.size,2,.none⟩) hltz).trans u2;have hpy:p<Y.heap.size:=Nat.lt_of_lt_of_le hpz hZ.size;clear hZe hZ X y0 y1 y2 u0 u1 u2 HPZ HIZ HBZ HDZ;cases PD;rotate_left
     ·have hr:=HC.out
      have hr2:false=R:=by
       by_cases hb:BD=true
       ·rw[if_pos hb] at hr;exact hr
       ·rw[if_neg hb,if_pos rfl] at hr;exact hr
      have HR2:=hid hr2;clear hr hr2;go_wp2_with fail;go_ret;exact⟨Cv.ret_bool HR2.out,HBY.out⟩
     go_wp2_with fail;refine(z1m p s y.num _ HPY.out HRI.out).mono ?_;rintro e5 w5 ⟨rfl,hb5⟩;have p0:=(hb5.cell (p:=⟨p,0,.none⟩) hpy).trans x0;have HI5:=hid (HIY.out.below hb5);have HB5:=hid (Cv.next HBY.out hb5);clear hb5 x0 v2
     rcases z0k s.inos y.num with⟨hat,_⟩|⟨i,x,hat,hx,_,_⟩
     ·rw[hat];have hbt:BD=true:=by rw[←HBD.out];unfold dsBad;rw[hat];simp[inoAt]
      have hr:=HC.out;rw[if_pos hbt] at hr;have HR2:=hid hr;clear hr hat;go_wp2_with fail;go_ret;exact⟨Cv.ret_bool HR2.out,HB5.out⟩
     ·rw[hat];have hbd:BD=x.dir:=by rw[←HBD.out,HKL.out];unfold dsBad;rw[HB1.out,hat,z0c,hx];simp
      have hin:i<n:=by have:=(List.getElem?_eq_some_iff.1 hx).1;have:=HI5.out.1;omega
      obtain⟨g2,off2,x',E3,m3,d3,rfl,hg2,hx',_,_,_,i1,_,_,_,_⟩:=HI5.out.get i hin;have ex:x=x':=by rw[hx] at hx';exact Option.some.inj hx'
      subst ex;have q0:decide ((i:Int)<0)=false:=by simp
      have i0:(0:Int)≤(i:Int):=by omega
      have i9:(i:Int)<(n:Int):=by omega
      rw[←hbd] at i1;clear hx hx' hat hbd;cases BD
      ·have hr:=HC.out;rw[if_neg (by simp),if_neg (by simp)] at hr;have HR2:=hid hr;clear hr;go_wp2_with fail;go_roundw
       case rel=>exact⟨q+1,by go_num,by omega,HB5.out,by
        have e:prevD s.opn (q+1)=some y:=by unfold prevD;rw[if_neg (by omega),Nat.add_sub_cancel];exact HY.out
        rw[e];exact HR2.out⟩
       case measure=>simp[intOf];omega
      ·have hr:=HC.out;rw[if_pos rfl] at hr;have HR2:=hid hr;clear hr;go_wp2_with fail;go_ret;exact⟨Cv.ret_bool HR2.out,HB5.out⟩
  ·have:s.opn.drop q=[]:=List.drop_eq_nil_of_le (by have:=HDr.out.1;omega);rw[this,opensG] at hc;have HC:=hid hc;have q1:decide ((q:Int)<(m:Int))=false:=by rw[decide_eq_false_iff_not];omega
   clear hc this;go_wp2_with fail;go_ret;exact⟨Cv.ret_bool HC.out,HB.out⟩
theorem zk7 (a b num k:Int) (bx:Nat) (w:World) (hb:w.cell? ⟨bx,0,.none⟩=some (.int .i64 num)) (hlt:bx<w.heap.size):
  Calls Tryz.prog 78 #[.agg #[.int .i64 a,.int .i64 b,.int .i64 k],.pointer (some ⟨bx,0,.none⟩)] w fun e w'=>e=.returned (.bool (k==num))∧Below w.heap.size w w':=by
 obtain⟨V2,hV2,v0,v1,v2,hal4,hlt4⟩:=z5h w a b k;have z:=(hal4.cell (p:=⟨bx,0,.none⟩) hlt).trans hb;have HAL:=hid hal4;clear hal4
 go_enter Tryz.func78,Tryz.ntmps78
 go_wp2_with fail;go_ret;exact⟨rfl,HAL.out⟩
set_option maxRecDepth 100000 in
set_option maxHeartbeats 4000000 in
theorem zcg (xs:List Ds) (A:Option Addr) (n c:Nat) (num:Int) (bx:Nat) (w:World) (hI:DescsAt none w A n xs) (hn:n≤1099511627776) (hb:w.cell? ⟨bx,0,.none⟩=some (.int .i64 num)) (hblt:bx<w.heap.size):
  Calls Tryz.prog 81 #[.slice A n c,.func (.func 78) #[] #[.pointer (some ⟨bx,0,.none⟩)]] w fun e w'=>∃r:Int,e=.returned (.int .i64 r)∧Below w.heap.size w w'∧(openB xs num=decide (0≤r)):=by
 obtain⟨R,hR⟩:∃R,openB xs num=R:=⟨_,rfl⟩;rw[hR];have HI:=hid hI;have HR:=hid hR;clear hI hR
 go_enter Tryz.func81,Tryz.ntmps81
 go_wp2_with fail
 go_loopw [8] (fun j wr=>∃q:Nat,j=.int .i64 q∧q≤n∧Below w.heap.size w wr∧openB (xs.drop q) num=R) (fun j _=>n-(intOf j).toNat)
 case atStart=>exact⟨0,rfl,by omega,Below.refl _ _,HR.out⟩
 case round=>
  obtain⟨q,rfl,hq,hbel,hc⟩:=hrel;have HB:=hid hbel;have HIr:=hid (HI.out.below hbel);have hbr:=(hbel.cell (p:=⟨bx,0,.none⟩) hblt).trans hb;have hbl:bx<wr.heap.size:=Nat.lt_of_lt_of_le hblt hbel.size;have HBR:=hid hbr;clear hbel hbr
  by_cases hlt:q<n
  ·obtain⟨g,off,y,rfl,hg,hy,hd,hmem,e0,e1,e2⟩:=HIr.out.get q hlt;rw[hd,openB] at hc;have HC:=hid hc;have k0:(0:Int)≤(q:Int):=by omega
   clear hc hd hmem hy;go_wp2_with fail;refine(zk7 _ _ num y.num bx _ HBR.out hbl).mono ?_;rintro e5 w5 ⟨rfl,hb5⟩;have HB5:=hid (HB.out.trans (hb5.mono HB.out.size));clear hb5 e0 e1 e2;obtain⟨bb,hbb⟩:∃bb,(y.num==num)=bb:=⟨_,rfl⟩;rw[hbb];have hc:=HC.out;cases bb
   ·have hnx:¬y.num=num:=by rw[beq_eq_false_iff_ne] at hbb;exact hbb
    rw[if_neg hnx] at hc;have HC2:=hid hc;clear hc hbb hnx;go_wp2_with fail;go_roundw
    case rel=>exact⟨q+1,by go_num,by omega,HB5.out,HC2.out⟩
    case measure=>simp[intOf];omega
   ·have hnx:y.num=num:=by rw[beq_iff_eq] at hbb;exact hbb
    rw[if_pos hnx] at hc;have HC2:=hid hc;clear hc hbb hnx;go_wp2_with fail;go_ret;refine⟨(q:Int),rfl,HB5.out,?_⟩;rw[←HC2.out,decide_eq_true (show(0:Int)≤(q:Int) by omega)]
  ·have hnil:xs.drop q=[]:=List.drop_eq_nil_of_le (by have:=HI.out.1;omega);rw[hnil,openB] at hc;have HC:=hid hc;clear hc hnil;go_wp2_with fail;go_ret;exact⟨-1,rfl,HB.out,HC.out.symm⟩
theorem z8t (xs:List Ds) (A:Option Addr) (n c:Nat) (num:Int) (bx:Nat) (w:World) (hI:DescsAt none w A n xs) (hn:n≤1099511627776) (hb:w.cell? ⟨bx,0,.none⟩=some (.int .i64 num)) (hblt:bx<w.heap.size):
  Calls Tryz.prog 77 #[.slice A n c,.func (.func 78) #[] #[.pointer (some ⟨bx,0,.none⟩)]] w fun e w'=>e=.returned (.bool (openB xs num))∧Below w.heap.size w w':=by
 go_enter Tryz.func77,Tryz.ntmps77
 go_wp2_with fail;refine(zcg xs A n c num bx w hI hn hb hblt).mono ?_;rintro e5 w5 ⟨r,rfl,hbel,hr⟩
 by_cases h0:0≤r
 ·have q0:decide ((0:Int)≤r)=true:=decide_eq_true h0;rw[q0] at hr;have HR:=hid hr;clear hr;go_wp2_with fail;go_ret;exact⟨Cv.ret_bool HR.out.symm,hbel⟩
 ·have q0:decide ((0:Int)≤r)=false:=decide_eq_false h0;rw[q0] at hr;have HR:=hid hr;clear hr;go_wp2_with fail;go_ret;exact⟨Cv.ret_bool HR.out.symm,hbel⟩
theorem za3 (p:Nat) (s:St) (num:Int) (w:World) (h:PtrAt w p s):
  Calls Tryz.prog 46 #[.pointer (some ⟨p,0,.none⟩),.int .i64 num] w fun e w'=>e=.returned (.bool (openB s.opn num))∧Below w.heap.size w w':=by
 obtain⟨A,n,c,E,m,d,D,k,e,hp,c0,c1,c2,hI,hD,hM,hn,hm,_⟩:=h.val;obtain⟨W,hW⟩:∃W,w.alloc (.cells #[.int .i64 num] 3)=W:=⟨_,rfl⟩;have hal:Below w.heap.size w W:=by rw[←hW];exact(Below.refl _ _).alloc (Nat.le_refl _) _
 have hsz:W.heap.size=w.heap.size+1:=by rw[←hW];simp
 have hc:W.cell? ⟨w.heap.size,0,.none⟩=some (.int .i64 num):=by rw[←hW];exact World.cell?_alloc_mark w _ _ (0,0) _
 have x1:=(hal.cell (p:=⟨p,1,.none⟩) hp).trans c1;have HD:=hid (hD.below hal);have HAL:=hid hal;have hlt:w.heap.size<W.heap.size:=by omega
 have HC:=hid hc;have HLT:=hid hlt;clear hI hD hM hal c0 c2 hsz hc hlt
 go_enter Tryz.func46,Tryz.ntmps46
 go_wp2_with fail;refine(z8t s.opn E m d num w.heap.size W HD.out hm HC.out HLT.out).mono ?_;rintro e5 w5 ⟨rfl,hbel⟩;have HB:=hid (Cv.next HAL.out hbel);clear hbel;go_wp2_with fail;go_ret;exact⟨rfl,HB.out⟩
end Go.Proofs.YtkflaifopbodfaaGreatDoor
