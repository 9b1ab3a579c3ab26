/- Parts of the proof, side by side: FsFull, FsCopy. -/
import Derived.Test.YtkflaifopbodfaaGreatDoorM04
import Derived.Test.YtkflaifopbodfaaGreatDoorM05
import Derived.Handy
import Derived.Test.YtkflaifopbodfaaGreatDoorM02
import Derived.Deep.Cut
import Derived.Deep.DeepCutAuto
set_option linter.unusedVariables false
set_option linter.unusedSimpArgs false
namespace Go.Proofs.YtkflaifopbodfaaGreatDoor
open Lib (hid)
open Go.RowKit
def resV (r:Re):Value:=.agg #[.int .i64 r.code,.int .i64 r.fd,.int .i64 r.num,.bool r.dir,.string r.data,.slice none 0 0]
theorem zdo:∀(es:List En) (name but:ByteArray),fullE es name but≤es.length
 | [],_,_=>Nat.le_refl _
 | e::es,name,but=>by
  unfold fullE;have:=zdo es name but;rw[List.length_cons]
  split<;>omega
set_option maxRecDepth 100000 in
set_option maxHeartbeats 8000000 in
theorem zlz (v:Value) (s:St) (dir:Int) (name but:ByteArray) (w:World) (h:StAt none w v s) (hd:0≤atV s.inos dir) (hs:name.size≤140737488355328):
  Calls Tryz.prog 57 #[v,.int .i64 dir,.string name,.string but] w fun e w'=>e=.returned (.bool (fullV s.inos dir name but))∧Below w.heap.size w w':=by
 obtain⟨i,x,hat,hx,hxn⟩:=z2c hd;obtain⟨⟨A,n,c,B,m,d,D,k,e,rfl,hI,hD,hM,h5,h6,h7⟩,hz⟩:=h;obtain⟨R,hR⟩:∃R,fullV s.inos dir name but=R:=⟨_,rfl⟩;rw[hR];have hfv:decide (4≤fullE x.ents name but)=R:=by rw[←hR,fullV,hat,z0c,hx]
 have hbig:=hz.big;have hn:=hI.1;have hn2:n≤1099511627776:=by omega
 have hle:=z1q hx;have htx:=(hz.text x (List.mem_of_getElem? hx)).2;have hin:i<n:=by have:=(List.getElem?_eq_some_iff.1 hx).1;omega
 obtain⟨W,hW,b0,b1,b2,hal,hlt0⟩:=z0u w A n c B m d D k e;obtain⟨g,off,x',E,m2,d2,rfl,hg,hx',_,_,c0,c1,c2,hmd,hE,c3⟩:=(hI.below hal).get i hin;have ex:x=x':=by rw[hx] at hx';exact Option.some.inj hx'
 subst ex;have hel:=hE.1;have hm2:m2≤1099511627776:=by omega
 have hfl:=zdo x.ents name but;have HS:=hid ((StAt.of_parts hI hD hM h5 h6 h7 hz).below hal);have HE:=hid hE;have HEL:=hid hel;have HAL:=hid hal;have HAT:=hid hat;have HFV:=hid hfv;have HTX:=hid htx;have i0:(0:Int)≤(i:Int):=by omega
 have i9:(i:Int)<(n:Int):=by omega
 obtain⟨FF,hFF⟩:∃FF,fullE x.ents name but=FF:=⟨_,rfl⟩;have hFF2:FF≤1099511627776:=by omega
 have HFF:=hid hFF;clear hI hD hM hz hbig hn hle htx hx hx' hat hxn hd hR hfv hal hE hel hfl hFF
 go_enter Tryz.func57,Tryz.ntmps57
 go_upto_region 2 with fail
 clear hW
 go_cut [10] (fun p wx=>∃b,p=.pointer (some ⟨b,0,.none⟩)∧wx.cell? ⟨b,2,.none⟩=some (.slice E m2 d2)∧Below W.heap.size W wx∧b<wx.heap.size)
 case first=>
  have nA:W.heap.size≠w.heap.size:=by omega
  have nB:W.heap.size≠g:=by omega
  go_region_held3 (fun w'=>w'.cell? ⟨w.heap.size,0,none⟩=some (.slice (some ⟨g,off,none⟩) n c)∧w'.cell? ⟨w.heap.size,1,none⟩=some (.slice B m d)∧w'.cell? ⟨w.heap.size,2,none⟩=some (.slice D k e)∧w'.cell? ⟨g,off+i*4,none⟩=some (.int .i64 x.num)∧w'.cell? ⟨g,off+i*4+1,none⟩=some (.bool x.dir)∧w'.cell? ⟨g,off+i*4+2,none⟩=some (.slice E m2 d2)∧w'.cell? ⟨g,off+i*4+3,none⟩=some (.string x.data))
   (first|go_keep|(refine⟨?_,?_,?_,?_,?_,?_,?_⟩<;>first|go_keep|(rw[hb5.cell (by simp;omega)];simp[*]))|(refine⟨?_,?_,?_,?_,?_,?_,?_⟩<;>(rw[World.cell?_alloc_lt _ _ _ (by have:=hb5.size;simp at this ⊢;omega),hb5.cell (by simp;omega)];simp[*])))
   ((go_at_call 60;refine(z2y _ s dir _ (HS.out.below (by first|exact Cv.drewN_below (Below.refl _ _) 1|exact(Cv.drewN_below (Below.refl _ _) 1).alloc (by simp) _))).mono ?_;rintro e5 w5 ⟨rfl,hb5⟩;rw[HAT.out];have nC:w5.heap.size≠w.heap.size:=(by have:=hb5.size;simp at this;omega);have nD:w5.heap.size≠g:=(by have:=hb5.size;simp at this;omega);try (have m0:w5.cell? ⟨W.heap.size,0,none⟩=some (.int .i64 0):=(hb5.cell (by simp)).trans (by simp);have m1:w5.cell? ⟨W.heap.size,1,none⟩=some (.bool false):=(hb5.cell (by simp)).trans (by simp);have m2':w5.cell? ⟨W.heap.size,2,none⟩=some (.slice none 0 0):=(hb5.cell (by simp)).trans (by simp);have m3:w5.cell? ⟨W.heap.size,3,none⟩=some (.string ⟨#[]⟩):=(hb5.cell (by simp)).trans (by simp);have mf:∀j,w5.frozen? ⟨W.heap.size,j,none⟩=false:=fun j=>(hb5.frozen (by simp)).trans (frozen_of_row _ _ j _ _ (heap_alloc_new _ _)))))
  all_goals (
   go_wp2_with fail;go_meet)
  ·have hb6:Below W.heap.size W w5:=(Cv.drewN_below (Below.refl _ _) 1).trans (hb5.mono (Nat.le_refl _));exact⟨w5.heap.size,rfl,(World.cell?_alloc_mark w5 _ _ (0,0) _).trans rfl,hb6.alloc hb6.size _,by simp⟩
  ·have hb6:Below W.heap.size W w5:=(Cv.drewN_below ((Below.refl _ _).alloc (Nat.le_refl _) _) 1).trans (hb5.mono (by simp));have hl6:W.heap.size<w5.heap.size:=Nat.lt_of_lt_of_le (by simp) hb5.size;refine⟨W.heap.size,rfl,(World.cell?_setCell_other _ _ _ _ (by simp)).trans (World.cell?_setCell_same' _ _ _ ?_),(((hb6.setCell (Nat.le_refl _) _).setCell (Nat.le_refl _) _).setCell (Nat.le_refl _) _).setCell (Nat.le_refl _) _,by simpa [World.setCell] using hl6⟩;rw[World.cell?_setCell_other _ _ _ _ (by simp),World.cell?_setCell_other _ _ _ _ (by simp),m2']
   rfl
 case rest =>
  obtain⟨b,rfl,z2,hbx,hbl⟩:=hcut;have HBX:=hid hbx;have HEx:=hid (HE.out.below hbx);clear hbx b0 b1 b2 c0 c1 c2 c3;go_wp2_with fail
  go_loopw [9,11] (fun many j wr=>∃q a:Nat,j=.int .i64 q∧many=.int .i64 a∧q≤m2∧Below wc.heap.size wc wr∧a+fullE (x.ents.drop q) name but=FF) (fun _ j _=>m2-(intOf j).toNat)
  case atStart=>exact⟨0,0,rfl,rfl,by omega,Below.refl _ _,by rw[List.drop_zero,Nat.zero_add];exact HFF.out⟩
  case round=>
   obtain⟨q,a,rfl,rfl,hq,hbel,hc⟩:=hrel;have y2:=(hbel.cell (p:=⟨b,2,.none⟩) hbl).trans z2;have HB:=hid hbel;have HEr:=hid (HEx.out.below hbel);clear hbel;have ha:a≤1099511627776:=by omega
   by_cases hlt:q<m2
   ·obtain⟨g2,off2,y,rfl,hg2,hy,hdr,hmem,e0,e1⟩:=HEr.out.get q hlt;have hys:=HTX.out y hmem;rw[hdr,fullE] at hc;have k0:(0:Int)≤(q:Int):=by omega
    have k1:(q:Int)<(m2:Int):=by omega
    have HC:=hid hc;clear hdr hmem hy hc
    by_cases hb:y.name=but
    ·have qn:(y.name.toList==but.toList)=true:=z7k hb;have HB2:=hid hb;clear hb;go_wp2_with fail;go_roundw
     case rel=>exact⟨q+1,a,by go_num,rfl,by omega,HB.out,by have:=HC.out;rw[if_neg (fun h=>h.1 HB2.out)] at this;omega⟩
     case measure=>simp[intOf];omega
    ·have qn:(y.name.toList==but.toList)=false:=z2g hb;have HB2:=hid hb;clear hb;have hx1:hashL y.name.data.toList%8<8:=Nat.mod_lt _ (by omega);obtain⟨B1,hB1⟩:∃B1,hashL y.name.data.toList%8=B1:=⟨_,rfl⟩;obtain⟨B2,hB2'⟩:∃B2,hashL name.data.toList%8=B2:=⟨_,rfl⟩;have HB1:=hid hB1;have HB3:=hid hB2';clear hB1 hB2' hx1;go_wp2_with fail;refine(z3m y.name _ hys).mono ?_;rintro e5 w5 ⟨rfl,rfl⟩;rw[HB1.out];go_wp2_with fail;refine(z3m name _ hs).mono ?_;rintro e6 w6 ⟨rfl,rfl⟩;rw[HB3.out]
     by_cases hbb:B1=B2
     ·have qb:((B1:Int)==(B2:Int))=true:=by rw[hbb];exact beq_self_eq_true _
      have HBB:=hid hbb;clear hbb;go_wp2_with fail;go_roundw
      case rel=>exact⟨q+1,a+1,by go_num,by go_num,by omega,HB.out,by have:=HC.out;rw[if_pos ⟨HB2.out,by show hashL _%8=hashL _%8;rw[HB1.out,HB3.out];exact HBB.out⟩] at this;omega⟩
      case measure=>simp[intOf];omega
     ·have qb:((B1:Int)==(B2:Int))=false:=by rw[beq_eq_false_iff_ne];omega
      have HBB:=hid hbb;clear hbb;go_wp2_with fail;go_roundw
      case rel=>exact⟨q+1,a,by go_num,rfl,by omega,HB.out,by have:=HC.out;rw[if_neg (fun h=>HBB.out (by rw[←HB1.out,←HB3.out];exact h.2))] at this;omega⟩
      case measure=>simp[intOf];omega
   ·have hnil:x.ents.drop q=[]:=List.drop_eq_nil_of_le (by have:=HEL.out;omega);rw[hnil,fullE] at hc;have hr:=HFV.out;rw[HFF.out] at hr;have HR:=hid hr;clear hr hnil;go_wp2_with fail;go_ret;refine⟨Cv.ret_bool ?_,Cv.next HAL.out (Cv.next HBX.out HB.out)⟩;rw[←HR.out,Nat.add_zero] at *;subst hc
    first|rfl|(rw[Bool.eq_iff_iff,decide_eq_true_eq,decide_eq_true_eq];omega)
theorem z7o:(Tryz.prog.info? 120).map (fun i=>(i.zero,i.size,i.bytes))=some (some (.agg #[.string ⟨#[]⟩,.int .i64 0]),2,24):=by kernel_rfl
theorem z5w:(Tryz.prog.info? 53).map (fun i=>(i.zero,i.size,i.bytes))=some (some (.agg #[.int .i64 0,.bool false,.slice none 0 0,.string ⟨#[]⟩]),4,56):=by kernel_rfl
theorem zbf:(Tryz.prog.info? 89).map (fun i=>(i.zero,i.size,i.bytes))=some (some (.agg #[.int .i64 0,.int .i64 0,.int .i64 0]),3,24):=by kernel_rfl
theorem z4x {α:Type} {w:World} {g off:Nat} (f:α→List Value) (k:Nat) (hk:∀x,(f x).length=k) (h0:0<k) (l:List α) (h:∀j x,l[j]? =some x→∀i,i<k→w.cell? ⟨g,off+j*k+i,none⟩=(f x)[i]?):
  ∀j u,(l.flatMap f)[j]? =some u→w.cell? ((⟨g,off,none⟩:Addr).add j)=some u:=by
 intro j u hu;have hl:=z1a f k hk l;have hjl:j<l.length*k:=by rw[←hl];exact(List.getElem?_eq_some_iff.1 hu).1
 have hq:j / k<l.length:=Nat.div_lt_of_lt_mul (by rw[Nat.mul_comm];exact hjl);have hm:j%k<k:=Nat.mod_lt _ h0;have hx:=List.getElem?_eq_getElem hq;have e1:=z0v f k hk l (j / k) _ hx (j%k) hm;have e2:j / k*k+j%k=j:=by rw[Nat.mul_comm];exact Nat.div_add_mod j k
 rw[e2] at e1;have e3:=h (j / k) _ hx (j%k) hm;have e4:(⟨g,off,none⟩:Addr).add j=⟨g,off+j,none⟩:=by unfold Addr.add;split<;>simp_all
 rw[e4,←hu,e1,←e3]
 congr 2
 omega
theorem z0n {P:Program} {w:World} {ops:Array Oper} {rest:List Oper} {o:Oper} {a:Act} {Q:Exit→Act→World→Prop} (hgd:o.guard=none) (s x:Operand) (t e:TypeId) (z:Value) (size bytes:Nat)
  (ho:o.op=.call { callee:=.builtin .append,args:=#[s,x],argTypes:=#[t,t] }) (ht:P.underlying t=some (.slice e)) (hinfo:(P.info? e).map (fun i=>(i.zero,i.size,i.bytes))=some (some z,size,bytes)) (hzs:z.cells.size=size) (hsz:0<size)
  (B:Nat) (v:Value) (n:Nat) (xs:List Value) (hs:a.eval s=v) (hown:w.ownsRow B e size v n xs) (A:Option Addr) (m c:Nat) (vs:List Value) (hx:a.eval x=.slice A m c) (hl:vs.length=m*size)
  (hr:∀ad,A=some ad→∀j u,vs[j]? =some u→w.cell? (ad.add j)=some u) (hn:A=none→m=0∧c=0)
  (hone:∀u∈vs,u.oneCell'=true) (h63:n+m≤maxLen) (hb:(n+m)*bytes≤140737488355328) (hB:B≤w.heap.size)
  (h:∀v' w',w'.ownsRow B e size v' (n+m) (xs++vs)→w.grownBy w' v.ownBlock→wpList P ops Q rest (a.put o.dst v') w'):wpList P ops Q (o::rest) a w:=by
 obtain⟨i0,hi,hz0,hz1,hz2⟩:=info_parts hinfo
 rcases A with _|ad
 ·obtain⟨rfl,rfl⟩:=hn rfl;have hts:vs=[]:=List.eq_nil_of_length_eq_zero (by simpa using hl);subst hts;refine wpList_append_own_none hgd s x t ho B e i0 size ht hi v n xs hs hown hx ?_;exact h v w (by simpa using hown) ⟨rfl,rfl,rfl,Nat.le_refl _,fun _ _ _=>rfl⟩
 ·refine wpList_append_own w hgd s x t ho B e i0 z size bytes ht hi hz0 hz1 hz2 hzs hsz v n xs hs hown ad m c vs hx hl (hr ad rfl) hone h63 hb hB ?_;intro v' w' h2 h3 _;exact h v' w' h2 h3
theorem EntsAt.flat {lo:Option Nat} {w:World} {A:Option Addr} {n c:Nat} {es:List En} (h:EntsAt lo w A n es) (hok:SlOk A n c):(es.flatMap enV).length=n*2∧(∀ad,A=some ad→∀j u,(es.flatMap enV)[j]? =some u→w.cell? (ad.add j)=some u)∧(A=none→n=0∧c=0):=by
 refine⟨by rw[z1a enV 2 (fun _=>rfl),h.1],fun ad had j u hu=>?_,fun e=>⟨?_,hok.2 e⟩⟩
 ·have hn:0<n:=by
   rcases Nat.eq_zero_or_pos n with h0|h0
   ·have:es=[]:=List.eq_nil_of_length_eq_zero (by rw[h.1,h0]);subst this;simp at hu
   ·exact h0
  obtain⟨g,off,hA,hg,hm,hc⟩:=h.2 hn;rw[hA] at had;injection had with had
  subst had;refine z4x enV 2 (fun _=>rfl) (by decide) es (fun j x hx i hi=>?_) j u hu;obtain⟨h1,h2⟩:=hc j x hx;have:i=0∨i=1:=by omega
  rcases this with rfl|rfl
  ·exact h1
  ·exact h2
 ·rcases Nat.eq_zero_or_pos n with h0|h0
  ·exact h0
  ·obtain⟨g,off,hA,_⟩:=h.2 h0;rw[hA] at e;cases e
theorem DescsAt.flat {lo:Option Nat} {w:World} {A:Option Addr} {n c:Nat} {ds:List Ds} (h:DescsAt lo w A n ds) (hok:SlOk A n c):(ds.flatMap dsV).length=n*3∧(∀ad,A=some ad→∀j u,(ds.flatMap dsV)[j]? =some u→w.cell? (ad.add j)=some u)∧(A=none→n=0∧c=0):=by
 refine⟨by rw[z1a dsV 3 (fun _=>rfl),h.1],fun ad had j u hu=>?_,fun e=>⟨?_,hok.2 e⟩⟩
 ·have hn:0<n:=by
   rcases Nat.eq_zero_or_pos n with h0|h0
   ·have:ds=[]:=List.eq_nil_of_length_eq_zero (by rw[h.1,h0]);subst this;simp at hu
   ·exact h0
  obtain⟨g,off,hA,hg,hm,hc⟩:=h.2 hn;rw[hA] at had;injection had with had
  subst had;refine z4x dsV 3 (fun _=>rfl) (by decide) ds (fun j x hx i hi=>?_) j u hu;obtain⟨h1,h2,h3⟩:=hc j x hx;have:i=0∨i=1∨i=2:=by omega
  rcases this with rfl|rfl|rfl
  ·exact h1
  ·exact h2
  ·exact h3
 ·rcases Nat.eq_zero_or_pos n with h0|h0
  ·exact h0
  ·obtain⟨g,off,hA,_⟩:=h.2 h0;rw[hA] at e;cases e
theorem IntsAt.flat {lo:Option Nat} {w:World} {A:Option Addr} {n c:Nat} {xs:List Int} (h:IntsAt lo w A n xs) (hok:SlOk A n c):(xs.map (Value.int .i64)).length=n*1∧(∀ad,A=some ad→∀j u,(xs.map (Value.int .i64))[j]? =some u→w.cell? (ad.add j)=some u)∧(A=none→n=0∧c=0):=by
 refine⟨by rw[List.length_map,h.1];omega,fun ad had j u hu=>?_,fun e=>⟨?_,hok.2 e⟩⟩
 ·rw[List.getElem?_map] at hu;obtain⟨x,hx,rfl⟩:=Option.map_eq_some_iff.1 hu;have hn:0<n:=by have:=(List.getElem?_eq_some_iff.1 hx).1;have:=h.1;omega
  obtain⟨g,off,hA,hg,hm,hc⟩:=h.2 hn;rw[hA] at had;injection had with had
  subst had;have e4:(⟨g,off,none⟩:Addr).add j=⟨g,off+j,none⟩:=by unfold Addr.add;split<;>simp_all
  rw[e4];exact hc j x hx
 ·rcases Nat.eq_zero_or_pos n with h0|h0
  ·exact h0
  ·obtain⟨g,off,hA,_⟩:=h.2 h0;rw[hA] at e;cases e
theorem KeepT.grown {w w':World} {B k n:Nat} {t t':TypeId} {v:Value} {xs:List Value} (h:w.ownsRow B t' k v n xs) (hg:w.grownBy w' v.ownBlock) (hne:t'≠t):KeepT t w w':=
 ⟨hg.size, fun b cur hb => hg.block b (Array.getElem?_eq_some_iff.1 hb).1 (fun e => by
  rcases h.2 with⟨rfl,_⟩|⟨g,cap,cur',rfl,_,hh,_⟩
  ·cases e
  ·have:b=g:=by simpa [Value.ownBlock] using e
   subst this;rw[hh] at hb;injection hb with hb
   injection hb with _ hb _
   exact hne hb)⟩
theorem KeepT.trans {t:TypeId} {a b c:World} (h:KeepT t a b) (k:KeepT t b c):KeepT t a c:=
 ⟨Nat.le_trans h.size k.size,fun x cur hx=>(k.same x cur ((h.same x cur hx).trans hx)).trans (h.same x cur hx)⟩
theorem z9x {w w':World} (h:w.grownBy w' none):Below w.heap.size w w':=(Below.refl _ _).grown h (Nat.le_refl _) (fun k hk=>by cases hk)
def OutAt (w:World) (P:Nat) (a b c:Value):Prop:=w.heap[P]? =some (.cells #[a,b,c] 27 (0,0))
theorem OutAt.get {w:World} {P:Nat} {a b c:Value} (h:OutAt w P a b c):w.cell? ⟨P,0,none⟩=some a∧w.cell? ⟨P,1,none⟩=some b∧w.cell? ⟨P,2,none⟩=some c∧∀j,w.frozen? ⟨P,j,none⟩=false:=by
 refine⟨?_,?_,?_,fun j=>frozen_of_row w P j _ _ h⟩<;>(rw[cell_of_row w P _ _ _ (0,0) h];rfl)
theorem OutAt.three {w:World} {R:Nat} {a b c:Value} (h:OutAt w R a b c) (x y z:Value):∃w',((w.setCell ⟨R,0,none⟩ x).setCell ⟨R,1,none⟩ y).setCell ⟨R,2,none⟩ z=w'∧OutAt w' R x y z∧(∀t,27≠t→KeepT t w w')∧∀(B:Nat) (u:World),B≤R→Below B u w→Below B u w':=by
 have h1:OutAt (w.setCell ⟨R,0,none⟩ x) R x b c:=heap_setCell_same w R 0 _ _ _ h;have h2:OutAt ((w.setCell ⟨R,0,none⟩ x).setCell ⟨R,1,none⟩ y) R x y c:=heap_setCell_same _ R 1 _ _ _ h1;exact⟨_,rfl,heap_setCell_same _ R 2 _ _ _ h2,fun t ht=>((KeepT.set h ht).trans (KeepT.set h1 ht)).trans (KeepT.set h2 ht),fun B u hB hb=>((hb.setCell hB _).setCell hB _).setCell hB _⟩
theorem z4a (w:World) (B:Nat) (e:TypeId) (k:Nat) (hB:B≤w.heap.size):(w.alloc (.cells #[] e)).ownsRow B e k (.slice (some ⟨w.heap.size,0,.none⟩) 0 0) 0 []:=
 ⟨by simp,Or.inr ⟨w.heap.size,0,#[],rfl,hB,heap_alloc_new w _,Nat.le_refl _,Nat.zero_le _,by simp,by simp⟩⟩
theorem zjs (es:List En):∀u∈es.flatMap enV,u.oneCell'=true:=by
 intro u hu;obtain⟨e,_,he⟩:=List.mem_flatMap.1 hu;simp[enV] at he
 rcases he with rfl|rfl<;>rfl
theorem zjt (es:List Ds):∀u∈es.flatMap dsV,u.oneCell'=true:=by
 intro u hu;obtain⟨e,_,he⟩:=List.mem_flatMap.1 hu;simp[dsV] at he
 rcases he with rfl|rfl|rfl<;>rfl
theorem zm0 (xs:List Int):∀u∈xs.map (Value.int .i64),u.oneCell'=true:=by
 intro u hu;obtain⟨e,_,rfl⟩:=List.mem_map.1 hu
 rfl
theorem z4y (w:World) (vs:List Value) (t:TypeId):∀j u,vs[j]? =some u→(w.alloc (.cells vs.toArray t)).cell? ((⟨w.heap.size,0,.none⟩:Addr).add j)=some u:=by
 intro j u hu;have e:(⟨w.heap.size,0,.none⟩:Addr).add j=⟨w.heap.size,j,.none⟩:=by unfold Addr.add;split<;>simp_all
 rw[e];exact(World.cell?_alloc_mark w _ _ (0,0) _).trans (by simpa using hu)
set_option maxRecDepth 100000 in
set_option maxHeartbeats 8000000 in
theorem zm1 (v:Value) (s:St) (w:World) (h:StAt none w v s):
  Calls Tryz.prog 26 #[v] w fun e w'=>∃v',e=.returned v'∧StAt (some w.heap.size) w' v' s∧Below w.heap.size w w':=by
 obtain⟨⟨A,n,c,B,m,d,D,k,e,rfl,hI,hD,hM,h5,h6,h7⟩,hz⟩:=h;have hbig:=hz.big;have hn:=hI.1;have hn2:n≤1099511627776:=by omega
 have hm2:m≤1099511627776:=by have:=hD.1;omega
 have hk2:k≤1099511627776:=by have:=hM.1;omega
 have hB2:bulkE s.inos≤1099511627776:=by omega
 obtain⟨W,hW,b0,b1,b2,hal,hlt0⟩:=z0u w A n c B m d D k e;obtain⟨W1,hW1⟩:∃W1,W.alloc (.cells #[.slice none 0 0,.slice none 0 0,.slice none 0 0] 27)=W1:=⟨_,rfl⟩;have o1:OutAt W1 W.heap.size (.slice none 0 0) (.slice none 0 0) (.slice none 0 0):=by rw[←hW1];exact heap_alloc_new W _
 have l1:Below W.heap.size W W1:=by rw[←hW1];exact(Below.refl _ _).alloc (Nat.le_refl _) _
 have z1:W1.heap.size=W.heap.size+1:=by rw[←hW1];simp
 obtain⟨W2,hW2⟩:∃W2,W1.alloc (.cells #[.slice none 0 0,.slice none 0 0,.slice none 0 0] 27)=W2:=⟨_,rfl⟩;have o2:OutAt W2 W1.heap.size (.slice none 0 0) (.slice none 0 0) (.slice none 0 0):=by rw[←hW2];exact heap_alloc_new W1 _
 have l2:Below W1.heap.size W1 W2:=by rw[←hW2];exact(Below.refl _ _).alloc (Nat.le_refl _) _
 have z2:W2.heap.size=W1.heap.size+1:=by rw[←hW2];simp
 have o3:OutAt W2 W.heap.size (.slice none 0 0) (.slice none 0 0) (.slice none 0 0):=(l2.block W.heap.size (by omega)).trans o1;have l3:=Cv.next hal (Cv.next l1 l2);have x0:=((Cv.next l1 l2).cell (p:=⟨w.heap.size,0,.none⟩) hlt0).trans b0;have x1:=((Cv.next l1 l2).cell (p:=⟨w.heap.size,1,.none⟩) hlt0).trans b1;have x2:=((Cv.next l1 l2).cell (p:=⟨w.heap.size,2,.none⟩) hlt0).trans b2;have HI:=hid hI;have HD:=hid hD;have HM:=hid hM;have HZ:=hid hz;have HO2:=hid o2;have HO3:=hid o3;have HL3:=hid l3;have H5:=hid h5;have H6:=hid h6;have H7:=hid h7;have HN:=hid hn;have HB2:=hid hB2;obtain⟨P,hP⟩:∃P,W1.heap.size=P:=⟨_,rfl⟩;obtain⟨R,hR⟩:∃R,W.heap.size=R:=⟨_,rfl⟩;rw[hP] at HO2;rw[hR] at HO3 hlt0;have hPR:R<P:=by omega
 have hP2:P<W2.heap.size:=by omega
 clear hI hD hM hz h5 h6 h7 o1 o2 o3 l1 l2 l3 hbig hn hB2 b0 b1 b2 z1 z2 hal
 go_enter Tryz.func26,Tryz.ntmps26
 go_wp2_with fail;clear hW hW1 hW2 hR hP
 go_loopw [4,5] (fun i _ wr=>∃(q:Nat) (V:Value) (zs:List (Ino×Value)),i=.int .i64 q∧q≤n∧Below P W2 wr∧W2.heap.size≤wr.heap.size∧OutAt wr P V (.slice none 0 0) (.slice none 0 0)∧InoRow W2.heap.size wr V q zs∧zs.map Prod.fst=s.inos.take q) (fun i _ _=>n-(intOf i).toNat)
 case atStart=>exact⟨0,_,[],rfl,by omega,Below.refl _ _,Nat.le_refl _,HO2.out,⟨World.ownsRow_nil _ _ _ _,by simp⟩,by simp⟩
 case round=>
  obtain⟨q,V,zs,rfl,hq,hbel,hsz,hout,hrow,htk⟩:=hrel;have hbw:Below w.heap.size w wr:=HL3.out.trans (hbel.mono (by omega));have y0:=(hbel.cell (p:=⟨w.heap.size,0,.none⟩) (by show w.heap.size<P;omega)).trans x0;have y1:=(hbel.cell (p:=⟨w.heap.size,1,.none⟩) (by show w.heap.size<P;omega)).trans x1;have y2:=(hbel.cell (p:=⟨w.heap.size,2,.none⟩) (by show w.heap.size<P;omega)).trans x2;have HB:=hid hbel;have HBW:=hid hbw;have HOUT:=hid hout;have HROW:=hid hrow;have HTK:=hid htk;clear hbel hbw hout hrow htk
  by_cases hlt:q<n
  ·obtain⟨g,off,x,E,m3,d3,rfl,hg,hx,hd,hmem,c0,c1,c2,hmd,hE,c3⟩:=(HI.out.below HBW.out).get q hlt;have k0:(0:Int)≤(q:Int):=by omega
   have k1:(q:Int)<(n:Int):=by omega
   have hle:=z1q hx;have hm3:m3≤1099511627776:=by have:=hE.1;have:=HB2.out;omega
   obtain⟨V2,hV2,v0,v1,v2,v3,hal4,hlt4⟩:=z2v wr x.num x.dir E m3 d3 x.data;have HX:=hid hx;have HE4:=hid (hE.below hal4);have HMD:=hid hmd;have HA4:=hid hal4;clear hx hd hmem hE hmd hle;have hNb:V2.heap[wr.heap.size]? =some (.cells #[.int .i64 x.num,.bool x.dir,.slice E m3 d3,.string x.data] 53 (0,0)):=by rw[←hV2];exact heap_alloc_new wr _
   have HNB:=hid hNb;obtain⟨i1,hi1,hz0,hz1,hz2⟩:=info_parts z5w;have halE:Below V2.heap.size V2 (V2.alloc (.cells #[] 120)):=(Below.refl _ _).alloc (Nat.le_refl _) _;have hf:=(HE4.out.below halE).flat HMD.out;have HF:=hid hf;have hre:=z4a V2 W2.heap.size 120 2 (Nat.le_trans hsz (Nat.le_of_lt hlt4));have HRE:=hid hre;have hszV:W2.heap.size≤V2.heap.size:=by omega
   clear hNb halE hf hre;go_wp2_with (at_builtin;refine z0n rfl _ _ 51 120 (.agg #[.string ⟨#[]⟩,.int .i64 0]) 2 24 rfl Tryz.underlying51 z7o rfl (by decide) W2.heap.size _ 0 [] rfl HRE.out E m3 d3 (x.ents.flatMap enV) rfl HF.out.1 HF.out.2.1 HF.out.2.2 (zjs _) ?h63 ?hb ?hB ?_)
   case h63=>unfold maxLen;omega
   case hb=>omega
   case hB=>simp;omega
   intro v' w3 hown hgrow
   have hge3:∀k,(Value.slice (some ⟨V2.heap.size,0,.none⟩) 0 0).ownBlock=some k→wr.heap.size≤k∧V2.heap.size=k:=by
    intro k hk;simp[Value.ownBlock] at hk;omega
   have hb3:Below wr.heap.size wr w3:=(HA4.out.alloc (Nat.le_of_lt hlt4) _).grown hgrow (by simp;omega) (fun k hk=>(hge3 k hk).1)
   have hN3:w3.heap[wr.heap.size]? =some (.cells #[.int .i64 x.num,.bool x.dir,.slice E m3 d3,.string x.data] 53 (0,0)):=by
    rw[hgrow.block _ (by simp;omega) (fun e=>absurd (hge3 _ e.symm).2 (by omega)),Below.heap_alloc _ _ _ hlt4];exact HNB.out
   obtain⟨EV,c9,hv9,hc9,hn9,hE9⟩:=EntsAt.of_row (B:=W2.heap.size) (n:=0+m3) (es:=x.ents) (w:=w3) (v:=v') (by simpa using hown);rw[Nat.zero_add] at hv9 hE9 hc9 hn9;subst hv9;have hP3:OutAt w3 P V (.slice none 0 0) (.slice none 0 0):=(hb3.block P (by omega)).trans HOUT.out;obtain⟨p0,p1,p2,_⟩:=hP3.get;have n0:w3.cell? ⟨wr.heap.size,0,.none⟩=some (.int .i64 x.num):=by rw[cell_of_row w3 wr.heap.size _ _ _ (0,0) hN3];rfl
   have n1:w3.cell? ⟨wr.heap.size,1,.none⟩=some (.bool x.dir):=by rw[cell_of_row w3 wr.heap.size _ _ _ (0,0) hN3];rfl
   have n2:w3.cell? ⟨wr.heap.size,2,.none⟩=some (.slice E m3 d3):=by rw[cell_of_row w3 wr.heap.size _ _ _ (0,0) hN3];rfl
   have n3:w3.cell? ⟨wr.heap.size,3,.none⟩=some (.string x.data):=by rw[cell_of_row w3 wr.heap.size _ _ _ (0,0) hN3];rfl
   have nf:=frozen_of_row w3 wr.heap.size 2 _ _ hN3;obtain⟨W4,hW4⟩:∃W4,w3.setCell ⟨wr.heap.size,2,.none⟩ (.slice EV m3 c9)=W4:=⟨_,rfl⟩;have hb4:Below wr.heap.size wr W4:=by rw[←hW4];exact hb3.setCell (Nat.le_refl _) _
   have hN4:W4.heap[wr.heap.size]? =some (.cells #[.int .i64 x.num,.bool x.dir,.slice EV m3 c9,.string x.data] 53 (0,0)):=by rw[←hW4];exact heap_setCell_same w3 _ 2 _ _ _ hN3
   have hE4':EntsAt (some W2.heap.size) W4 EV m3 x.ents:=by rw[←hW4];exact hE9.keep (KeepT.set hN3 (by decide))
   have hP4:OutAt W4 P V (.slice none 0 0) (.slice none 0 0):=(hb4.block P (by omega)).trans HOUT.out;obtain⟨q0,q1,q2,qf⟩:=hP4.get;have m0:W4.cell? ⟨wr.heap.size,0,.none⟩=some (.int .i64 x.num):=by rw[cell_of_row W4 wr.heap.size _ _ _ (0,0) hN4];rfl
   have m1:W4.cell? ⟨wr.heap.size,1,.none⟩=some (.bool x.dir):=by rw[cell_of_row W4 wr.heap.size _ _ _ (0,0) hN4];rfl
   have m2':W4.cell? ⟨wr.heap.size,2,.none⟩=some (.slice EV m3 c9):=by rw[cell_of_row W4 wr.heap.size _ _ _ (0,0) hN4];rfl
   have m3':W4.cell? ⟨wr.heap.size,3,.none⟩=some (.string x.data):=by rw[cell_of_row W4 wr.heap.size _ _ _ (0,0) hN4];rfl
   have hs4:wr.heap.size≤W4.heap.size:=hb4.size;have HB4:=hid hb4;have HE5:=hid hE4';have HP4:=hid hP4;have HK9:Hid (SlOk EV m3 c9):=hid ⟨hc9,fun e=>(hn9 e).2⟩;have HR4:=hid (z2k HROW.out.row hb4);clear hown hgrow hb3 hN3 hE9 hc9 hn9 hP3 hb4 hN4 hE4' hP4 v0 v1 v2 v3;go_wp2_with (at_builtin;refine wpList_append_own _ rfl _ _ 23 rfl W2.heap.size 53 i1 (.agg #[.int .i64 0,.bool false,.slice none 0 0,.string ⟨#[]⟩]) 4 56 Tryz.underlying23 hi1 hz0 hz1 hz2 rfl (by decide) _ q _ rfl (HR4.out.alloc _) ⟨W4.heap.size,0,.none⟩ 1 1 [.int .i64 x.num,.bool x.dir,.slice EV m3 c9,.string x.data] rfl rfl (z4y W4 [.int .i64 x.num,.bool x.dir,.slice EV m3 c9,.string x.data] _) ?ca2 ?ca3 ?ca4 ?ca5 ?_)
   case ca2=>first|(intro u hu;simp at hu;rcases hu with rfl|rfl|rfl|rfl<;>rfl)|(simp;done)|exact⟨rfl,rfl,rfl,rfl⟩
   case ca3=>unfold maxLen;omega
   case ca4=>omega
   case ca5=>first|omega|(simp;omega)
   intro v5 w5 hown5 hgrow5 _;obtain⟨A5,c5,hv5,_,_,_⟩:=z1z hown5 (by decide);subst hv5;have hb5:Below P W2 w5:=((HB.out.trans (HB4.out.mono (by omega))).alloc (by omega) _).grown hgrow5 (by simp;omega) (fun k hk=>by have:=(HR4.out.lt k hk).1;omega);have hsz5:W2.heap.size≤w5.heap.size:=Nat.le_trans (Nat.le_trans hsz (Nat.le_trans hs4 (by simp))) hgrow5.size
   have hP5:OutAt w5 P V (.slice none 0 0) (.slice none 0 0):=by
    unfold OutAt;rw[hgrow5.block P (by simp;omega) (fun e=>by have:=(HR4.out.lt _ e.symm).1;omega),Below.heap_alloc _ _ _ (by omega)];exact HP4.out
   obtain⟨r0,r1,r2,rf⟩:=hP5.get;have hkE:KeepT 120 (W4.alloc (.cells #[.int .i64 x.num,.bool x.dir,.slice EV m3 c9,.string x.data] 53)) w5:=KeepT.grown (HR4.out.alloc _) hgrow5 (by decide);have hkS:KeepT 120 w5 (w5.setCell ⟨P,0,.none⟩ (.slice A5 (q+1) c5)):=KeepT.set hP5 (by decide);have al4:Below W4.heap.size W4 (W4.alloc (.cells #[.int .i64 x.num,.bool x.dir,.slice EV m3 c9,.string x.data] 53)):=(Below.refl _ _).alloc (Nat.le_refl _) _
   have hrowN:InoRow W2.heap.size (w5.setCell ⟨P,0,.none⟩ (.slice A5 (q+1) c5)) (.slice A5 (q+1) c5) (q+1) (zs++[(x,.slice EV m3 c9)]):=by
    refine⟨zjm (by rw[List.flatMap_append];exact hown5) hP2,fun z hz=>?_⟩
    rcases List.mem_append.1 hz with hz|hz
    ·obtain⟨A7,m7,c7,h71,h72,h73⟩:=HROW.out.ents z hz;exact⟨A7,m7,c7,h71,h72,(((h73.below HB4.out).below al4).keep hkE).keep hkS⟩
    ·have:z=(x,.slice EV m3 c9):=by simpa using hz
     subst this;exact⟨EV,m3,c9,rfl,HK9.out,((HE5.out.below al4).keep hkE).keep hkS⟩
   have HRN:=hid hrowN;have HON:Hid (OutAt (w5.setCell ⟨P,0,.none⟩ (.slice A5 (q+1) c5)) P (.slice A5 (q+1) c5) (.slice none 0 0) (.slice none 0 0)):=hid (heap_setCell_same w5 P 0 _ _ _ hP5);have HBN:=hid (hb5.setCell (p:=⟨P,0,.none⟩) (Nat.le_refl _) (.slice A5 (q+1) c5));have hszN:W2.heap.size≤(w5.setCell ⟨P,0,.none⟩ (.slice A5 (q+1) c5)).heap.size:=by simpa [World.setCell] using hsz5
   have HTN:Hid ((zs++[(x,Value.slice EV m3 c9)]).map Prod.fst=s.inos.take (q+1)):=hid (by rw[List.map_append,HTK.out,List.take_add_one,HX.out];rfl);obtain⟨W6,hW6⟩:∃W6,w5.setCell ⟨P,0,.none⟩ (.slice A5 (q+1) c5)=W6:=⟨_,rfl⟩;rw[hW6] at HRN HON HBN hszN;clear hown5 hgrow5 hb5 hP5 hkE hkS al4 hrowN;go_wp2_with fail;go_roundw
   case rel=>exact⟨q+1,_,_,by go_num,by omega,HBN.out,hszN,HON.out,HRN.out,HTN.out⟩
   case measure=>simp[intOf];omega
  ·obtain rfl:q=n:=by omega
   have hall:zs.map Prod.fst=s.inos:=by rw[HTK.out];exact List.take_of_length_le (by have:=HN.out;omega)
   have HALL:=hid hall;have hB1:=HBW.out;obtain⟨AV,cV,hvV,hcV,hnV,hIV⟩:=InosAt.of_row HROW.out;subst hvV;obtain⟨p0,p1,p2,pf⟩:=HOUT.out.get;have hfd:=(HD.out.below HBW.out).flat H6.out;have HFD:=hid hfd;have pf1:=pf 1;have hdsz:=HD.out.1;have HIV:=hid hIV;have HNV:=hid hnV;clear hall hIV hnV hfd pf hB1;go_wp2_with (at_builtin;refine z0n rfl _ _ 24 89 (.agg #[.int .i64 0,.int .i64 0,.int .i64 0]) 3 24 rfl Tryz.underlying24 zbf rfl (by decide) W2.heap.size _ 0 [] rfl (World.ownsRow_nil _ _ _ _) B m d (s.opn.flatMap dsV) rfl HFD.out.1 HFD.out.2.1 HFD.out.2.2 (zjt _) ?h63 ?hb ?hB ?_)
   case h63=>unfold maxLen;omega
   case hb=>omega
   case hB=>exact hsz
   intro v7 w7 hown7 hgrow7;replace hown7:w7.ownsRow W2.heap.size 89 3 v7 m (s.opn.flatMap dsV):=by simpa using hown7
   have hb7:=z9x hgrow7;obtain⟨BV,cB,hv7,hcB,hnB,hDV⟩:=DescsAt.of_row hown7;subst hv7;have hP7:OutAt w7 P (.slice AV q cV) (.slice none 0 0) (.slice none 0 0):=(hb7.block P (by omega)).trans HOUT.out;obtain⟨r0,r1,r2,rf⟩:=hP7.get;have rf1:=rf 1;have kA:∀t,27≠t→KeepT t wr (w7.setCell ⟨P,1,.none⟩ (.slice BV m cB)):=fun t ht=>(KeepT.below hb7).trans (KeepT.set hP7 ht)
   have kD:KeepT 89 w7 (w7.setCell ⟨P,1,.none⟩ (.slice BV m cB)):=KeepT.set hP7 (by decide);have hP8:OutAt (w7.setCell ⟨P,1,.none⟩ (.slice BV m cB)) P (.slice AV q cV) (.slice BV m cB) (.slice none 0 0):=heap_setCell_same w7 P 1 _ _ _ hP7;have hb8:Below P W2 (w7.setCell ⟨P,1,.none⟩ (.slice BV m cB)):=(HB.out.trans (hb7.mono (by omega))).setCell (Nat.le_refl _) _;have hs8:wr.heap.size≤(w7.setCell ⟨P,1,.none⟩ (.slice BV m cB)).heap.size:=by have:=hb7.size;simpa [World.setCell] using this
   obtain⟨W8,hW8⟩:∃W8,w7.setCell ⟨P,1,.none⟩ (.slice BV m cB)=W8:=⟨_,rfl⟩;rw[hW8] at kA kD hP8 hb8 hs8;have KA:=hid kA;have hD8:=hDV.keep kD;have HD8:=hid hD8;have HBB:=hid hb8;have HP8:=hid hP8;obtain⟨t0,t1,t2,tf⟩:=hP8.get;have tf2:=tf 2;have u2':=(hb8.cell (p:=⟨w.heap.size,2,.none⟩) (by show w.heap.size<P;omega)).trans x2;have hbw8:Below w.heap.size w W8:=HL3.out.trans (hb8.mono (by omega));have HW8:=hid hbw8;have HFM:=hid ((HM.out.below hbw8).flat H7.out);have HKB:Hid (SlOk BV m cB):=hid ⟨hcB,fun e=>(hnB e).2⟩;clear hown7 hgrow7 hb7 hcB hnB hDV hP7 rf kA kD hP8 hb8 hD8 tf hbw8;go_wp2_with (at_builtin;refine z0n rfl _ _ 25 3 (.int .i64 0) 1 8 rfl Tryz.underlying25 z5s rfl (by decide) W2.heap.size _ 0 [] rfl (World.ownsRow_nil _ _ _ _) D k e (s.made.map (Value.int .i64)) rfl HFM.out.1 HFM.out.2.1 HFM.out.2.2 (zm0 _) ?h63 ?hb ?hB ?_)
   case h63=>unfold maxLen;omega
   case hb=>omega
   case hB=>omega
   intro v9 w9 hown9 hgrow9;replace hown9:w9.ownsRow W2.heap.size 3 1 v9 k (s.made.map (Value.int .i64)):=by simpa using hown9
   have hb9:=z9x hgrow9;obtain⟨MV,cM,hv9,hcM,hnM,hMV⟩:=IntsAt.of_row hown9;subst hv9;have hP9:OutAt w9 P (.slice AV q cV) (.slice BV m cB) (.slice none 0 0):=(hb9.block P (by omega)).trans HP8.out;obtain⟨r0,r1,r2,rf⟩:=hP9.get;have rf2:=rf 2;have kB:∀t,27≠t→KeepT t W8 (w9.setCell ⟨P,2,.none⟩ (.slice MV k cM)):=fun t ht=>(KeepT.below hb9).trans (KeepT.set hP9 ht)
   have kM:KeepT 3 w9 (w9.setCell ⟨P,2,.none⟩ (.slice MV k cM)):=KeepT.set hP9 (by decide);have hP10:OutAt (w9.setCell ⟨P,2,.none⟩ (.slice MV k cM)) P (.slice AV q cV) (.slice BV m cB) (.slice MV k cM):=heap_setCell_same w9 P 2 _ _ _ hP9;have hb10:Below P W2 (w9.setCell ⟨P,2,.none⟩ (.slice MV k cM)):=(HBB.out.trans (hb9.mono (by omega))).setCell (Nat.le_refl _) _;obtain⟨W9,hW9⟩:∃W9,w9.setCell ⟨P,2,.none⟩ (.slice MV k cM)=W9:=⟨_,rfl⟩;rw[hW9] at kB kM hP10 hb10;have hR9:OutAt W9 R (.slice none 0 0) (.slice none 0 0) (.slice none 0 0):=(hb10.block R hPR).trans HO3.out;have KB:=hid kB;have HM9:=hid (hMV.keep kM);have HB10:=hid hb10;have HKM:Hid (SlOk MV k cM):=hid ⟨hcM,fun e=>(hnM e).2⟩;obtain⟨a0,a1,a2,_⟩:=hP10.get;obtain⟨_,_,_,gf⟩:=hR9.get;have HR9:=hid hR9;have gf0:=gf 0;have gf1:=gf 1;have gf2:=gf 2;clear hown9 hgrow9 hb9 hcM hnM hMV hP9 rf kB kM hP10 hb10 gf hR9 t0 t1 t2 p0 p1 p2
   go_wp2_with fail;obtain⟨W12,hW12,hR12,kC,hbC⟩:=HR9.out.three (.slice AV q cV) (.slice BV m cB) (.slice MV k cM);rw[hW12];have hw12:Below w.heap.size w W12:=hbC _ _ (Nat.le_of_lt hlt0) (HL3.out.trans (HB10.out.mono (by omega)));obtain⟨c0,c1,c2,_⟩:=hR12.get
   have hi:InosAt (some w.heap.size) W12 AV q s.inos:=by
    have h1:=HIV.out;rw[HALL.out] at h1;exact((((h1.keep (KA.out _ (by decide)) (KA.out _ (by decide))).keep (KB.out _ (by decide)) (KB.out _ (by decide))).keep (kC _ (by decide)) (kC _ (by decide)))).mono (by omega)
   have hd:DescsAt (some w.heap.size) W12 BV m s.opn:=((HD8.out.keep (KB.out _ (by decide))).keep (kC _ (by decide))).mono (by omega);have hm:IntsAt (some w.heap.size) W12 MV k s.made:=(HM9.out.keep (kC _ (by decide))).mono (by omega);have hst:StAt (some w.heap.size) W12 (.agg #[.slice AV q cV,.slice BV m cB,.slice MV k cM]) s:=⟨⟨AV,q,cV,BV,m,cB,MV,k,cM,rfl,hi,hd,hm,⟨hcV,fun e=>(HNV.out e).2⟩,HKB.out,HKM.out⟩,HZ.out⟩;have HST:=hid hst;have HW12:=hid hw12;have HR12:=hid hR12;clear hW12 hR12 kC hbC hw12 hi hd hm hst
   (try simp only[Exit.inBlock,Exit.then])
   refine bodyPost_ret (results_cell_row rfl _ _ R 27 _ (0,0) _ rfl HR12.out Tryz.underlying27 rfl (by kernel_rfl)) rfl ?_;exact⟨_,rfl,HST.out,HW12.out⟩
end Go.Proofs.YtkflaifopbodfaaGreatDoor
