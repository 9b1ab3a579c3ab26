/- Parts of the proof, side by side: FsRead2, FsRead3, FsReached, PlainPath, PlainPath2. -/
import Derived.Test.YtmmpkfcdfcldlaaGreatM01
import Derived.Test.YtmmpkfcdfcldlaaGreatM00
import Derived.Laws.AppendOwn
import Derived.Deep.OwnRows
import Derived.Deep.LoopGhost
set_option linter.unusedVariables false
set_option linter.unusedSimpArgs false
namespace Go.Proofs.YtmmpkfcdfcldlaaGreat
open Lib (hid)
open Go.RowKit
theorem zbo:∀(es:List En) (num:Int),linkE es num≤es.length
 | [],_=>Nat.le_refl _
 | e::es,num=>by
  unfold linkE;have:=zbo es num;rw[List.length_cons]
  split<;>omega
theorem zbp:∀(is:List Ino) (num:Int),linkI is num≤bulkE is
 | [],_=>Nat.le_refl _
 | x::xs,num=>by
  unfold linkI;have:=zbp xs num;have h2:=zbo x.ents num
  show _≤x.ents.length+bulkE xs
  split<;>omega
set_option maxHeartbeats 2000000 in
theorem z3u (v:Value) (s:St) (num:Int) (w:World) (h:StAt none w v s):
  Calls Tryz.prog 24 #[v,.int .i64 num] w fun e w'=>e=.returned (.int .i64 (linkI s.inos num:Nat))∧Below w.heap.size w w':=by
 obtain⟨⟨A,n,c,B,m,d,D,k,e,rfl,hI,hD,hM,h5,h6,h7⟩,hz⟩:=h;have hll:=zbp s.inos num;obtain⟨R,hR⟩:∃R,linkI s.inos num=R:=⟨_,rfl⟩;rw[hR] at hll ⊢;have hbig:=hz.big;have hn:=hI.1;have hn2:n≤1099511627776:=by omega
 have hR2:R≤1099511627776:=by omega
 have hB2:bulkE s.inos≤1099511627776:=by omega
 obtain⟨W,hW,b0,b1,b2,hal,_⟩:=z1f w A n c B m d D k e;have HI:=hid (hI.below hal);have HR:=hid hR;have HAL:=hid hal;have HB2:=hid hB2;clear hI hD hM hz hR hbig hn b1 b2 hal hll hB2
 go_enter Tryz.func24,Tryz.ntmps24
 go_wp2_with fail;clear hW
 go_loop [5,6,7] (fun many i _=>∃k q:Nat,i=.int .i64 k∧many=.int .i64 q∧k≤n∧q+linkI (s.inos.drop k) num=R) (fun _ i _=>n-(intOf i).toNat)
 case atStart=>exact⟨0,0,rfl,rfl,by omega,by rw[List.drop_zero,Nat.zero_add];exact HR.out⟩
 case round =>
  obtain⟨k,q,rfl,rfl,hk,hc⟩:=hrel
  by_cases hlt:k<n
  ·obtain⟨g,off,x,E,m2,d2,rfl,hg,hx,hd,hmem,_,c1,c2,hmd,hE,_⟩:=HI.out.get k hlt;rw[hd,linkI] at hc;have hle:=z0r hx;have hm2:m2≤1099511627776:=by have:=hE.1;have:=HB2.out;omega
   obtain⟨T,hT⟩:∃T,linkI (List.drop (k+1) s.inos) num=T:=⟨_,rfl⟩;rw[hT] at hc;have HC:=hid hc;have HT:=hid hT;have HE:=hid hE;clear hc hT hE hd hx hmem hle
   by_cases hdir:x.dir=true
   ·rw [hdir] at c1
    go_wp2
    go_loop [5,7] (fun many j=>∃i q:Nat,j=.int .i64 i∧many=.int .i64 q∧i≤m2∧q+linkE (x.ents.drop i) num+T=R) (fun _ j=>m2-(intOf j).toNat)
    case atStart=>exact⟨0,q,rfl,rfl,by omega,by have:=HC.out;rw[if_pos hdir] at this;rw[List.drop_zero];omega⟩
    case round=>
     obtain⟨i,q2,rfl,rfl,hi,hc⟩:=hrel
     by_cases hlt2:i<m2
     ·obtain⟨g2,off2,y,rfl,hg2,hy,hd2,_,e0,e1⟩:=HE.out.get i hlt2;rw[hd2,linkE] at hc
      by_cases hq:y.num=num
      ·rw[if_pos hq] at hc;subst hq;have HC2:=hid hc;have hq2:q2≤1099511627776:=by omega
       clear hc hd2 hy e0
       go_wp2
       go_round
       case rel=>exact⟨i+1,q2+1,by go_num,by go_num,by omega,by have:=HC2.out;omega⟩
       case measure=>simp[intOf];omega
      ·rw[if_neg hq] at hc;have qn:(y.num==num)=false:=by rw[beq_eq_false_iff_ne];exact hq
       have HC2:=hid hc;clear hc hd2 hy e0
       go_wp2
       go_round
       case rel=>exact⟨i+1,q2,by go_num,rfl,by omega,by have:=HC2.out;omega⟩
       case measure=>simp[intOf];omega
     ·have:x.ents.drop i=[]:=List.drop_eq_nil_of_le (by have:=HE.out.1;omega);rw[this,linkE] at hc;have HC2:=hid hc;clear hc this
      go_wp2
      go_round
      case rel=>exact⟨k+1,q2,by go_num,rfl,by omega,by rw[HT.out];exact HC2.out⟩
      case measure=>simp[intOf];omega
   ·have hdir2:x.dir=false:=by simpa using hdir
    rw[hdir2] at c1
    go_wp2
    go_loop [5,7] (fun many j=>j=.int .i64 0∧many=.int .i64 q) (fun _ j=>0)
    case atStart=>exact⟨rfl,rfl⟩
    case round=>
     obtain⟨rfl,rfl⟩:=hrel
     by_cases hlt2:0<m2
     ·go_wp2
      go_round
      case rel=>exact⟨k+1,q,by go_num,rfl,by omega,by have:=HC.out;rw[if_neg (by rw[hdir2];simp)] at this;rw[HT.out];omega⟩
      case measure=>simp[intOf];omega
     ·have hm0:m2=0:=by omega
      subst hm0
      go_wp2
      go_round
      case rel=>exact⟨k+1,q,by go_num,rfl,by omega,by have:=HC.out;rw[if_neg (by rw[hdir2];simp)] at this;rw[HT.out];omega⟩
      case measure=>simp[intOf];omega
  ·have:s.inos.drop k=[]:=List.drop_eq_nil_of_le (by have:=HI.out.1;omega);rw[this,linkI] at hc;have Hc:=hid hc;clear hc this
   go_wp2
   go_ret;exact⟨Cv.ret_int (by have:=Hc.out;omega),HAL.out⟩
theorem StAt.of_parts {lo:Option Nat} {w:World} {A:Option Addr} {n c:Nat} {B:Option Addr} {m d:Nat} {D:Option Addr} {k e:Nat} {s:St} (h1:InosAt lo w A n s.inos) (h2:DescsAt lo w B m s.opn) (h3:IntsAt lo w D k s.made) (h5:SlOk A n c) (h6:SlOk B m d) (h7:SlOk D k e) (hz:Sized s):
  StAt lo w (.agg #[.slice A n c,.slice B m d,.slice D k e]) s:=⟨⟨A,n,c,B,m,d,D,k,e,rfl,h1,h2,h3,h5,h6,h7⟩,hz⟩
set_option maxHeartbeats 2000000 in
theorem z1n (v:Value) (s:St) (dir:Int) (name:ByteArray) (w:World) (h:StAt none w v s):
  Calls Tryz.prog 103 #[v,.int .i64 dir,.string name] w fun e w'=>e=.returned (.int .i64 (entV s.inos dir name))∧Below w.heap.size w w':=by
 obtain⟨⟨A,n,c,B,m,d,D,k,e,rfl,hI,hD,hM,h5,h6,h7⟩,hz⟩:=h;obtain⟨R,hR⟩:∃R,entV s.inos dir name=R:=⟨_,rfl⟩;rw[hR];have hbig:=hz.big;have hn:=hI.1;have hn2:n≤1099511627776:=by omega
 obtain⟨W,hW,b0,b1,b2,hal,hlt0⟩:=z1f w A n c B m d D k e;have HS:=hid ((StAt.of_parts hI hD hM h5 h6 h7 hz).below hal);have HI:=hid (hI.below hal);have HAL:=hid hal;have HB2:Hid (bulkE s.inos≤1099511627776):=hid (by omega);rw[entV] at hR;have HR:=hid hR;clear hI hD hM hz hbig hn hal hR
 go_enter Tryz.func103,Tryz.ntmps103
 go_wp2_with fail;refine(z0o _ s dir _ HS.out).mono ?_;rintro e w1 ⟨rfl,hb1⟩;have b3:=(hb1.cell (p:=⟨w.heap.size,0,.none⟩) hlt0).trans b0;have HI1:=hid (HI.out.below hb1);have HB1:=hid hb1;clear hW b0 b1 b2 hb1 HI
 rcases z0s s.inos dir with⟨hat,_⟩|⟨i,x,hat,hx,_,_⟩
 ·rw[hat];have hr:=HR.out;rw[hat] at hr;have HR2:=hid (show(0:Int)=R from hr);clear hr hat
  go_wp2
  go_ret;exact⟨Cv.ret_int HR2.out,Cv.next HAL.out HB1.out⟩
 ·rw [hat];have hr := HR.out;rw [hat, z0c, hx] at hr;simp only at hr;have hin : i < n := by have := (List.getElem?_eq_some_iff.1 hx).1; have := HI1.out.1; omega
  obtain⟨g,off,x',E,m2,d2,rfl,hg,hx',hd,hmem,_,c1,c2,hmd,hE,_⟩:=HI1.out.get i hin;have ex:x=x':=by rw[hx] at hx';exact Option.some.inj hx'
  subst ex;have hle:=z0r hx;have hm2:m2≤1099511627776:=by have:=hE.1;have:=HB2.out;omega
  have HR2:=hid hr;have HE:=hid hE;have q0:decide ((i:Int)<0)=false:=by simp
  clear hr hat hx hx' hd hmem hle hE c1;go_wp2_with fail
  go_loop [8] (fun j=>∃k:Nat,j=.int .i64 k∧k≤m2∧entG (x.ents.drop k) name=R) (fun j=>m2-(intOf j).toNat)
  case atStart=>exact⟨0,rfl,by omega,HR2.out⟩
  case round=>
   obtain⟨k,rfl,hk,hc⟩:=hrel
   by_cases hlt:k<m2
   ·obtain⟨g2,off2,y,rfl,hg2,hy,hd2,_,e0,e1⟩:=HE.out.get k hlt;rw[hd2,entG] at hc
    by_cases hq:y.name=name
    ·rw[if_pos hq] at hc;subst hq;have Hc:=hid hc;clear hc hd2 hy
     go_wp2
     go_ret;exact⟨Cv.ret_int Hc.out,Cv.next HAL.out HB1.out⟩
    ·rw[if_neg hq] at hc;have q:(y.name.toList==name.toList)=false:=z1k hq;have Hc:=hid hc;clear hc hd2 hy
     go_wp2
     go_round
     case rel=>exact⟨k+1,by go_num,by omega,Hc.out⟩
     case measure=>simp[intOf];omega
   ·have:x.ents.drop k=[]:=List.drop_eq_nil_of_le (by have:=HE.out.1;omega);rw[this,entG] at hc;have Hc:=hid hc;clear hc this
    go_wp2
    go_ret;exact⟨Cv.ret_int Hc.out,Cv.next HAL.out HB1.out⟩
set_option maxHeartbeats 1000000 in
theorem z0k (v:Value) (s:St) (num:Int) (w:World) (h:StAt none w v s) (hn1: -9223372036854775808≤num) (hn2:num≤9223372036854775807):
  Calls Tryz.prog 43 #[v,.int .i64 num] w fun e w'=>e=.returned (.bool (givenV s.made num))∧Below w.heap.size w w':=by
 obtain⟨⟨A,n,c,B,m,d,D,k,e,rfl,hI,hD,hM,h5,h6,h7⟩,hz⟩:=h;obtain⟨R,hR⟩:∃R,givenV s.made num=R:=⟨_,rfl⟩;rw[hR];unfold givenV at hR;have hbig:=hz.big;have hn:=hM.1;have hk2:k≤1099511627776:=by omega
 obtain⟨W,hW,b0,b1,b2,hal,_⟩:=z1f w A n c B m d D k e;have HM:=hid (hM.below hal);have HAL:=hid hal;have HR:=hid hR;clear hI hD hM hz hR hbig hn b0 b1 hal
 go_enter Tryz.func43,Tryz.ntmps43
 by_cases h2:num<2
 ·have hr:=HR.out;rw[if_pos h2] at hr;have HR2:=hid hr;clear hr;go_wp2_with fail;go_ret;exact⟨Cv.ret_bool HR2.out,HAL.out⟩
 ·have hr:=HR.out;rw[if_neg h2] at hr;obtain⟨N,rfl⟩:∃N:Nat,num=(N:Int)+2:=⟨(num-2).toNat,by omega⟩;obtain⟨C,hC⟩:∃C:Nat,N%8=C:=⟨_,rfl⟩;obtain⟨Q,hQ⟩:∃Q:Nat,N / 8=Q:=⟨_,rfl⟩;have e0:(N:Int)+2-2=(N:Int):=by omega
  have e1:(N:Int)%8=(C:Int):=by omega
  have e2:(N:Int) / 8=(Q:Int):=by omega
  rw[e0,e1,e2,Int.toNat_natCast] at hr;have t1:(N:Int).tmod 8=(C:Int):=by rw[←hC];rfl
  have t2:(N:Int).tdiv 8=(Q:Int):=by rw[←hQ];rfl
  have q0:decide ((N:Int)+2<2)=false:=by simp;omega
  have hN:N≤9223372036854775805:=by omega
  have hC7:C<8:=by omega
  have hQ2:Q≤9223372036854775805:=by omega
  have w1:IntKind.i64.wrap (N:Int)=(N:Int):=by rw[IntKind.wrap_i64];omega
  have w2:IntKind.i64.wrap ((N:Int)+2-2)=(N:Int):=by rw[e0,w1]
  clear h2 hn1 hn2 e1 e2 hC hQ HR
  by_cases hlt:C<k
  ·obtain⟨g,off,x,rfl,hg,hx,hd,hmem,c0⟩:=HM.out.get C hlt;have hkm:=HM.out.1;have hgd:s.made.getD C 0=x:=by rw[List.getD_eq_getElem?_getD,hx];rfl
   rw[hgd] at hr;have HR2:=hid hr;clear hr hd hmem hx hgd;go_wp2_with fail;go_ret;refine⟨Cv.ret_bool ?_,HAL.out⟩;rw[←HR2.out,decide_eq_true (show(C:Int)<(s.made.length:Int) by omega)]
   rfl
  ·have hkm:=HM.out.1;have q1:decide ((C:Int)<(k:Int))=false:=by simp;omega
   have HR2:=hid hr;clear hr;go_wp2_with fail;go_ret;refine⟨Cv.ret_bool ?_,HAL.out⟩;rw[←HR2.out,decide_eq_false (show ¬(C:Int)<(s.made.length:Int) by omega)]
   rfl
def FlagsAt (w:World) (G n:Nat) (f:List Bool):Prop:=∃cur:Array Value,w.heap[G]? =some (.cells cur 4 (0,0))∧∀j,j<n→cur[j]? =some (.bool (f.getD j false))
theorem FlagsAt.lt {w:World} {G n:Nat} {f:List Bool} (h:FlagsAt w G n f):G<w.heap.size:=by
 obtain⟨cur,hh,_⟩:=h;exact(Array.getElem?_eq_some_iff.1 hh).1
theorem FlagsAt.same {w w':World} {G n:Nat} {f:List Bool} (h:FlagsAt w G n f) (hb:w'.heap[G]? =w.heap[G]?):FlagsAt w' G n f:=by
 obtain⟨cur,hh,hc⟩:=h;exact⟨cur,hb.trans hh,hc⟩
theorem FlagsAt.below {w w':World} {G n:Nat} {f:List Bool} (h:FlagsAt w G n f) (hb:Below w.heap.size w w'):FlagsAt w' G n f:=h.same (hb.block G h.lt)
theorem FlagsAt.get {w:World} {G n:Nat} {f:List Bool} (h:FlagsAt w G n f) (j:Nat) (hj:j<n):w.cell? ⟨G,j,.none⟩=some (.bool (f.getD j false))∧w.frozen? ⟨G,j,.none⟩=false:=by
 obtain⟨cur,hh,hc⟩:=h;exact⟨by rw[cell_of_row w G j cur _ (0,0) hh];exact hc j hj,frozen_of_row w G j cur _ hh⟩
theorem FlagsAt.set {w:World} {G n:Nat} {f:List Bool} (h:FlagsAt w G n f) (b:Nat) (hb:b<n) (hf:b<f.length):FlagsAt (w.setCell ⟨G,b,.none⟩ (.bool true)) G n (f.set b true):=by
 obtain⟨cur,hh,hc⟩:=h;refine⟨_,heap_setCell_same w G b cur _ _ hh,fun j hj=>?_⟩;rw[Array.getElem?_setIfInBounds,z1s f b j hf]
 by_cases e:b=j
 ·subst e;have:b<cur.size:=(Array.getElem?_eq_some_iff.1 (hc b hb)).1;simp[this]
 ·rw[if_neg e,if_neg (fun e2=>e e2.symm)];exact hc j hj
theorem zeb:(Tryz.prog.info? 4).map (fun i=>(i.zero,i.size,i.bytes))=some (some (.bool false),1,1):=by kernel_rfl
theorem z3i:(Tryz.prog.info? 3).map (fun i=>(i.zero,i.size,i.bytes))=some (some (.int .i64 0),1,8):=by kernel_rfl
theorem zfk (N:Nat) (h:N≤65536) (w:World):∃W,(Instr.makeSlice 80 (.int .i64 (N:Int)) (.int .i64 (N:Int))).run Tryz.prog w=.ok (.slice (some ⟨w.heap.size,0,.none⟩) N N) W∧FlagsAt W w.heap.size N (List.replicate N false)∧Below w.heap.size w W:=by
 refine⟨_,run_make_row' (P:=Tryz.prog) 80 4 (.bool false) 1 Tryz.underlying80 zeb rfl .i64 .i64 N (by omega) (by omega) w,⟨_,heap_alloc_new w _,fun j hj=>?_⟩,(Below.refl _ _).alloc (Nat.le_refl _) _⟩
 have h1:(List.replicate N false).getD j false=false:=by
  rw[List.getD_eq_getElem?_getD,List.getElem?_replicate]
  split<;>rfl
 rw[h1];simp[madeCells,hj,Nat.mod_one]
theorem zkj {w:World} {B:Nat} {e:TypeId} {A:Option Addr} {n m c:Nat} {xs:List Value} (h:w.ownsRow B e 1 (.slice A (n+m) c) (n+m) xs) (hm:0<m):w.ownsRow B e 1 (.slice A n c) n (xs.take n):=by
 obtain⟨hl,h⟩:=h;refine⟨by rw[List.length_take];omega,?_⟩
 rcases h with⟨_,h2⟩|⟨g,cap,cur,hv,hb,hg,hnc,hcm,hcs,htk⟩
 ·omega
 ·injection hv with e1 e2 e3
  subst e1 e3;refine Or.inr ⟨g,c,cur,rfl,hb,hg,by omega,hcm,hcs,?_⟩;rw[←htk,List.take_take]
  congr 1
  omega
theorem zkk (w:World) (e:TypeId) (v:Value):(w.alloc (.cells #[v] e)).ownsRow w.heap.size e 1 (.slice (some ⟨w.heap.size,0,.none⟩) 1 1) 1 [v]:=
 ⟨rfl,Or.inr ⟨w.heap.size,1,#[v],rfl,Nat.le_refl _,heap_alloc_new w _,Nat.le_refl _,by unfold maxLen;omega,rfl,rfl⟩⟩
theorem zao (w:World) (v:Value) (t:TypeId):∀j u,([v]:List Value)[j]? =some u→(w.alloc (.cells #[v] t)).cell? ((⟨w.heap.size,0,.none⟩:Addr).add j)=some u:=by
 intro j u hu;have e:(⟨w.heap.size,0,.none⟩:Addr).add j=⟨w.heap.size,j,.none⟩:=by unfold Addr.add;split<;>simp_all
 rw[e];exact(World.cell?_alloc_mark w _ _ (0,0) _).trans (by simpa using hu)
theorem z0y {B:Nat} {e:TypeId} {k:Nat} {w w':World} {v:Value} {n:Nat} {xs:List Value} (h:w.ownsRow B e k v n xs) (hb:Below w.heap.size w w'):w'.ownsRow B e k v n xs:=by
 obtain⟨hl,h⟩:=h;refine⟨hl,?_⟩
 rcases h with h|⟨g,cap,cur,hv,hB,hg,r⟩
 ·exact Or.inl h
 ·exact Or.inr ⟨g,cap,cur,hv,hB,(hb.block g (Array.getElem?_eq_some_iff.1 hg).1).trans hg,r⟩
theorem zap {B:Nat} {e:TypeId} {k:Nat} {w:World} {v:Value} {n:Nat} {xs:List Value} {G i:Nat} {u:Value} (h:w.ownsRow B e k v n xs) (hG:G<B):(w.setCell ⟨G,i,.none⟩ u).ownsRow B e k v n xs:=by
 obtain⟨hl,h⟩:=h;refine⟨hl,?_⟩
 rcases h with h|⟨g,cap,cur,hv,hB,hg,r⟩
 ·exact Or.inl h
 ·exact Or.inr ⟨g,cap,cur,hv,hB,(Below.heap_setCell w ⟨G,i,.none⟩ u g (by show g≠G;omega)).trans hg,r⟩
theorem zj3 (ys:List Int) (t:Int):((ys++[t]).map (Value.int .i64))[ys.length]? =some (.int .i64 t):=by simp
set_option maxRecDepth 100000 in
set_option maxHeartbeats 8000000 in
theorem zd9 (v : Value) (s : St) (w : World) (h : StAt none w v s) (hn0 : s.inos.length ≤ 257) :
  Calls Tryz.prog 42 #[v] w fun e w'=>∃G,e=.returned (.slice (some ⟨G,0,.none⟩) s.inos.length s.inos.length)∧FlagsAt w' G s.inos.length (reachV s.inos)∧Below w.heap.size w w':=by
 obtain⟨⟨A,n,c,B,m,d,D,k,e,rfl,hI,hD,hM,h5,h6,h7⟩,hz⟩:=h;have hbig:=hz.big;have hn:=hI.1;obtain⟨i0,hi,hz0,hz1,hz2⟩:=info_parts z3i;obtain⟨W,hW,b0,b1,b2,hal,hlt0⟩:=z1f w A n c B m d D k e;obtain⟨U,hmk,hfl,hal2⟩:=zfk n (by omega) W;have x0:=(hal2.cell (p:=⟨w.heap.size,0,.none⟩) hlt0).trans b0;have x1:=(hal2.cell (p:=⟨w.heap.size,1,.none⟩) hlt0).trans b1;have x2:=(hal2.cell (p:=⟨w.heap.size,2,.none⟩) hlt0).trans b2;have HS:=hid (StAt.of_parts hI hD hM h5 h6 h7 hz);have HI:=hid hI;have HAL:=hid (Cv.next hal hal2);have hrow:=zkk U 3 (.int .i64 1);have hal3:Below U.heap.size U (U.alloc (.cells #[.int .i64 1] 3)):=(Below.refl _ _).alloc (Nat.le_refl _) _;have hfl3:=hfl.below hal3;have HF:=hid hfl3;have HAL3:=hid hal3;have HROW:=hid hrow;have hWU:W.heap.size<U.heap.size:=hfl.lt;have hwU:w.heap.size<U.heap.size:=Nat.lt_of_lt_of_le hlt0 hal2.size
 have hB2:bulkE s.inos≤1099511627776:=by omega
 have hn2:n≤257:=by omega
 have HN:=hid hn;rw[hn];clear hI hD hM hz hbig hn hal hal2 hrow hal3 hfl hfl3 b1 b2 hn0
 go_enter Tryz.func42,Tryz.ntmps42
 go_wp2_with fail;clear hW hmk b0
 go_loopg [4,5,6] (1+bulkE s.inos) (fun gk v4 _ _ wr=>∃(V:Value) (todo:List Int) (f:List Bool),V=v4∧wr.ownsRow U.heap.size 3 1 V todo.length (todo.map (Value.int .i64))∧FlagsAt wr W.heap.size n f∧Below W.heap.size U wr∧U.heap.size≤wr.heap.size∧Found s.inos todo f∧todo.length+sumUn s.inos f=gk∧gk≤1+bulkE s.inos)
 case atStart=>exact⟨_,[1],List.replicate n false,rfl,HROW.out,HF.out,HAL3.out.mono (Nat.le_of_lt hWU),HAL3.out.size,by rw[←HN.out];exact Found.start s.inos,by rw[z3f];rfl,Nat.le_refl _⟩
 case round =>
  obtain⟨V,todo,f,hV4,hrow,hfl,hbel,hsz,hfo,hgk,hgb⟩:=hrel;subst hV4;have z0:=(hbel.cell (p:=⟨w.heap.size,0,.none⟩) hlt0).trans x0;have z1:=(hbel.cell (p:=⟨w.heap.size,1,.none⟩) hlt0).trans x1;have z2:=(hbel.cell (p:=⟨w.heap.size,2,.none⟩) hlt0).trans x2;have hbw:Below w.heap.size w wr:=HAL.out.trans (hbel.mono (Nat.le_of_lt hlt0));have HB:=hid hbel;have HBW:=hid hbw;have HFL:=hid hfl;have HFO:=hid hfo;have HSw:=hid (HS.out.below hbw);have hwsz:W.heap.size<wr.heap.size:=Nat.lt_of_lt_of_le hWU hsz;clear hbel hfl hfo hbw
  rcases List.eq_nil_or_concat todo with rfl|⟨ys,t,rfl⟩
  ·have hv:V=.slice none 0 0∨∃a c,V=.slice a 0 c:=by
    rcases hrow.2 with⟨h1,_⟩|⟨g,cap,cur,h1,_⟩
    ·exact .inl h1
    ·exact .inr ⟨_,_,h1⟩
   have HF2:=hid HFO.out.same
   rcases hv with rfl|⟨a,c4,rfl⟩
   ·clear hrow;go_wp2_with fail;go_ret;exact⟨W.heap.size,rfl,by rw[←HF2.out];exact HFL.out,HBW.out⟩
   ·clear hrow;go_wp2_with fail;go_ret;exact⟨W.heap.size,rfl,by rw[←HF2.out];exact HFL.out,HBW.out⟩
  ·rw [List.concat_eq_append] at hrow HFO hgk;have hlen : (ys ++ [t]).length = ys.length + 1 := by simp
   rw[hlen] at hrow hgk
   obtain⟨g,c4,rfl,hlast,hcut⟩:∃g c4,V=.slice (some ⟨g,0,.none⟩) (ys.length+1) c4∧wr.cell? ⟨g,ys.length,.none⟩=some (.int .i64 t)∧ys.length+1≤c4:=by
    rcases hrow.2 with⟨_,h2⟩|⟨g,cap,cur,h1,_,_,h4,_⟩
    ·omega
    ·subst h1;exact⟨g,cap,rfl,(hrow.cellAt ys.length (by omega)).trans (zj3 ys t),h4⟩
   have hrow2:=zkj (n:=ys.length) (m:=1) hrow (by omega);rw[show((ys++[t]).map (Value.int .i64)).take ys.length=ys.map (Value.int .i64) by simp] at hrow2;obtain⟨L,hL⟩:∃L,ys.length=L:=⟨_,rfl⟩;rw[hL] at hlast hcut hrow2 hgk ⊢;have HROW2:=hid hrow2;have HL:=hid hL;have l0:decide ((0:Int)<(L:Int)+1)=true:=by rw[decide_eq_true_eq];omega
   have lw:IntKind.i64.wrap ((L:Int)+1-1)=(L:Int):=by rw[IntKind.wrap_i64];omega
   have l1:(0:Int)≤(L:Int):=by omega
   have l2:(L:Int)<(L:Int)+1:=by omega
   have l3:L≤1099511627777:=by omega
   have hx:∀(X:Ext wr) (p:Addr),(wr.cell? p).isSome=true→X.w.cell? p=wr.cell? p:=fun X p h=>X.cell p h
   have hlast2:(ys++[t]).getLast? =some t:=by simp
   have hdl:(ys++[t]).dropLast=ys:=by simp
   have HLA:=hid hlast2;have HDL:=hid hdl;clear hrow hrow2 hlen hL hlast2 hdl;go_wp2_with fail;refine wre ?_
   repeat (go_big_quiet_step (first|(go_at_call 94;rename_i X;exact Calls.ext_of (z0o _ s _ _ (HSw.out.below X.bel)))))
   refine wpQuiet_nil ?_;rintro w7 ⟨X,rfl⟩;generalize hZe:X.w=Z;have hZ:=hZe▸X.bel;clear hZe X hx hlast;have hbz:Below w.heap.size w Z:=Cv.next HBW.out hZ;have hbu:Below W.heap.size U Z:=HB.out.trans (hZ.mono (Nat.le_of_lt hwsz));have y0:=(hZ.cell (p:=⟨w.heap.size,0,.none⟩) (Nat.lt_trans hlt0 hwsz)).trans z0;have hszz:U.heap.size≤Z.heap.size:=Nat.le_trans hsz hZ.size;have HFZ:=hid (HFL.out.below hZ);have HRZ:=hid (z0y HROW2.out hZ);have HBZ:=hid hbz;have HBU:=hid hbu;clear hbz hbu hZ z0 z1 z2
   rcases z0s s.inos t with⟨hat,_⟩|⟨i,x,hat,hx,_,_⟩
   ·rw[hat];have HSK:=hid (HFO.out.skip HLA.out fun j hj=>by rw[hat] at hj;omega);clear hat;go_wp2_with fail
    go_roundg (gk-1)
    case measure=>omega
    case rel=>exact⟨_,ys,f,rfl,by rw[HL.out];exact HRZ.out,HFZ.out,HBU.out,hszz,by have:=HSK.out;rwa [HDL.out] at this,by rw[HL.out];omega,by omega⟩
   ·rw [hat];have hin : i < n := by have := (List.getElem?_eq_some_iff.1 hx).1; have := HN.out; omega
    have hif:i<f.length:=by rw[HFO.out.len,HN.out];exact hin
    have q0:decide ((i:Int)<0)=false:=by simp
    have i0':(0:Int)≤(i:Int):=by omega
    have i9:(i:Int)<(n:Int):=by omega
    obtain⟨fc,ff⟩:=HFZ.out.get i hin
    by_cases hf:f.getD i false=true
    ·have HSK:=hid (HFO.out.skip HLA.out fun j hj=>by rw[hat] at hj;(have:i=j:=by omega);rw[←this];exact hf);rw[hf] at fc;clear hat hx;go_wp2_with fail
     go_roundg (gk-1)
     case measure=>omega
     case rel=>exact⟨_,ys,f,rfl,by rw[HL.out];exact HRZ.out,HFZ.out,HBU.out,hszz,by have:=HSK.out;rwa [HDL.out] at this,by rw[HL.out];omega,by omega⟩
    ·have hf2 : f.getD i false = false := by simpa using hf
     have HTK:=hid (HFO.out.take HLA.out hat hx);have hsum:=z8e s.inos f i x hif hf2 hx;have hle:=z0r hx;rw[hf2] at fc;obtain⟨g2,off2,x',E,m3,d3,rfl,hg2,hx',_,_,_,c1,c2,hmd,hE,_⟩:=HI.out.get i hin;have ex:x=x':=by rw[hx] at hx';exact Option.some.inj hx'
     subst ex;have hel:=hE.1;have hm3:m3≤1099511627776:=by omega
     have HE:=hid hE;have HEL:=hid hel;have HSM:=hid hsum;have HFS:=hid (HFZ.out.set i hin hif);have HRS:=hid (zap (i:=i) (u:=.bool true) HRZ.out hWU);have HBU2:=hid (HBU.out.setCell (p:=⟨W.heap.size,i,.none⟩) (Nat.le_refl _) (.bool true));have HBZ2:=hid (HBZ.out.setCell (p:=⟨W.heap.size,i,.none⟩) (Nat.le_of_lt hlt0) (.bool true));have hszz2:U.heap.size≤(Z.setCell ⟨W.heap.size,i,.none⟩ (.bool true)).heap.size:=by simpa [World.setCell] using hszz
     have y1:=(World.cell?_setCell_other Z ⟨W.heap.size,i,.none⟩ ⟨w.heap.size,0,.none⟩ (.bool true) (fun e=>by injection e with e;omega)).trans y0;obtain⟨Z2,hZ2⟩:∃Z2,Z.setCell ⟨W.heap.size,i,.none⟩ (.bool true)=Z2:=⟨_,rfl⟩;rw[hZ2] at HFS HRS HBU2 HBZ2 hszz2 y1;clear hat hx hx' hsum hel hE hf
     by_cases hdir:x.dir=true
     ·rw [hdir] at c1;have HDR := hid hdir;clear hdir hf2;go_wp2_with fail;clear hZ2 y0 y1 fc ff
      go_loopw [4,6] (fun v j wz=>∃(q:Nat) (V:Value),V=v∧j=.int .i64 q∧q≤m3∧wz.ownsRow U.heap.size 3 1 V (L+q) ((ys++(x.ents.take q).map (·.num)).map (Value.int .i64))∧FlagsAt wz W.heap.size n (f.set i true)∧Below W.heap.size U wz∧U.heap.size≤wz.heap.size) (fun _ j _=>m3-(intOf j).toNat)
      case atStart=>exact⟨0,_,rfl,rfl,by omega,by simpa using HRS.out,HFS.out,HBU2.out,hszz2⟩
      case round=>
       obtain⟨q,V,hV,rfl,hq,hrow,hfl,hbel,hsz3⟩:=hrel;subst hV;have hbw:Below w.heap.size w wr:=HAL.out.trans (hbel.mono (Nat.le_of_lt hlt0));have r0:=(hbel.cell (p:=⟨w.heap.size,0,.none⟩) hlt0).trans x0;have s1:=(hbw.cell (p:=⟨g2,_,.none⟩) hg2).trans c1;have s2:=(hbw.cell (p:=⟨g2,_,.none⟩) hg2).trans c2;have HR9:=hid hrow;have HF9:=hid hfl;have HB9:=hid hbel;have HW9:=hid hbw;clear hrow hfl hbel hbw
       by_cases hlt:q<m3
       ·obtain⟨g3,off3,y,rfl,hg3,hy,hd,hmem,_,e1⟩:=HE.out.get q hlt;have s3:=(HW9.out.cell (p:=⟨g3,_,.none⟩) hg3).trans e1
        have htk:(x.ents.take (q+1)).map (·.num)=(x.ents.take q).map (·.num)++[y.num]:=by
         rw[List.take_add_one,hy];simp
        have HTK2:=hid htk;clear hy hd hmem e1 htk c1 c2;go_wp2_with (at_builtin;refine wpList_append_own _ rfl _ _ 24 rfl U.heap.size 3 i0 (.int .i64 0) 1 8 Tryz.underlying24 hi hz0 hz1 hz2 rfl (by decide) _ (L+q) _ rfl (HR9.out.alloc _) ⟨wr.heap.size,0,.none⟩ 1 1 [.int .i64 y.num] rfl rfl (zao wr _ _) ?ca2 ?ca3 ?ca4 ?ca5 ?_)
        case ca2=>first|rfl|(intro u hu;simp at hu;subst hu;rfl)
        case ca3=>unfold maxLen;omega
        case ca4=>omega
        case ca5=>first|omega|(simp;omega)
        intro v' w' hown' hgrow _;have hge:∀k,V.ownBlock=some k→U.heap.size≤k:=fun k hk=>(HR9.out.lt k hk).1
        have hfl':FlagsAt w' W.heap.size n (f.set i true):=(HF9.out.below ((Below.refl _ _).alloc (Nat.le_refl _) _)).same (hgrow.block _ (by simp;omega) (fun e=>by have:=hge _ e.symm;omega));have hbel':Below W.heap.size U w':=(HB9.out.alloc (by omega) _).grown hgrow (by simp;omega) (fun k hk=>by have:=hge k hk;omega);have hsz':U.heap.size≤w'.heap.size:=Nat.le_trans hsz3 (Nat.le_trans (by simp) hgrow.size);have HO':=hid hown';have HF':=hid hfl';have HB':=hid hbel';clear hown' hgrow hge hfl' hbel';go_wp2_with fail;go_roundw
        case rel=>exact⟨q+1,_,rfl,by go_num,by omega,by
         have:=HO'.out;rw[HTK2.out]
         simpa [Nat.add_assoc] using this,HF'.out,HB'.out,hsz'⟩
        case measure=>simp[intOf];omega
       ·have hqm:q=m3:=by omega
        have HQM:=hid hqm;clear hqm c1 c2;go_wp2_with fail
        go_roundg (gk-1)
        case measure=>omega
        case rel=>
         have hall:x.ents.take q=x.ents:=List.take_of_length_le (by have:=HEL.out;have:=HQM.out;omega);have hlen:(ys++x.ents.map (·.num)).length=L+q:=by rw[List.length_append,List.length_map,HL.out,HEL.out,HQM.out]
         refine⟨_,ys++x.ents.map (·.num),f.set i true,rfl,?_,HF9.out,HB9.out,hsz3,?_,?_,by omega⟩
         ·rw[hlen];have:=HR9.out
          rwa [hall] at this
         ·have:=HTK.out
          rwa [HDL.out,if_pos HDR.out] at this
         ·rw[hlen];have:=HSM.out;have:=HEL.out;have:=HQM.out;omega
     ·have hdir2:x.dir=false:=by simpa using hdir
      rw[hdir2] at c1;have HDR:=hid hdir2;have s1:=(HBZ2.out.cell (p:=⟨g2,_,.none⟩) hg2).trans c1;have s2:=(HBZ2.out.cell (p:=⟨g2,_,.none⟩) hg2).trans c2;clear hdir hf2 hdir2 c1 c2;go_wp2_with fail;clear hZ2 y0 fc ff
      go_loopw [4,6] (fun v j wz=>v=.slice (some ⟨g,0,.none⟩) L c4∧j=.int .i64 0∧Z2=wz) (fun _ _ _=>0)
      case atStart=>exact⟨rfl,rfl,rfl⟩
      case round=>
       obtain⟨rfl,rfl,rfl⟩:=hrel
       by_cases hlt2:0<m3
       ·go_wp2_with fail
        go_roundg (gk-1-m3)
        case measure=>omega
        case rel=>exact⟨_,ys,f.set i true,rfl,by rw[HL.out];exact HRS.out,HFS.out,HBU2.out,hszz2,by have:=HTK.out;rwa [HDL.out,if_neg (by rw[HDR.out];simp),List.append_nil] at this,by rw[HL.out];have:=HSM.out;have:=HEL.out;omega,by omega⟩
       ·have hm0:m3=0:=by omega
        subst hm0;go_wp2_with fail
        go_roundg (gk-1)
        case measure=>omega
        case rel=>exact⟨_,ys,f.set i true,rfl,by rw[HL.out];exact HRS.out,HFS.out,HBU2.out,hszz2,by have:=HTK.out;rwa [HDL.out,if_neg (by rw[HDR.out];simp),List.append_nil] at this,by rw[HL.out];have:=HSM.out;have:=HEL.out;omega,by omega⟩
end Go.Proofs.YtmmpkfcdfcldlaaGreat
namespace Go.Proofs.YtmmpkfcdfcldlaaGreat
open Lib (hid)
theorem z3v (l:List UInt8):checkL l=0∨checkL l=800∨checkL l=801:=by
 unfold checkL
 split
 ·exact Or.inr (Or.inr rfl)
 ·split
  ·exact Or.inr (Or.inl rfl)
  ·split
   ·exact Or.inr (Or.inl rfl)
   ·exact Or.inl rfl
def scanP:List UInt8→List UInt8→List (List UInt8)→List (List UInt8)×Nat
 | [],_,out=>if 4<out.length then([],1102) else(out,0)
 | b::r,cur,out=>if b=47 then(if checkL cur=0 then scanP r [] (out++[cur]) else if checkL cur=801 then([],1101) else([],1100)) else scanP r (cur++[b]) out
def parseL (l:List UInt8):List (List UInt8)×Nat:=
 if 64<l.length then([],1101) else if ¬l.head? =some 47 then([],1100) else if l.length=1 then([],0) else scanP (l.drop 1++[47]) [] []
theorem zbq (cur:List UInt8) (out:List (List UInt8)):scanP [] cur out=if 4<out.length then([],1102) else(out,0):=rfl
theorem z8f (b:UInt8) (r cur:List UInt8) (out:List (List UInt8)) (h:¬b=47):scanP (b::r) cur out=scanP r (cur++[b]) out:=by
 show(if b=47 then _ else _)=_;rw[if_neg h]
theorem zaq (r cur:List UInt8) (out:List (List UInt8)) (h:checkL cur=0):scanP (47::r) cur out=scanP r [] (out++[cur]):=by
 show(if(47:UInt8)=47 then _ else _)=_;rw[if_pos rfl,if_pos h]
theorem z6e (r cur:List UInt8) (out:List (List UInt8)) (h:checkL cur=801):scanP (47::r) cur out=([],1101):=by
 show(if(47:UInt8)=47 then _ else _)=_;rw[if_pos rfl,if_neg (by omega),if_pos h]
theorem z6f (r cur:List UInt8) (out:List (List UInt8)) (h:checkL cur=800):scanP (47::r) cur out=([],1100):=by
 show(if(47:UInt8)=47 then _ else _)=_;rw[if_pos rfl,if_neg (by omega),if_neg (by omega)]
def piece (l:List UInt8) (i j:Nat):List UInt8:=(l.take j).drop i
theorem z2v (l:List UInt8) (i:Nat):piece l i i=[]:=by
 unfold piece;exact List.drop_eq_nil_of_le (by rw[List.length_take];omega)
theorem zfl (l:List UInt8) (i j:Nat) (hij:i≤j) (hj:j<l.length):piece l i (j+1)=piece l i j++[l[j]]:=by
 unfold piece;rw[List.take_succ_eq_append_getElem hj,List.drop_append_of_le_length (by rw[List.length_take];omega)]
theorem z1z (s:ByteArray) (i j:Nat):s.extract i j=⟨(piece s.data.toList i j).toArray⟩:=by
 apply ByteArray.ext;apply Array.ext';simp[piece,List.extract_eq_take_drop,List.drop_take]
theorem zh5 (l:List UInt8) (j:Nat) (h:j<l.length):(l++[47]).drop j=l[j]::(l++[47]).drop (j+1):=by
 rw[List.drop_eq_getElem_cons (by simp;omega)];rw[List.getElem_append_left h]
theorem zkl (l:List UInt8) (j:Nat) (h:j=l.length):(l++[47]).drop j=47::(l++[47]).drop (j+1):=by
 subst h;simp
theorem zec (l:List UInt8) (j:Nat) (h:j=l.length+1):(l++[47]).drop j=[]:=by
 subst h;simp
theorem z3w (s:ByteArray):s.data.toList.head? =some 47↔∃h:0<s.size,s[0]=47:=by
 constructor
 ·intro h
  have hl:0<s.data.toList.length:=by
   cases e:s.data.toList with
   | nil=>rw[e] at h;simp at h
   | cons a l=>simp
  have hs:0<s.size:=hl;refine⟨hs,?_⟩;rw[List.head?_eq_getElem?,List.getElem?_eq_getElem hl] at h;exact Option.some.inj h
 ·rintro⟨h,e⟩;have hl:0<s.data.toList.length:=h;rw[List.head?_eq_getElem?,List.getElem?_eq_getElem hl];exact congrArg some e
end Go.Proofs.YtmmpkfcdfcldlaaGreat
namespace Go.Proofs.YtmmpkfcdfcldlaaGreat
open Lib (hid)
open Go.Lib (decodeN)
theorem zar (n b0 b1 b2 b3:Nat) (h:b0=47):decodeN n b0 b1 b2 b3=(47,1):=by
 unfold decodeN;rw[if_pos (by omega),h]
theorem z8g (n b0 b1 b2 b3:Nat) (h:¬b0=47):¬(decodeN n b0 b1 b2 b3).1=47∧(2≤(decodeN n b0 b1 b2 b3).2→b1 / 64=2)∧(3≤(decodeN n b0 b1 b2 b3).2→b2 / 64=2)∧(4≤(decodeN n b0 b1 b2 b3).2→b3 / 64=2):=by
 unfold decodeN
 repeat' split
 all_goals (simp only;omega)
theorem z5q (l:List UInt8) (h:l.getD 0 0=47):decodeL l=(47,1):=zar _ _ _ _ _ (by rw[h];rfl)
theorem zj4 {b:UInt8} (h:¬b=47):¬b.toNat=47:=fun e=>h (UInt8.toNat_inj.1 e)
theorem z2m (l:List UInt8) (h:¬l.getD 0 0=47):¬(decodeL l).1=47∧∀b∈l.take (decodeL l).2,¬b=47:=by
 have hn:=z8g l.length (l.getD 0 0).toNat (l.getD 1 0).toNat (l.getD 2 0).toNat (l.getD 3 0).toNat (zj4 h);have hw:=z0t l;refine⟨hn.1,fun b hb e=>?_⟩;obtain⟨j,hj,rfl⟩:=List.getElem_of_mem hb;have hj1:j<(decodeL l).2∧j<l.length:=by rw[List.length_take] at hj;omega
 rw[List.getElem_take] at e;have hg:l.getD j 0=47:=by rw[List.getD_eq_getElem?_getD,List.getElem?_eq_getElem hj1.2];exact e
 have hd:(decodeL l).2=(decodeN l.length (l.getD 0 0).toNat (l.getD 1 0).toNat (l.getD 2 0).toNat (l.getD 3 0).toNat).2:=rfl;rw[←hd] at hn
 match j,hg,hj1 with
 | 0,hg,_=>exact h hg
 | 1,hg,hj1=>have:=hn.2.1 (by omega);rw[hg] at this;exact absurd this (by decide)
 | 2,hg,hj1=>have:=hn.2.2.1 (by omega);rw[hg] at this;exact absurd this (by decide)
 | 3,hg,hj1=>have:=hn.2.2.2 (by omega);rw[hg] at this;exact absurd this (by decide)
 | j+4,_,hj1=>omega
theorem zfm (bs:List UInt8):∀(r cur:List UInt8) (out:List (List UInt8)),(∀b∈bs,¬b=47)→scanP (bs++r) cur out=scanP r (cur++bs) out:=by
 induction bs with
 | nil=>intro r cur out _;simp
 | cons b bs ih=>
  intro r cur out h
  show scanP (b::(bs++r)) cur out=_;rw[z8f _ _ _ _ (h b (by simp)),ih r _ out (fun c hc=>h c (by simp[hc]))];simp
theorem zfn (l:List UInt8) (i j k:Nat) (hij:i≤j) (hj:j+k≤l.length):piece l i (j+k)=piece l i j++(l.drop j).take k:=by
 unfold piece;rw[List.take_add,List.drop_append_of_le_length (by rw[List.length_take];omega)]
theorem z9v (l t:List UInt8) (i j:Nat) (hj:j≤l.length):piece (l++t) i j=piece l i j:=by
 unfold piece;rw[List.take_append_of_le_length hj]
theorem zfo (t:List UInt8) (p j:Nat) (out:List (List UInt8)) (hpj:p≤j) (hj:j<t.length) (h:¬t.getD j 0=47):
  scanP (t.drop j) (piece t p j) out=scanP (t.drop (j+(decodeL (t.drop j)).2)) (piece t p (j+(decodeL (t.drop j)).2)) out:=by
 have hne:t.drop j≠[]:=by intro e;have:=congrArg List.length e;rw[List.length_drop] at this;simp at this;omega
 have hf:=z2q _ hne;rw[List.length_drop] at hf;have h0:¬(t.drop j).getD 0 0=47:=by simpa [List.getD_eq_getElem?_getD,List.getElem?_drop] using h
 have hs:=(z2m _ h0).2;rw[zfn t p j _ hpj (by omega),←zfm _ _ _ _ hs,←List.drop_drop,List.take_append_drop]
end Go.Proofs.YtmmpkfcdfcldlaaGreat
