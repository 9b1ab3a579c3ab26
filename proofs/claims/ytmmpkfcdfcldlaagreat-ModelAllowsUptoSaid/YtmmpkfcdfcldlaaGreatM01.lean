/- Parts of the proof, side by side: FsRead, Ext, FsRead2, FsRead3, MoFind, MoFind2, MoMade, FsBelow. -/
import Derived.Test.YtmmpkfcdfcldlaaGreatM00
import Derived.Lib.Hide
import Derived.WalkKit
import Derived.BigQuiet
import Derived.Deep.QuietTactic
import Derived.StillTailTactics
set_option linter.unusedVariables false
set_option linter.unusedSimpArgs false
namespace Go.Proofs.YtmmpkfcdfcldlaaGreat
open Lib (hid)
open Go.RowKit
theorem z1p (w:World) (A:Option Addr) (n c:Nat) (B:Option Addr) (m d:Nat) (D:Option Addr) (k e:Nat):∃W,w.alloc (.cells #[.slice A n c,.slice B m d,.slice D k e] 26)=W∧W.cell? ⟨w.heap.size,0,.none⟩=some (.slice A n c)∧W.cell? ⟨w.heap.size,1,.none⟩=some (.slice B m d)∧W.cell? ⟨w.heap.size,2,.none⟩=some (.slice D k e)∧Below w.heap.size w W∧w.heap.size<W.heap.size:=by
 refine⟨_,rfl,?_,?_,?_,(Below.refl _ _).alloc (Nat.le_refl _) _,by simp⟩
 ·exact(World.cell?_alloc_mark w _ _ (0,0) _).trans rfl
 ·exact(World.cell?_alloc_mark w _ _ (0,0) _).trans rfl
 ·exact(World.cell?_alloc_mark w _ _ (0,0) _).trans rfl
set_option maxHeartbeats 1000000 in
theorem z0o (v:Value) (s:St) (num:Int) (w:World) (h:StAt none w v s):
  Calls Tryz.prog 94 #[v,.int .i64 num] w fun e w'=>e=.returned (.int .i64 (atV s.inos num))∧Below w.heap.size w w':=by
 obtain⟨⟨A,n,c,B,m,d,D,k,e,rfl,hI,hD,hM,h5,h6,h7⟩,hz⟩:=h;obtain⟨R,hR⟩:∃R,atV s.inos num=R:=⟨_,rfl⟩;rw[hR];have hbig:=hz.big;have hn:=hI.1;have hn2:n≤1099511627776:=by omega
 obtain⟨W,hW,b0,b1,b2,hal,_⟩:=z1p w A n c B m d D k e;have HI:=hid (hI.below hal);have HR:=hid hR;have HAL:=hid hal;clear hI hD hM hz hR hbig hn b1 b2 hal
 go_enter Tryz.func94,Tryz.ntmps94
 go_wp2_with fail;clear hW
 go_loop [5] (fun i=>∃k:Nat,i=.int .i64 k∧k≤n∧atG (s.inos.drop k) num k=R) (fun i=>n-(intOf i).toNat)
 case atStart=>exact⟨0,rfl,by omega,HR.out⟩
 case round=>
  obtain⟨k,rfl,hk,hc⟩:=hrel
  by_cases hlt:k<n
  ·obtain⟨g,off,x,E,m2,d2,rfl,hg,hx,hd,hmem,c0,_,_,_,_,_⟩:=HI.out.get k hlt;rw[hd,atG] at hc
   by_cases hq:x.num=num
   ·rw[if_pos hq] at hc;subst hq;have Hc:=hid hc;clear hc hd hx hmem
    go_wp2
    go_ret;exact⟨Cv.ret_int Hc.out,HAL.out⟩
   ·rw[if_neg hq] at hc;have q:(x.num==num)=false:=by rw[beq_eq_false_iff_ne];exact hq
    have Hc:=hid hc;clear hc hd hx hmem
    go_wp2
    go_round
    case rel=>exact⟨k+1,by go_num,by omega,Hc.out⟩
    case measure=>simp[intOf];omega
  ·have:s.inos.drop k=[]:=List.drop_eq_nil_of_le (by have:=HI.out.1;omega);rw[this,atG] at hc;have Hc:=hid hc;clear hc this
   go_wp2
   go_ret;exact⟨Cv.ret_int Hc.out,HAL.out⟩
set_option maxHeartbeats 1000000 in
theorem z4o (v:Value) (s:St) (num:Int) (w:World) (h:StAt none w v s):
  Calls Tryz.prog 45 #[v,.int .i64 num] w fun e w'=>e=.returned (.bool (openB s.opn num))∧Below w.heap.size w w':=by
 obtain⟨⟨A,n,c,B,m,d,D,k,e,rfl,hI,hD,hM,h5,h6,h7⟩,hz⟩:=h;obtain⟨R,hR⟩:∃R,openB s.opn num=R:=⟨_,rfl⟩;rw[hR];have hbig:=hz.big;have hn:=hD.1;have hn2:m≤1099511627776:=by omega
 obtain⟨W,hW,b0,b1,b2,hal,_⟩:=z1p w A n c B m d D k e;have HD:=hid (hD.below hal);have HR:=hid hR;have HAL:=hid hal;clear hI hD hM hz hR hbig hn b0 b2 hal
 go_enter Tryz.func45,Tryz.ntmps45
 go_wp2_with fail;clear hW
 go_loop [5] (fun i=>∃k:Nat,i=.int .i64 k∧k≤m∧openB (s.opn.drop k) num=R) (fun i=>m-(intOf i).toNat)
 case atStart=>exact⟨0,rfl,by omega,HR.out⟩
 case round=>
  obtain⟨k,rfl,hk,hc⟩:=hrel
  by_cases hlt:k<m
  ·obtain⟨g,off,x,rfl,hg,hx,hd,hmem,_,_,c2⟩:=HD.out.get k hlt;rw[hd,openB] at hc
   by_cases hq:x.num=num
   ·rw[if_pos hq] at hc;subst hq;have Hc:=hid hc;clear hc hd hx hmem
    go_wp2
    go_ret;exact⟨Cv.ret_bool Hc.out,HAL.out⟩
   ·rw[if_neg hq] at hc;have q:(x.num==num)=false:=by rw[beq_eq_false_iff_ne];exact hq
    have Hc:=hid hc;clear hc hd hx hmem
    go_wp2
    go_round
    case rel=>exact⟨k+1,by go_num,by omega,Hc.out⟩
    case measure=>simp[intOf];omega
  ·have:s.opn.drop k=[]:=List.drop_eq_nil_of_le (by have:=HD.out.1;omega);rw[this,openB] at hc;have Hc:=hid hc;clear hc this
   go_wp2
   go_ret;exact⟨Cv.ret_bool Hc.out,HAL.out⟩
set_option maxHeartbeats 1000000 in
theorem z2k (v:Value) (s:St) (core fd:Int) (w:World) (h:StAt none w v s):
  Calls Tryz.prog 124 #[v,.int .i64 core,.int .i64 fd] w fun e w'=>e=.returned (.int .i64 (fdV s.opn core fd))∧Below w.heap.size w w':=by
 obtain⟨⟨A,n,c,B,m,d,D,k,e,rfl,hI,hD,hM,h5,h6,h7⟩,hz⟩:=h;obtain⟨R,hR⟩:∃R,fdV s.opn core fd=R:=⟨_,rfl⟩;rw[hR];have hbig:=hz.big;have hn:=hD.1;have hn2:m≤1099511627776:=by omega
 obtain⟨W,hW,b0,b1,b2,hal,_⟩:=z1p w A n c B m d D k e;have HD:=hid (hD.below hal);have HR:=hid hR;have HAL:=hid hal;clear hI hD hM hz hR hbig hn b0 b2 hal
 go_enter Tryz.func124,Tryz.ntmps124
 go_wp2_with fail;clear hW
 go_loop [7] (fun i=>∃k:Nat,i=.int .i64 k∧k≤m∧fdV (s.opn.drop k) core fd=R) (fun i=>m-(intOf i).toNat)
 case atStart=>exact⟨0,rfl,by omega,HR.out⟩
 case round=>
  obtain⟨k,rfl,hk,hc⟩:=hrel
  by_cases hlt:k<m
  ·obtain⟨g,off,x,rfl,hg,hx,hd,hmem,c0,c1,c2⟩:=HD.out.get k hlt;rw[hd,fdV] at hc
   by_cases hq1:x.core=core
   ·by_cases hq2:x.fd=fd
    ·rw[if_pos ⟨hq1,hq2⟩] at hc;subst hq1 hq2;have Hc:=hid hc;clear hc hd hx hmem
     go_wp2
     go_ret;exact⟨Cv.ret_int Hc.out,HAL.out⟩
    ·rw[if_neg (fun h=>hq2 h.2)] at hc;subst hq1;have q:(x.fd==fd)=false:=by rw[beq_eq_false_iff_ne];exact hq2
     have Hc:=hid hc;clear hc hd hx hmem
     go_wp2
     go_round
     case rel=>exact⟨k+1,by go_num,by omega,Hc.out⟩
     case measure=>simp[intOf];omega
   ·rw[if_neg (fun h=>hq1 h.1)] at hc;have q:(x.core==core)=false:=by rw[beq_eq_false_iff_ne];exact hq1
    have Hc:=hid hc;clear hc hd hx hmem
    go_wp2
    go_round
    case rel=>exact⟨k+1,by go_num,by omega,Hc.out⟩
    case measure=>simp[intOf];omega
  ·have:s.opn.drop k=[]:=List.drop_eq_nil_of_le (by have:=HD.out.1;omega);rw[this,fdV] at hc;have Hc:=hid hc;clear hc this
   go_wp2
   go_ret;exact⟨Cv.ret_int Hc.out,HAL.out⟩
structure Ext (W:World) where
 w:World
 bel:Below W.heap.size W w
instance extSome (W:World):Nonempty (Ext W):=⟨⟨W,Below.refl _ _⟩⟩
theorem Ext.cell {W:World} (x:Ext W) (p:Addr) (h:(W.cell? p).isSome=true):x.w.cell? p=W.cell? p:=by
 obtain⟨u,hu⟩:=Option.isSome_iff_exists.1 h;exact x.bel.cell (World.block_lt_of_cell? W p hu)
theorem zas {P:Program} {id:Nat} {Q:Exit→Act→World→Prop} {a:Act} {w:World} {l:List Oper} (hm:P.follows .mixedOrders=true) (hB:Region.lexB .any l.toArray=true)
  (h:wpQuiet P l.toArray (fun w'=>∃x:Ext w,w'=x.w) (fun a'=>∀w',(∃x:Ext w,w'=x.w)→Q .normal a' w') l a):(Code.region id l.toArray true).wp P Q a w:=
 wp_region_quiet (C:=fun w'=>∃x:Ext w,w'=x.w) hm hB ⟨⟨w.drew,Cv.drewN_below (Below.refl _ _) 1⟩,rfl⟩ (by simpa using h)
theorem wre {P:Program} {id:Nat} {Q:Exit→Act→World→Prop} {a:Act} {w:World} {l:List Oper}
  (h:wpQuiet P l.toArray (fun w'=>∃x:Ext w,w'=x.w) (fun a'=>∀w',(∃x:Ext w,w'=x.w)→Q .normal a' w') l a) (hm:P.follows .mixedOrders=true:=by kernel_rfl) (hB:Region.lexB .any l.toArray=true:=by kernel_rfl):(Code.region id l.toArray true).wp P Q a w:=
 zas hm hB h
theorem Calls.ext_of {P:Program} {f:FuncId} {args:Array Value} {W:World} {x:Ext W} {v:Value}
  (h:Calls P f args x.w fun e w'=>e=.returned v∧Below x.w.heap.size x.w w'):Calls P f args x.w fun e w''=>e=.returned v∧∃y:Ext W,w''=y.w:=
 h.mono fun _ w' ⟨he,hb⟩=>⟨he,⟨w',Cv.next x.bel hb⟩,rfl⟩
theorem Calls.ext_of_same {P:Program} {f:FuncId} {args:Array Value} {W:World} {x:Ext W} {v:Value}
  (h:Calls P f args x.w fun e w'=>e=.returned v∧x.w=w'):Calls P f args x.w fun e w''=>e=.returned v∧∃y:Ext W,w''=y.w:=
 h.mono fun _ w' ⟨he,hb⟩=>⟨he,x,hb.symm⟩
theorem z2w {P:Program} {ops:Array Oper} {w:World} {Q:Act→Prop}:∀(l:List Oper) (a:Act),wpQuiet P ops (fun w'=>w'=w) Q l a→wpStill P ops w Q l a
 | [],a,h=>h
 | o :: rest, a, h => by
  unfold wpQuiet at h;unfold wpStill
  split at h
  ·rename_i hw;rw[if_pos hw];obtain⟨v,h1,h2⟩:=h;have h3:=h1 w rfl;unfold Oper.quietAt at h3;unfold Oper.still;generalize (execOp a.eval o).run P w=r at h3 ⊢;have h4:=z2w rest _ h2;cases r with
   | ok n w' =>
    cases n<;>simp only[Oper.quietUpon] at h3
    case value u=>
     obtain⟨e1,e2⟩:=h3;subst e1 e2;exact⟨rfl,h4⟩
    case skip=>
     obtain⟨e1,e2⟩:=h3;subst e1 e2;exact⟨rfl,h4⟩
    case enter f args=>
     obtain⟨e1,hc⟩:=h3;subst e1;exact⟨rfl,v,hc,h4⟩
   | halt x w'=>simp only[Oper.quietUpon] at h3
  ·rename_i hw;rw[if_neg hw];exact z2w rest _ h
theorem z0q {P:Program} {id:Nat} {Q:Exit→Act→World→Prop} {a:Act} {w:World} {l:List Oper} (n:Nat) (hm:P.follows .mixedOrders=true) (hB:Region.lexTailB .any l.toArray n=true)
  (h:wpQuiet P l.toArray (fun w'=>w'=w.drew) (fun a'=>wpList P l.toArray Q (l.drop n) a' w.drew) (l.take n) a):(Code.region id l.toArray true).wp P Q a w:=
 wp_region_still_tail n hm hB (z2w _ _ h)
theorem z1d {a b:ByteArray} (h:a≠b):(a.toList==b.toList)=false:=by
 rw[beq_eq_false_iff_ne,ByteArray.toList_eq,ByteArray.toList_eq];intro e;apply h;cases a with|mk da=>cases b with|mk db=>exact congrArg ByteArray.mk (Array.toList_inj.1 e)
theorem z2g {a b:ByteArray} (h:a=b):(a.toList==b.toList)=true:=by rw[h];exact beq_self_eq_true _
theorem zbw:∀(es:List En) (num:Int),linkE es num≤es.length
 | [],_=>Nat.le_refl _
 | e::es,num=>by
  unfold linkE;have:=zbw es num;rw[List.length_cons]
  split<;>omega
theorem zbx:∀(is:List Ino) (num:Int),linkI is num≤bulkE is
 | [],_=>Nat.le_refl _
 | x::xs,num=>by
  unfold linkI;have:=zbx xs num;have h2:=zbw x.ents num
  show _≤x.ents.length+bulkE xs
  split<;>omega
set_option maxHeartbeats 2000000 in
theorem z2z (v:Value) (s:St) (num:Int) (w:World) (h:StAt none w v s):
  Calls Tryz.prog 24 #[v,.int .i64 num] w fun e w'=>e=.returned (.int .i64 (linkI s.inos num:Nat))∧Below w.heap.size w w':=by
 obtain⟨⟨A,n,c,B,m,d,D,k,e,rfl,hI,hD,hM,h5,h6,h7⟩,hz⟩:=h;have hll:=zbx s.inos num;obtain⟨R,hR⟩:∃R,linkI s.inos num=R:=⟨_,rfl⟩;rw[hR] at hll ⊢;have hbig:=hz.big;have hn:=hI.1;have hn2:n≤1099511627776:=by omega
 have hR2:R≤1099511627776:=by omega
 have hB2:bulkE s.inos≤1099511627776:=by omega
 obtain⟨W,hW,b0,b1,b2,hal,_⟩:=z1p w A n c B m d D k e;have HI:=hid (hI.below hal);have HR:=hid hR;have HAL:=hid hal;have HB2:=hid hB2;clear hI hD hM hz hR hbig hn b1 b2 hal hll hB2
 go_enter Tryz.func24,Tryz.ntmps24
 go_wp2_with fail;clear hW
 go_loop [5,6,7] (fun many i _=>∃k q:Nat,i=.int .i64 k∧many=.int .i64 q∧k≤n∧q+linkI (s.inos.drop k) num=R) (fun _ i _=>n-(intOf i).toNat)
 case atStart=>exact⟨0,0,rfl,rfl,by omega,by rw[List.drop_zero,Nat.zero_add];exact HR.out⟩
 case round =>
  obtain⟨k,q,rfl,rfl,hk,hc⟩:=hrel
  by_cases hlt:k<n
  ·obtain⟨g,off,x,E,m2,d2,rfl,hg,hx,hd,hmem,_,c1,c2,hmd,hE,_⟩:=HI.out.get k hlt;rw[hd,linkI] at hc;have hle:=z0s hx;have hm2:m2≤1099511627776:=by have:=hE.1;have:=HB2.out;omega
   obtain⟨T,hT⟩:∃T,linkI (List.drop (k+1) s.inos) num=T:=⟨_,rfl⟩;rw[hT] at hc;have HC:=hid hc;have HT:=hid hT;have HE:=hid hE;clear hc hT hE hd hx hmem hle
   by_cases hdir:x.dir=true
   ·rw [hdir] at c1
    go_wp2
    go_loop [5,7] (fun many j=>∃i q:Nat,j=.int .i64 i∧many=.int .i64 q∧i≤m2∧q+linkE (x.ents.drop i) num+T=R) (fun _ j=>m2-(intOf j).toNat)
    case atStart=>exact⟨0,q,rfl,rfl,by omega,by have:=HC.out;rw[if_pos hdir] at this;rw[List.drop_zero];omega⟩
    case round=>
     obtain⟨i,q2,rfl,rfl,hi,hc⟩:=hrel
     by_cases hlt2:i<m2
     ·obtain⟨g2,off2,y,rfl,hg2,hy,hd2,_,e0,e1⟩:=HE.out.get i hlt2;rw[hd2,linkE] at hc
      by_cases hq:y.num=num
      ·rw[if_pos hq] at hc;subst hq;have HC2:=hid hc;have hq2:q2≤1099511627776:=by omega
       clear hc hd2 hy e0
       go_wp2
       go_round
       case rel=>exact⟨i+1,q2+1,by go_num,by go_num,by omega,by have:=HC2.out;omega⟩
       case measure=>simp[intOf];omega
      ·rw[if_neg hq] at hc;have qn:(y.num==num)=false:=by rw[beq_eq_false_iff_ne];exact hq
       have HC2:=hid hc;clear hc hd2 hy e0
       go_wp2
       go_round
       case rel=>exact⟨i+1,q2,by go_num,rfl,by omega,by have:=HC2.out;omega⟩
       case measure=>simp[intOf];omega
     ·have:x.ents.drop i=[]:=List.drop_eq_nil_of_le (by have:=HE.out.1;omega);rw[this,linkE] at hc;have HC2:=hid hc;clear hc this
      go_wp2
      go_round
      case rel=>exact⟨k+1,q2,by go_num,rfl,by omega,by rw[HT.out];exact HC2.out⟩
      case measure=>simp[intOf];omega
   ·have hdir2:x.dir=false:=by simpa using hdir
    rw[hdir2] at c1
    go_wp2
    go_loop [5,7] (fun many j=>j=.int .i64 0∧many=.int .i64 q) (fun _ j=>0)
    case atStart=>exact⟨rfl,rfl⟩
    case round=>
     obtain⟨rfl,rfl⟩:=hrel
     by_cases hlt2:0<m2
     ·go_wp2
      go_round
      case rel=>exact⟨k+1,q,by go_num,rfl,by omega,by have:=HC.out;rw[if_neg (by rw[hdir2];simp)] at this;rw[HT.out];omega⟩
      case measure=>simp[intOf];omega
     ·have hm0:m2=0:=by omega
      subst hm0
      go_wp2
      go_round
      case rel=>exact⟨k+1,q,by go_num,rfl,by omega,by have:=HC.out;rw[if_neg (by rw[hdir2];simp)] at this;rw[HT.out];omega⟩
      case measure=>simp[intOf];omega
  ·have:s.inos.drop k=[]:=List.drop_eq_nil_of_le (by have:=HI.out.1;omega);rw[this,linkI] at hc;have Hc:=hid hc;clear hc this
   go_wp2
   go_ret;exact⟨Cv.ret_int (by have:=Hc.out;omega),HAL.out⟩
theorem StAt.of_parts {lo:Option Nat} {w:World} {A:Option Addr} {n c:Nat} {B:Option Addr} {m d:Nat} {D:Option Addr} {k e:Nat} {s:St} (h1:InosAt lo w A n s.inos) (h2:DescsAt lo w B m s.opn) (h3:IntsAt lo w D k s.made) (h5:SlOk A n c) (h6:SlOk B m d) (h7:SlOk D k e) (hz:Sized s):
  StAt lo w (.agg #[.slice A n c,.slice B m d,.slice D k e]) s:=⟨⟨A,n,c,B,m,d,D,k,e,rfl,h1,h2,h3,h5,h6,h7⟩,hz⟩
set_option maxHeartbeats 2000000 in
theorem z1q (v:Value) (s:St) (dir:Int) (name:ByteArray) (w:World) (h:StAt none w v s):
  Calls Tryz.prog 103 #[v,.int .i64 dir,.string name] w fun e w'=>e=.returned (.int .i64 (entV s.inos dir name))∧Below w.heap.size w w':=by
 obtain⟨⟨A,n,c,B,m,d,D,k,e,rfl,hI,hD,hM,h5,h6,h7⟩,hz⟩:=h;obtain⟨R,hR⟩:∃R,entV s.inos dir name=R:=⟨_,rfl⟩;rw[hR];have hbig:=hz.big;have hn:=hI.1;have hn2:n≤1099511627776:=by omega
 obtain⟨W,hW,b0,b1,b2,hal,hlt0⟩:=z1p w A n c B m d D k e;have HS:=hid ((StAt.of_parts hI hD hM h5 h6 h7 hz).below hal);have HI:=hid (hI.below hal);have HAL:=hid hal;have HB2:Hid (bulkE s.inos≤1099511627776):=hid (by omega);rw[entV] at hR;have HR:=hid hR;clear hI hD hM hz hbig hn hal hR
 go_enter Tryz.func103,Tryz.ntmps103
 go_wp2_with fail;refine(z0o _ s dir _ HS.out).mono ?_;rintro e w1 ⟨rfl,hb1⟩;have b3:=(hb1.cell (p:=⟨w.heap.size,0,.none⟩) hlt0).trans b0;have HI1:=hid (HI.out.below hb1);have HB1:=hid hb1;clear hW b0 b1 b2 hb1 HI
 rcases z0u s.inos dir with⟨hat,_⟩|⟨i,x,hat,hx,_,_⟩
 ·rw[hat];have hr:=HR.out;rw[hat] at hr;have HR2:=hid (show(0:Int)=R from hr);clear hr hat
  go_wp2
  go_ret;exact⟨Cv.ret_int HR2.out,Cv.next HAL.out HB1.out⟩
 ·rw [hat];have hr := HR.out;rw [hat, z0c, hx] at hr;simp only at hr;have hin : i < n := by have := (List.getElem?_eq_some_iff.1 hx).1; have := HI1.out.1; omega
  obtain⟨g,off,x',E,m2,d2,rfl,hg,hx',hd,hmem,_,c1,c2,hmd,hE,_⟩:=HI1.out.get i hin;have ex:x=x':=by rw[hx] at hx';exact Option.some.inj hx'
  subst ex;have hle:=z0s hx;have hm2:m2≤1099511627776:=by have:=hE.1;have:=HB2.out;omega
  have HR2:=hid hr;have HE:=hid hE;have q0:decide ((i:Int)<0)=false:=by simp
  clear hr hat hx hx' hd hmem hle hE c1;go_wp2_with fail
  go_loop [8] (fun j=>∃k:Nat,j=.int .i64 k∧k≤m2∧entG (x.ents.drop k) name=R) (fun j=>m2-(intOf j).toNat)
  case atStart=>exact⟨0,rfl,by omega,HR2.out⟩
  case round=>
   obtain⟨k,rfl,hk,hc⟩:=hrel
   by_cases hlt:k<m2
   ·obtain⟨g2,off2,y,rfl,hg2,hy,hd2,_,e0,e1⟩:=HE.out.get k hlt;rw[hd2,entG] at hc
    by_cases hq:y.name=name
    ·rw[if_pos hq] at hc;subst hq;have Hc:=hid hc;clear hc hd2 hy
     go_wp2
     go_ret;exact⟨Cv.ret_int Hc.out,Cv.next HAL.out HB1.out⟩
    ·rw[if_neg hq] at hc;have q:(y.name.toList==name.toList)=false:=z1d hq;have Hc:=hid hc;clear hc hd2 hy
     go_wp2
     go_round
     case rel=>exact⟨k+1,by go_num,by omega,Hc.out⟩
     case measure=>simp[intOf];omega
   ·have:x.ents.drop k=[]:=List.drop_eq_nil_of_le (by have:=HE.out.1;omega);rw[this,entG] at hc;have Hc:=hid hc;clear hc this
    go_wp2
    go_ret;exact⟨Cv.ret_int Hc.out,Cv.next HAL.out HB1.out⟩
set_option maxHeartbeats 1000000 in
theorem z0l (v:Value) (s:St) (num:Int) (w:World) (h:StAt none w v s) (hn1: -9223372036854775808≤num) (hn2:num≤9223372036854775807):
  Calls Tryz.prog 43 #[v,.int .i64 num] w fun e w'=>e=.returned (.bool (givenV s.made num))∧Below w.heap.size w w':=by
 obtain⟨⟨A,n,c,B,m,d,D,k,e,rfl,hI,hD,hM,h5,h6,h7⟩,hz⟩:=h;obtain⟨R,hR⟩:∃R,givenV s.made num=R:=⟨_,rfl⟩;rw[hR];unfold givenV at hR;have hbig:=hz.big;have hn:=hM.1;have hk2:k≤1099511627776:=by omega
 obtain⟨W,hW,b0,b1,b2,hal,_⟩:=z1p w A n c B m d D k e;have HM:=hid (hM.below hal);have HAL:=hid hal;have HR:=hid hR;clear hI hD hM hz hR hbig hn b0 b1 hal
 go_enter Tryz.func43,Tryz.ntmps43
 by_cases h2:num<2
 ·have hr:=HR.out;rw[if_pos h2] at hr;have HR2:=hid hr;clear hr;go_wp2_with fail;go_ret;exact⟨Cv.ret_bool HR2.out,HAL.out⟩
 ·have hr:=HR.out;rw[if_neg h2] at hr;obtain⟨N,rfl⟩:∃N:Nat,num=(N:Int)+2:=⟨(num-2).toNat,by omega⟩;obtain⟨C,hC⟩:∃C:Nat,N%8=C:=⟨_,rfl⟩;obtain⟨Q,hQ⟩:∃Q:Nat,N / 8=Q:=⟨_,rfl⟩;have e0:(N:Int)+2-2=(N:Int):=by omega
  have e1:(N:Int)%8=(C:Int):=by omega
  have e2:(N:Int) / 8=(Q:Int):=by omega
  rw[e0,e1,e2,Int.toNat_natCast] at hr;have t1:(N:Int).tmod 8=(C:Int):=by rw[←hC];rfl
  have t2:(N:Int).tdiv 8=(Q:Int):=by rw[←hQ];rfl
  have q0:decide ((N:Int)+2<2)=false:=by simp;omega
  have hN:N≤9223372036854775805:=by omega
  have hC7:C<8:=by omega
  have hQ2:Q≤9223372036854775805:=by omega
  have w1:IntKind.i64.wrap (N:Int)=(N:Int):=by rw[IntKind.wrap_i64];omega
  have w2:IntKind.i64.wrap ((N:Int)+2-2)=(N:Int):=by rw[e0,w1]
  clear h2 hn1 hn2 e1 e2 hC hQ HR
  by_cases hlt:C<k
  ·obtain⟨g,off,x,rfl,hg,hx,hd,hmem,c0⟩:=HM.out.get C hlt;have hkm:=HM.out.1;have hgd:s.made.getD C 0=x:=by rw[List.getD_eq_getElem?_getD,hx];rfl
   rw[hgd] at hr;have HR2:=hid hr;clear hr hd hmem hx hgd;go_wp2_with fail;go_ret;refine⟨Cv.ret_bool ?_,HAL.out⟩;rw[←HR2.out,decide_eq_true (show(C:Int)<(s.made.length:Int) by omega)]
   rfl
  ·have hkm:=HM.out.1;have q1:decide ((C:Int)<(k:Int))=false:=by simp;omega
   have HR2:=hid hr;clear hr;go_wp2_with fail;go_ret;refine⟨Cv.ret_bool ?_,HAL.out⟩;rw[←HR2.out,decide_eq_false (show ¬(C:Int)<(s.made.length:Int) by omega)]
   rfl
def RiseI (is:List Ino):Prop:=∀(i j:Nat) (x y:Ino),i<j→is[i]? =some x→is[j]? =some y→x.num<y.num
structure PtrAt (w:World) (p:Nat) (s:St):Prop where
 at_:∃A n c E m d D k e,w.heap[p]? =some (.cells #[.slice A n c,.slice E m d,.slice D k e] 26 (0,0))∧InosAt none w A n s.inos∧DescsAt none w E m s.opn∧IntsAt none w D k s.made∧SlOk A n c∧SlOk E m d∧SlOk D k e
 sized:Sized s
theorem PtrAt.below {w w':World} {p:Nat} {s:St} (h:PtrAt w p s) (hb:Below w.heap.size w w'):PtrAt w' p s:=by
 obtain⟨⟨A,n,c,E,m,d,D,k,e,h1,h2,h3,h4,h5,h6,h7⟩,hz⟩:=h;exact⟨⟨A,n,c,E,m,d,D,k,e,(hb.block p (Array.getElem?_eq_some_iff.1 h1).1).trans h1,h2.below hb,h3.below hb,h4.below hb,h5,h6,h7⟩,hz⟩
theorem zek {is:List Ino} {num:Int} (h:∀x∈is,x.num≠num):atV is num=-1:=by
 rcases z0u is num with⟨h1,_⟩|⟨k,x,_,h2,h3,_⟩
 ·exact h1
 ·exact absurd h3 (h x (List.mem_of_getElem? h2))
theorem z1j {is:List Ino} {num:Int} {j:Nat} {x:Ino} (hr:RiseI is) (hx:is[j]? =some x) (hn:x.num=num):atV is num=(j:Int):=by
 rcases z0u is num with⟨h1,h2⟩|⟨k,y,h1,h2,h3,_⟩
 ·exact absurd hn (h2 x (List.mem_of_getElem? hx))
 ·rw[h1]
  by_cases e1:k<j
  ·have:=hr k j y x e1 h2 hx;omega
  ·by_cases e2:j<k
   ·have:=hr j k x y e2 hx h2;omega
   ·congr 1;omega
def cmpI (a b:Int):Int:=if a<b then -1 else if b<a then 1 else 0
theorem zhh (x1 x2 x3 x4:Value) (num a:Int) (w:World) (h1:x1=.int .i64 a):
  Calls Tryz.prog 136 #[.agg #[x1,x2,x3,x4],.int .i64 num] w fun e w'=>e=.returned (.int .i64 (cmpI a num))∧Below w.heap.size w w':=by
 subst h1
 go_enter Tryz.func136,Tryz.ntmps136
 unfold cmpI
 by_cases h1:a<num
 ·rw[if_pos h1];have q1:decide (a<num)=true:=decide_eq_true h1;go_wp2_with fail;go_ret;exact⟨rfl,(Below.refl _ _).alloc (Nat.le_refl _) _⟩
 ·have q1:decide (a<num)=false:=decide_eq_false h1;rw[if_neg h1]
  by_cases h2:num<a
  ·rw[if_pos h2];have q2:decide (num<a)=true:=decide_eq_true h2;go_wp2_with fail;go_ret;exact⟨rfl,(Below.refl _ _).alloc (Nat.le_refl _) _⟩
  ·rw[if_neg h2];have q2:decide (num<a)=false:=decide_eq_false h2;go_wp2_with fail;go_ret;exact⟨rfl,(Below.refl _ _).alloc (Nat.le_refl _) _⟩
set_option maxRecDepth 100000 in
set_option maxHeartbeats 4000000 in
theorem zde (is:List Ino) (A:Option Addr) (n c:Nat) (num:Int) (w:World) (hI:InosAt none w A n is) (hn:n≤1099511627776) (hr:RiseI is):
  Calls Tryz.prog 109 #[.slice A n c,.int .i64 num,.func (.func 136) #[] #[]] w fun e w'=>∃i b,e=.returned (.tuple #[.int .i64 (i:Nat),.bool b])∧Below w.heap.size w w'∧atV is num=if b then(i:Int) else -1:=by
 have HI:=hid hI
 go_enter Tryz.func109,Tryz.ntmps109
 clear hI;go_wp2_with fail
 go_loopw [9,10] (fun iv jv wr=>∃i j:Nat,iv=.int .i64 i∧jv=.int .i64 j∧i≤j∧j≤n∧(∀(k:Nat) (x:Ino),k<i→is[k]? =some x→x.num<num)∧(∀(k:Nat) (x:Ino),j≤k→is[k]? =some x→num≤x.num)∧Below w.heap.size w wr) (fun iv jv _=>(intOf jv).toNat-(intOf iv).toNat)
 case atStart=>exact⟨0,n,rfl,rfl,by omega,by omega,fun k x hk=>by omega,fun k x hk hx=>by have:=(List.getElem?_eq_some_iff.1 hx).1;have:=HI.out.1;omega,Below.refl _ _⟩
 case round =>
  obtain⟨i,j,rfl,rfl,hij,hjn,hlo,hhi,hbel⟩:=hrel;have HB:=hid hbel;have HIr:=hid (HI.out.below hbel);have HLO:=hid hlo;have HHI:=hid hhi;clear hbel hlo hhi
  by_cases hlt:i<j
  ·obtain⟨h,hh⟩:∃h,(i+j) / 2=h:=⟨_,rfl⟩;have hh1:i≤h:=by omega
   have hh2:h<j:=by omega
   obtain⟨g,off,x,E,m,d,rfl,hg,hx,hd,hmem,c0,c1,c2,c3,hok,hE⟩:=HIr.out.get h (by omega);have HHH:=hid hh;have hx2:is[h]? =some x:=hx;have HX:=hid hx2;have HRR:=hid hr;have HHH2:Hid (h<j):=hid hh2;clear hx2;go_wp2_with fail;refine(zhh _ _ _ _ num x.num _ rfl).mono ?_;rintro e5 w5 ⟨rfl,hb5⟩;have e2:((i:Int)+(j:Int)) / 2=(h:Int):=by have:=HHH.out;omega
   rw[e2];have HB5:=hid (HB.out.trans (hb5.mono HB.out.size));clear hb5 c0 c1 c2 c3
   by_cases hc:x.num<num
   ·have q1:cmpI x.num num=-1:=by unfold cmpI;rw[if_pos hc]
    rw[q1];clear q1;go_wp2_with fail;go_roundw
    case rel=>exact⟨h+1,j,by go_num,rfl,by omega,hjn,fun k y hk hy=>by
     by_cases e:k=h
     ·subst e;have:=HX.out;rw[hy] at this;cases this;exact hc
     ·have:=HRR.out k h y x (by omega) hy HX.out;omega,HHI.out,HB5.out⟩
    case measure=>simp[intOf];omega
   ·have q1:decide (cmpI x.num num<0)=false:=by unfold cmpI;rw[if_neg hc];split<;>rfl
    go_wp2_with fail;go_roundw
    case rel=>exact⟨i,h,rfl,rfl,hh1,by omega,HLO.out,fun k y hk hy=>by
     by_cases e:k=h
     ·subst e;have:=HX.out;rw[hy] at this;cases this;omega
     ·have:=HRR.out h k x y (by omega) HX.out hy;omega,HB5.out⟩
    case measure=>simp[intOf];omega
  ·have eij:j=i:=by omega
   subst eij
   by_cases hin:j<n
   ·obtain⟨g,off,x,E,m,d,rfl,hg,hx,hd,hmem,c0,c1,c2,c3,hok,hE⟩:=HIr.out.get j hin;have HX:=hid hx;have HRR:=hid hr;go_wp2_with fail;refine(zhh _ _ _ _ num x.num _ rfl).mono ?_;rintro e5 w5 ⟨rfl,hb5⟩;have HB5:=hid (HB.out.trans (hb5.mono HB.out.size));clear hb5 c0 c1 c2 c3
    by_cases hc:x.num=num
    ·have q1:cmpI x.num num=0:=by unfold cmpI;rw[if_neg (by omega),if_neg (by omega)]
     rw[q1];clear q1;go_wp2_with fail;go_ret2;refine⟨j,true,rfl,HB5.out,?_⟩;rw[if_pos rfl];exact z1j HRR.out HX.out hc
    ·have q1:(cmpI x.num num==0)=false:=by unfold cmpI;rw[beq_eq_false_iff_ne];split;omega;split<;>omega
     go_wp2_with fail;go_ret2;refine⟨j,false,rfl,HB5.out,?_⟩;rw[if_neg (by decide)];refine zek fun y hy=>?_
     obtain⟨k,hk⟩:=List.getElem?_of_mem hy
     by_cases e1:k<j
     ·have:=HLO.out k y e1 hk;omega
     ·by_cases e2:k=j
      ·subst e2;have:=HX.out;rw[hk] at this;cases this;exact hc
      ·have h1:=HRR.out j k x y (by omega) HX.out hk;have h2:=HHI.out j x (by omega) HX.out;omega
   ·have q1:decide ((j:Int)<(n:Int))=false:=by rw[decide_eq_false_iff_not];omega
    clear hlt;go_wp2_with fail;go_ret2;refine⟨j,false,rfl,HB.out,?_⟩;rw[if_neg (by decide)];refine zek fun y hy=>?_
    obtain⟨k,hk⟩:=List.getElem?_of_mem hy;have h1:=(List.getElem?_eq_some_iff.1 hk).1;have h2:=HIr.out.1;have:=HLO.out k y (by omega) hk;omega
theorem PtrAt.val {w:World} {p:Nat} {s:St} (h:PtrAt w p s):∃A n c E m d D k e,p<w.heap.size∧w.cell? ⟨p,0,none⟩=some (.slice A n c)∧w.cell? ⟨p,1,none⟩=some (.slice E m d)∧w.cell? ⟨p,2,none⟩=some (.slice D k e)∧
  InosAt none w A n s.inos∧DescsAt none w E m s.opn∧IntsAt none w D k s.made∧n≤1099511627776∧m≤1099511627776∧k≤1099511627776:=by
 obtain⟨⟨A,n,c,E,m,d,D,k,e,h1,h2,h3,h4,h5,h6,h7⟩,hz⟩:=h;have hbig:=hz.big;have l1:=h2.1;have l2:=h3.1;have l3:=h4.1;refine⟨A,n,c,E,m,d,D,k,e,(Array.getElem?_eq_some_iff.1 h1).1,?_,?_,?_,h2,h3,h4,by omega,by omega,by omega⟩<;>(rw[cell_of_row w p _ _ _ (0,0) h1];rfl)
set_option maxRecDepth 100000 in
set_option maxHeartbeats 4000000 in
theorem z1r (p:Nat) (s:St) (num:Int) (w:World) (h:PtrAt w p s) (hr:RiseI s.inos):
  Calls Tryz.prog 92 #[.pointer (some ⟨p,0,.none⟩),.int .i64 num] w fun e w'=>e=.returned (.int .i64 (atV s.inos num))∧Below w.heap.size w w':=by
 obtain⟨A,n,c,E,m,d,D,k,e,hp,c0,c1,c2,hI,hD,hM,hn,_,_⟩:=h.val;obtain⟨R,hR⟩:∃R,atV s.inos num=R:=⟨_,rfl⟩;rw[hR]
 go_enter Tryz.func92,Tryz.ntmps92
 go_wp2_with fail;refine(zde s.inos A n c num w hI hn hr).mono ?_;rintro e1 w1 ⟨i,b,rfl,hb,hat⟩;rw[hR] at hat;cases b
 ·rw[if_neg (by decide)] at hat;subst hat;go_wp2_with fail;go_ret;exact⟨rfl,hb⟩
 ·rw[if_pos rfl] at hat;subst hat;go_wp2_with fail;go_ret;exact⟨rfl,hb⟩
theorem zhi (x:Int) (w:World):Calls Tryz.prog 89 #[.int .i64 x] w fun e w'=>e=.returned (.bool (decide (x<0)||decide (32<x)))∧w=w':=by
 go_enter Tryz.func89,Tryz.ntmps89
 by_cases h1:x<0
 ·have q1:decide (x<0)=true:=decide_eq_true h1;go_wp2_with fail;go_ret;exact⟨by rw[q1];rfl,rfl⟩
 ·have q1:decide (x<0)=false:=decide_eq_false h1;go_wp2_with fail;go_ret;exact⟨by first|rfl|(rw[q1];rfl),rfl⟩
set_option maxRecDepth 100000 in
set_option maxHeartbeats 4000000 in
theorem zat (xs:List Int) (A:Option Addr) (n c:Nat) (w:World) (hI:IntsAt none w A n xs) (hn:n≤1099511627776):
  Calls Tryz.prog 131 #[.slice A n c,.func (.func 89) #[] #[]] w fun e w'=>∃r:Int,e=.returned (.int .i64 r)∧w=w'∧(madeG xs=decide (r<0)):=by
 obtain⟨R,hR⟩:∃R,madeG xs=R:=⟨_,rfl⟩;rw[hR];have HI:=hid hI;have HR:=hid hR;clear hI hR
 go_enter Tryz.func131,Tryz.ntmps131
 go_wp2_with fail
 go_loop [8] (fun j=>∃q:Nat,j=.int .i64 q∧q≤n∧madeG (xs.drop q)=R) (fun j=>n-(intOf j).toNat)
 case atStart=>exact⟨0,rfl,by omega,HR.out⟩
 case round=>
  obtain⟨q,rfl,hq,hc⟩:=hrel
  by_cases hlt:q<n
  ·obtain⟨g,off,x,rfl,hg,hx,hd,hmem,c0⟩:=HI.out.get q hlt;rw[hd,madeG] at hc;have HC:=hid hc;have k0:(0:Int)≤(q:Int):=by omega
   clear hc hd hmem hx;go_wp2_with fail;refine(zhi x _).mono ?_;rintro e5 w5 ⟨rfl,rfl⟩;obtain⟨bb,hbb⟩:∃bb,(decide (x<0)||decide (32<x))=bb:=⟨_,rfl⟩;rw[hbb];have hc:=HC.out;cases bb
   ·have hnx:¬(x<0∨32<x):=by
     rw[Bool.or_eq_false_iff,decide_eq_false_iff_not,decide_eq_false_iff_not] at hbb;omega
    rw[if_neg hnx] at hc;have HC2:=hid hc;clear hc hbb;go_wp2_with fail
    go_round
    case rel=>exact⟨q+1,by go_num,by omega,HC2.out⟩
    case measure=>simp[intOf];omega
   ·have hnx:x<0∨32<x:=by
     rw[Bool.or_eq_true,decide_eq_true_eq,decide_eq_true_eq] at hbb;exact hbb
    rw[if_pos hnx] at hc;have HC2:=hid hc;clear hc hbb;go_wp2_with fail;go_ret;refine⟨(q:Int),rfl,rfl,?_⟩;rw[←HC2.out,decide_eq_false (show ¬(q:Int)<0 by omega)]
  ·have hnil:xs.drop q=[]:=List.drop_eq_nil_of_le (by have:=HI.out.1;omega);rw[hnil,madeG] at hc;have HC:=hid hc;clear hc hnil;go_wp2_with fail;go_ret;exact⟨-1,rfl,rfl,HC.out.symm⟩
theorem z7n (xs:List Int) (A:Option Addr) (n c:Nat) (w:World) (hI:IntsAt none w A n xs) (hn:n≤1099511627776):
  Calls Tryz.prog 88 #[.slice A n c,.func (.func 89) #[] #[]] w fun e w'=>e=.returned (.bool (!madeG xs))∧w=w':=by
 go_enter Tryz.func88,Tryz.ntmps88
 go_wp2_with fail;refine(zat xs A n c w hI hn).mono ?_;rintro e5 w5 ⟨r,rfl,rfl,hr⟩
 by_cases h0:0≤r
 ·have q0:decide ((0:Int)≤r)=true:=decide_eq_true h0;go_wp2_with fail;go_ret;exact⟨by rw[hr,decide_eq_false (by omega)];rfl,rfl⟩
 ·have q0:decide ((0:Int)≤r)=false:=decide_eq_false h0;go_wp2_with fail;go_ret;exact⟨by rw[hr,decide_eq_true (by omega)];rfl,rfl⟩
def mMadeV (s:St):Bool:=decide (1≤s.made.length)&&decide (s.made.length≤8)&&madeG s.made
set_option maxRecDepth 100000 in
set_option maxHeartbeats 4000000 in
theorem zdf (p:Nat) (s:St) (w:World) (h:PtrAt w p s):
  Calls Tryz.prog 36 #[.pointer (some ⟨p,0,.none⟩)] w fun e w'=>e=.returned (.bool (mMadeV s))∧w=w':=by
 obtain⟨A,n,c,E,m,d,D,k,e,hp,c0,c1,c2,hI,hD,hM,hn,_,hk⟩:=h.val;have hkl:=hM.1
 go_enter Tryz.func36,Tryz.ntmps36
 unfold mMadeV
 by_cases h1:1≤k
 ·by_cases h8:k≤8
  ·have q1:decide ((k:Int)<1)=false:=by rw[decide_eq_false_iff_not];omega
   have q8:decide ((8:Int)<(k:Int))=false:=by rw[decide_eq_false_iff_not];omega
   go_wp2_with fail;refine(z7n s.made D k e _ hM hk).mono ?_;rintro e5 w5 ⟨rfl,rfl⟩;go_wp2_with fail;go_ret;exact⟨by rw[decide_eq_true (show 1≤s.made.length by omega),decide_eq_true (show s.made.length≤8 by omega)];simp,rfl⟩
  ·have q1:decide ((k:Int)<1)=false:=by rw[decide_eq_false_iff_not];omega
   have q8:decide ((8:Int)<(k:Int))=true:=by rw[decide_eq_true_eq];omega
   go_wp2_with fail;go_ret;exact⟨by rw[decide_eq_false (show ¬s.made.length≤8 by omega)];simp,rfl⟩
 ·have q1:decide ((k:Int)<1)=true:=by rw[decide_eq_true_eq];omega
  go_wp2_with fail;go_ret;exact⟨by rw[decide_eq_false (show ¬1≤s.made.length by omega)];simp,rfl⟩
theorem zjf (num:Int) (h1: -9223372036854775808≤num) (h2:num≤9223372036854775807) (w:World):
  Calls Tryz.prog 132 #[.int .i64 num] w fun e w'=>e=.returned (.int .i64 (if num<2 then -1 else(num-2)%8))∧w=w':=by
 go_enter Tryz.func132,Tryz.ntmps132
 by_cases h:num<2
 ·have q:decide (num<2)=true:=decide_eq_true h;rw[if_pos h];go_wp2_with fail;go_ret;exact⟨rfl,rfl⟩
 ·have q:decide (num<2)=false:=decide_eq_false h;rw[if_neg h];have e1:(num-2).tmod 8=(num-2)%8:=Int.tmod_eq_emod_of_nonneg (by omega);have w1:IntKind.i64.wrap (num-2)=num-2:=by rw[IntKind.wrap_i64];omega
  have w2:IntKind.i64.wrap ((num-2)%8)=(num-2)%8:=by rw[IntKind.wrap_i64];omega
  go_wp2_with fail;go_ret;exact⟨rfl,rfl⟩
theorem zjg (num:Int) (h1:2≤num) (h2:num≤9223372036854775807) (w:World):
  Calls Tryz.prog 133 #[.int .i64 num] w fun e w'=>e=.returned (.int .i64 ((num-2) / 8))∧w=w':=by
 go_enter Tryz.func133,Tryz.ntmps133
 have e1:(num-2).tdiv 8=(num-2) / 8:=Int.tdiv_eq_ediv_of_nonneg (by omega);have w1:IntKind.i64.wrap (num-2)=num-2:=by rw[IntKind.wrap_i64];omega
 have w2:IntKind.i64.wrap ((num-2) / 8)=(num-2) / 8:=by rw[IntKind.wrap_i64];omega
 go_wp2_with fail;go_ret;exact⟨rfl,rfl⟩
theorem z5w (s:ByteArray) (k:Nat) (h:k<s.size):s.data.toList.drop k=s[k]::s.data.toList.drop (k+1):=by
 rw[List.drop_eq_getElem_cons (by simpa using h)]
 rfl
theorem zau (s:ByteArray) (k:Nat) (h:¬k<s.size):s.data.toList.drop k=[]:=List.drop_eq_nil_of_le (by
 have:s.data.toList.length=s.size:=rfl;omega)
set_option maxHeartbeats 2000000 in
theorem z5g (a b:ByteArray) (w:World) (ha:a.size≤140737488355328) (hb:b.size≤140737488355328):
  Calls Tryz.prog 96 #[.string a,.string b] w fun e w'=>e=.returned (.bool (ltN a b))∧∃q,w'=w.drewN q:=by
 obtain⟨R,hR⟩:∃R,ltN a b=R:=⟨_,rfl⟩;rw[hR];unfold ltN at hR;have HR:=hid hR;clear hR
 go_enter Tryz.func96,Tryz.ntmps96
 go_wp2_with fail
 go_loopw [5] (fun i wr=>∃k q:Nat,i=.int .i64 k∧k≤a.size∧k≤b.size∧wr=w.drewN q∧ltB (a.data.toList.drop k) (b.data.toList.drop k)=R) (fun i _=>a.size-(intOf i).toNat)
 case atStart=>exact⟨0,0,rfl,by omega,by omega,rfl,HR.out⟩
 case round=>
  obtain⟨k,q,rfl,hka,hkb,rfl,hc⟩:=hrel
  by_cases hla:k<a.size
  ·by_cases hlb:k<b.size
   ·rw[z5w a k hla,z5w b k hlb,ltB] at hc;have k0:(0:Int)≤(k:Int):=by omega
    have k1:(k:Int)<(a.size:Int):=by omega
    have k2:(k:Int)<(b.size:Int):=by omega
    by_cases hq:a[k]=b[k]
    ·rw[if_pos hq] at hc;have Hc:=hid hc;have qq:((a[k].toNat:Int) != (b[k].toNat:Int))=false:=by rw[hq];simp
     clear hc;go_wp2_with fail;go_quiet (fail);go_wp2_with fail;go_roundw
     case rel=>exact⟨k+1,_,by go_num,by omega,by omega,rfl,Hc.out⟩
     case measure=>simp[intOf];omega
    ·rw[if_neg hq] at hc;have Hc:=hid hc;have hne:¬a[k].toNat=b[k].toNat:=fun e=>hq (UInt8.toNat_inj.1 e)
     have qq:((a[k].toNat:Int) != (b[k].toNat:Int))=true:=by rw[bne_iff_ne];omega
     clear hc;go_wp2_with fail;go_quiet (fail);go_wp2_with fail;go_quiet (fail);go_wp2_with fail;go_ret;refine⟨Cv.ret_bool ?_,_,by rw[World.drewN_drewN,World.drewN_drewN]⟩;rw[←Hc.out];simp[UInt8.lt_iff_toNat_lt]
   ·rw[z5w a k hla,zau b k hlb,ltB] at hc;have e:b.size=k:=by omega
    have Hc:=hid hc;have q1:decide (k<b.size)=false:=by simp;omega
    clear hc;go_wp2_with fail;go_ret;refine⟨Cv.ret_bool ?_,_,rfl⟩;rw[←Hc.out];simp;omega
  ·have e:a.size=k:=by omega
   rw[zau a k hla] at hc;have Hc:=hid hc;clear hc;go_wp2_with fail;go_ret;refine⟨Cv.ret_bool ?_,_,rfl⟩;rw[←Hc.out]
   by_cases hlb:k<b.size
   ·rw[z5w b k hlb,ltB];simp;omega
   ·rw[zau b k hlb,ltB];simp;omega
end Go.Proofs.YtmmpkfcdfcldlaaGreat
