/- Parts of the proof, side by side: FsRead, Ext, FsRead2, FsRead3, StRow. -/
import Derived.Test.YtkflaifopbodfaaGreatDoorM00
import Derived.Lib.Hide
import Derived.WalkKit
import Derived.BigQuiet
import Derived.Deep.QuietTactic
import Derived.StillTailTactics
import Derived.Laws.AppendOwnNone
set_option linter.unusedVariables false
set_option linter.unusedSimpArgs false
namespace Go.Proofs.YtkflaifopbodfaaGreatDoor
open Lib (hid)
open Go.RowKit
theorem z0u (w:World) (A:Option Addr) (n c:Nat) (B:Option Addr) (m d:Nat) (D:Option Addr) (k e:Nat):∃W,w.alloc (.cells #[.slice A n c,.slice B m d,.slice D k e] 27)=W∧W.cell? ⟨w.heap.size,0,.none⟩=some (.slice A n c)∧W.cell? ⟨w.heap.size,1,.none⟩=some (.slice B m d)∧W.cell? ⟨w.heap.size,2,.none⟩=some (.slice D k e)∧Below w.heap.size w W∧w.heap.size<W.heap.size:=by
 refine⟨_,rfl,?_,?_,?_,(Below.refl _ _).alloc (Nat.le_refl _) _,by simp⟩
 ·exact(World.cell?_alloc_mark w _ _ (0,0) _).trans rfl
 ·exact(World.cell?_alloc_mark w _ _ (0,0) _).trans rfl
 ·exact(World.cell?_alloc_mark w _ _ (0,0) _).trans rfl
set_option maxHeartbeats 1000000 in
theorem z2y (v:Value) (s:St) (num:Int) (w:World) (h:StAt none w v s):
  Calls Tryz.prog 60 #[v,.int .i64 num] w fun e w'=>e=.returned (.int .i64 (atV s.inos num))∧Below w.heap.size w w':=by
 obtain⟨⟨A,n,c,B,m,d,D,k,e,rfl,hI,hD,hM,h5,h6,h7⟩,hz⟩:=h;obtain⟨R,hR⟩:∃R,atV s.inos num=R:=⟨_,rfl⟩;rw[hR];have hbig:=hz.big;have hn:=hI.1;have hn2:n≤1099511627776:=by omega
 obtain⟨W,hW,b0,b1,b2,hal,_⟩:=z0u w A n c B m d D k e;have HI:=hid (hI.below hal);have HR:=hid hR;have HAL:=hid hal;clear hI hD hM hz hR hbig hn b1 b2 hal
 go_enter Tryz.func60,Tryz.ntmps60
 go_wp2_with fail;clear hW
 go_loop [5] (fun i=>∃k:Nat,i=.int .i64 k∧k≤n∧atG (s.inos.drop k) num k=R) (fun i=>n-(intOf i).toNat)
 case atStart=>exact⟨0,rfl,by omega,HR.out⟩
 case round=>
  obtain⟨k,rfl,hk,hc⟩:=hrel
  by_cases hlt:k<n
  ·obtain⟨g,off,x,E,m2,d2,rfl,hg,hx,hd,hmem,c0,_,_,_,_,_⟩:=HI.out.get k hlt;rw[hd,atG] at hc
   by_cases hq:x.num=num
   ·rw[if_pos hq] at hc;subst hq;have Hc:=hid hc;clear hc hd hx hmem
    go_wp2
    go_ret;exact⟨Cv.ret_int Hc.out,HAL.out⟩
   ·rw[if_neg hq] at hc;have q:(x.num==num)=false:=by rw[beq_eq_false_iff_ne];exact hq
    have Hc:=hid hc;clear hc hd hx hmem
    go_wp2
    go_round
    case rel=>exact⟨k+1,by go_num,by omega,Hc.out⟩
    case measure=>simp[intOf];omega
  ·have:s.inos.drop k=[]:=List.drop_eq_nil_of_le (by have:=HI.out.1;omega);rw[this,atG] at hc;have Hc:=hid hc;clear hc this
   go_wp2
   go_ret;exact⟨Cv.ret_int Hc.out,HAL.out⟩
set_option maxHeartbeats 1000000 in
theorem zba (v:Value) (s:St) (num:Int) (w:World) (h:StAt none w v s):
  Calls Tryz.prog 54 #[v,.int .i64 num] w fun e w'=>e=.returned (.bool (openB s.opn num))∧Below w.heap.size w w':=by
 obtain⟨⟨A,n,c,B,m,d,D,k,e,rfl,hI,hD,hM,h5,h6,h7⟩,hz⟩:=h;obtain⟨R,hR⟩:∃R,openB s.opn num=R:=⟨_,rfl⟩;rw[hR];have hbig:=hz.big;have hn:=hD.1;have hn2:m≤1099511627776:=by omega
 obtain⟨W,hW,b0,b1,b2,hal,_⟩:=z0u w A n c B m d D k e;have HD:=hid (hD.below hal);have HR:=hid hR;have HAL:=hid hal;clear hI hD hM hz hR hbig hn b0 b2 hal
 go_enter Tryz.func54,Tryz.ntmps54
 go_wp2_with fail;clear hW
 go_loop [5] (fun i=>∃k:Nat,i=.int .i64 k∧k≤m∧openB (s.opn.drop k) num=R) (fun i=>m-(intOf i).toNat)
 case atStart=>exact⟨0,rfl,by omega,HR.out⟩
 case round=>
  obtain⟨k,rfl,hk,hc⟩:=hrel
  by_cases hlt:k<m
  ·obtain⟨g,off,x,rfl,hg,hx,hd,hmem,_,_,c2⟩:=HD.out.get k hlt;rw[hd,openB] at hc
   by_cases hq:x.num=num
   ·rw[if_pos hq] at hc;subst hq;have Hc:=hid hc;clear hc hd hx hmem
    go_wp2
    go_ret;exact⟨Cv.ret_bool Hc.out,HAL.out⟩
   ·rw[if_neg hq] at hc;have q:(x.num==num)=false:=by rw[beq_eq_false_iff_ne];exact hq
    have Hc:=hid hc;clear hc hd hx hmem
    go_wp2
    go_round
    case rel=>exact⟨k+1,by go_num,by omega,Hc.out⟩
    case measure=>simp[intOf];omega
  ·have:s.opn.drop k=[]:=List.drop_eq_nil_of_le (by have:=HD.out.1;omega);rw[this,openB] at hc;have Hc:=hid hc;clear hc this
   go_wp2
   go_ret;exact⟨Cv.ret_bool Hc.out,HAL.out⟩
structure Ext (W:World) where
 w:World
 bel:Below W.heap.size W w
instance extSome (W:World):Nonempty (Ext W):=⟨⟨W,Below.refl _ _⟩⟩
theorem Ext.cell {W:World} (x:Ext W) (p:Addr) (h:(W.cell? p).isSome=true):x.w.cell? p=W.cell? p:=by
 obtain⟨u,hu⟩:=Option.isSome_iff_exists.1 h;exact x.bel.cell (World.block_lt_of_cell? W p hu)
theorem zc2 {P:Program} {id:Nat} {Q:Exit→Act→World→Prop} {a:Act} {w:World} {l:List Oper} (hm:P.follows .mixedOrders=true) (hB:Region.lexB .any l.toArray=true)
  (h:wpQuiet P l.toArray (fun w'=>∃x:Ext w,w'=x.w) (fun a'=>∀w',(∃x:Ext w,w'=x.w)→Q .normal a' w') l a):(Code.region id l.toArray true).wp P Q a w:=
 wp_region_quiet (C:=fun w'=>∃x:Ext w,w'=x.w) hm hB ⟨⟨w.drew,Cv.drewN_below (Below.refl _ _) 1⟩,rfl⟩ (by simpa using h)
theorem wre {P:Program} {id:Nat} {Q:Exit→Act→World→Prop} {a:Act} {w:World} {l:List Oper}
  (h:wpQuiet P l.toArray (fun w'=>∃x:Ext w,w'=x.w) (fun a'=>∀w',(∃x:Ext w,w'=x.w)→Q .normal a' w') l a) (hm:P.follows .mixedOrders=true:=by kernel_rfl) (hB:Region.lexB .any l.toArray=true:=by kernel_rfl):(Code.region id l.toArray true).wp P Q a w:=
 zc2 hm hB h
theorem Calls.ext_of {P:Program} {f:FuncId} {args:Array Value} {W:World} {x:Ext W} {v:Value}
  (h:Calls P f args x.w fun e w'=>e=.returned v∧Below x.w.heap.size x.w w'):Calls P f args x.w fun e w''=>e=.returned v∧∃y:Ext W,w''=y.w:=
 h.mono fun _ w' ⟨he,hb⟩=>⟨he,⟨w',Cv.next x.bel hb⟩,rfl⟩
theorem Calls.ext_of_same {P:Program} {f:FuncId} {args:Array Value} {W:World} {x:Ext W} {v:Value}
  (h:Calls P f args x.w fun e w'=>e=.returned v∧x.w=w'):Calls P f args x.w fun e w''=>e=.returned v∧∃y:Ext W,w''=y.w:=
 h.mono fun _ w' ⟨he,hb⟩=>⟨he,x,hb.symm⟩
theorem z2u {P:Program} {ops:Array Oper} {w:World} {Q:Act→Prop}:∀(l:List Oper) (a:Act),wpQuiet P ops (fun w'=>w'=w) Q l a→wpStill P ops w Q l a
 | [],a,h=>h
 | o :: rest, a, h => by
  unfold wpQuiet at h;unfold wpStill
  split at h
  ·rename_i hw;rw[if_pos hw];obtain⟨v,h1,h2⟩:=h;have h3:=h1 w rfl;unfold Oper.quietAt at h3;unfold Oper.still;generalize (execOp a.eval o).run P w=r at h3 ⊢;have h4:=z2u rest _ h2;cases r with
   | ok n w' =>
    cases n<;>simp only[Oper.quietUpon] at h3
    case value u=>
     obtain⟨e1,e2⟩:=h3;subst e1 e2;exact⟨rfl,h4⟩
    case skip=>
     obtain⟨e1,e2⟩:=h3;subst e1 e2;exact⟨rfl,h4⟩
    case enter f args=>
     obtain⟨e1,hc⟩:=h3;subst e1;exact⟨rfl,v,hc,h4⟩
   | halt x w'=>simp only[Oper.quietUpon] at h3
  ·rename_i hw;rw[if_neg hw];exact z2u rest _ h
theorem z1l {P:Program} {id:Nat} {Q:Exit→Act→World→Prop} {a:Act} {w:World} {l:List Oper} (n:Nat) (hm:P.follows .mixedOrders=true) (hB:Region.lexTailB .any l.toArray n=true)
  (h:wpQuiet P l.toArray (fun w'=>w'=w.drew) (fun a'=>wpList P l.toArray Q (l.drop n) a' w.drew) (l.take n) a):(Code.region id l.toArray true).wp P Q a w:=
 wp_region_still_tail n hm hB (z2u _ _ h)
theorem z2g {a b:ByteArray} (h:a≠b):(a.toList==b.toList)=false:=by
 rw[beq_eq_false_iff_ne,ByteArray.toList_eq,ByteArray.toList_eq];intro e;apply h;cases a with|mk da=>cases b with|mk db=>exact congrArg ByteArray.mk (Array.toList_inj.1 e)
theorem z7k {a b:ByteArray} (h:a=b):(a.toList==b.toList)=true:=by rw[h];exact beq_self_eq_true _
theorem zdg:∀(es:List En) (num:Int),linkE es num≤es.length
 | [],_=>Nat.le_refl _
 | e::es,num=>by
  unfold linkE;have:=zdg es num;rw[List.length_cons]
  split<;>omega
theorem zdh:∀(is:List Ino) (num:Int),linkI is num≤bulkE is
 | [],_=>Nat.le_refl _
 | x::xs,num=>by
  unfold linkI;have:=zdh xs num;have h2:=zdg x.ents num
  show _≤x.ents.length+bulkE xs
  split<;>omega
set_option maxHeartbeats 2000000 in
theorem zjl (v:Value) (s:St) (num:Int) (w:World) (h:StAt none w v s):
  Calls Tryz.prog 53 #[v,.int .i64 num] w fun e w'=>e=.returned (.int .i64 (linkI s.inos num:Nat))∧Below w.heap.size w w':=by
 obtain⟨⟨A,n,c,B,m,d,D,k,e,rfl,hI,hD,hM,h5,h6,h7⟩,hz⟩:=h;have hll:=zdh s.inos num;obtain⟨R,hR⟩:∃R,linkI s.inos num=R:=⟨_,rfl⟩;rw[hR] at hll ⊢;have hbig:=hz.big;have hn:=hI.1;have hn2:n≤1099511627776:=by omega
 have hR2:R≤1099511627776:=by omega
 have hB2:bulkE s.inos≤1099511627776:=by omega
 obtain⟨W,hW,b0,b1,b2,hal,_⟩:=z0u w A n c B m d D k e;have HI:=hid (hI.below hal);have HR:=hid hR;have HAL:=hid hal;have HB2:=hid hB2;clear hI hD hM hz hR hbig hn b1 b2 hal hll hB2
 go_enter Tryz.func53,Tryz.ntmps53
 go_wp2_with fail;clear hW
 go_loop [5,6,7] (fun many i _=>∃k q:Nat,i=.int .i64 k∧many=.int .i64 q∧k≤n∧q+linkI (s.inos.drop k) num=R) (fun _ i _=>n-(intOf i).toNat)
 case atStart=>exact⟨0,0,rfl,rfl,by omega,by rw[List.drop_zero,Nat.zero_add];exact HR.out⟩
 case round =>
  obtain⟨k,q,rfl,rfl,hk,hc⟩:=hrel
  by_cases hlt:k<n
  ·obtain⟨g,off,x,E,m2,d2,rfl,hg,hx,hd,hmem,_,c1,c2,hmd,hE,_⟩:=HI.out.get k hlt;rw[hd,linkI] at hc;have hle:=z1q hx;have hm2:m2≤1099511627776:=by have:=hE.1;have:=HB2.out;omega
   obtain⟨T,hT⟩:∃T,linkI (List.drop (k+1) s.inos) num=T:=⟨_,rfl⟩;rw[hT] at hc;have HC:=hid hc;have HT:=hid hT;have HE:=hid hE;clear hc hT hE hd hx hmem hle
   by_cases hdir:x.dir=true
   ·rw [hdir] at c1
    go_wp2
    go_loop [5,7] (fun many j=>∃i q:Nat,j=.int .i64 i∧many=.int .i64 q∧i≤m2∧q+linkE (x.ents.drop i) num+T=R) (fun _ j=>m2-(intOf j).toNat)
    case atStart=>exact⟨0,q,rfl,rfl,by omega,by have:=HC.out;rw[if_pos hdir] at this;rw[List.drop_zero];omega⟩
    case round=>
     obtain⟨i,q2,rfl,rfl,hi,hc⟩:=hrel
     by_cases hlt2:i<m2
     ·obtain⟨g2,off2,y,rfl,hg2,hy,hd2,_,e0,e1⟩:=HE.out.get i hlt2;rw[hd2,linkE] at hc
      by_cases hq:y.num=num
      ·rw[if_pos hq] at hc;subst hq;have HC2:=hid hc;have hq2:q2≤1099511627776:=by omega
       clear hc hd2 hy e0
       go_wp2
       go_round
       case rel=>exact⟨i+1,q2+1,by go_num,by go_num,by omega,by have:=HC2.out;omega⟩
       case measure=>simp[intOf];omega
      ·rw[if_neg hq] at hc;have qn:(y.num==num)=false:=by rw[beq_eq_false_iff_ne];exact hq
       have HC2:=hid hc;clear hc hd2 hy e0
       go_wp2
       go_round
       case rel=>exact⟨i+1,q2,by go_num,rfl,by omega,by have:=HC2.out;omega⟩
       case measure=>simp[intOf];omega
     ·have:x.ents.drop i=[]:=List.drop_eq_nil_of_le (by have:=HE.out.1;omega);rw[this,linkE] at hc;have HC2:=hid hc;clear hc this
      go_wp2
      go_round
      case rel=>exact⟨k+1,q2,by go_num,rfl,by omega,by rw[HT.out];exact HC2.out⟩
      case measure=>simp[intOf];omega
   ·have hdir2:x.dir=false:=by simpa using hdir
    rw[hdir2] at c1
    go_wp2
    go_loop [5,7] (fun many j=>j=.int .i64 0∧many=.int .i64 q) (fun _ j=>0)
    case atStart=>exact⟨rfl,rfl⟩
    case round=>
     obtain⟨rfl,rfl⟩:=hrel
     by_cases hlt2:0<m2
     ·go_wp2
      go_round
      case rel=>exact⟨k+1,q,by go_num,rfl,by omega,by have:=HC.out;rw[if_neg (by rw[hdir2];simp)] at this;rw[HT.out];omega⟩
      case measure=>simp[intOf];omega
     ·have hm0:m2=0:=by omega
      subst hm0
      go_wp2
      go_round
      case rel=>exact⟨k+1,q,by go_num,rfl,by omega,by have:=HC.out;rw[if_neg (by rw[hdir2];simp)] at this;rw[HT.out];omega⟩
      case measure=>simp[intOf];omega
  ·have:s.inos.drop k=[]:=List.drop_eq_nil_of_le (by have:=HI.out.1;omega);rw[this,linkI] at hc;have Hc:=hid hc;clear hc this
   go_wp2
   go_ret;exact⟨Cv.ret_int (by have:=Hc.out;omega),HAL.out⟩
theorem StAt.of_parts {lo:Option Nat} {w:World} {A:Option Addr} {n c:Nat} {B:Option Addr} {m d:Nat} {D:Option Addr} {k e:Nat} {s:St} (h1:InosAt lo w A n s.inos) (h2:DescsAt lo w B m s.opn) (h3:IntsAt lo w D k s.made) (h5:SlOk A n c) (h6:SlOk B m d) (h7:SlOk D k e) (hz:Sized s):
  StAt lo w (.agg #[.slice A n c,.slice B m d,.slice D k e]) s:=⟨⟨A,n,c,B,m,d,D,k,e,rfl,h1,h2,h3,h5,h6,h7⟩,hz⟩
set_option maxHeartbeats 2000000 in
theorem zdi (v:Value) (s:St) (dir:Int) (name:ByteArray) (w:World) (h:StAt none w v s):
  Calls Tryz.prog 56 #[v,.int .i64 dir,.string name] w fun e w'=>e=.returned (.int .i64 (entV s.inos dir name))∧Below w.heap.size w w':=by
 obtain⟨⟨A,n,c,B,m,d,D,k,e,rfl,hI,hD,hM,h5,h6,h7⟩,hz⟩:=h;obtain⟨R,hR⟩:∃R,entV s.inos dir name=R:=⟨_,rfl⟩;rw[hR];have hbig:=hz.big;have hn:=hI.1;have hn2:n≤1099511627776:=by omega
 obtain⟨W,hW,b0,b1,b2,hal,hlt0⟩:=z0u w A n c B m d D k e;have HS:=hid ((StAt.of_parts hI hD hM h5 h6 h7 hz).below hal);have HI:=hid (hI.below hal);have HAL:=hid hal;have HB2:Hid (bulkE s.inos≤1099511627776):=hid (by omega);rw[entV] at hR;have HR:=hid hR;clear hI hD hM hz hbig hn hal hR
 go_enter Tryz.func56,Tryz.ntmps56
 go_wp2_with fail;refine(z2y _ s dir _ HS.out).mono ?_;rintro e w1 ⟨rfl,hb1⟩;have b3:=(hb1.cell (p:=⟨w.heap.size,0,.none⟩) hlt0).trans b0;have HI1:=hid (HI.out.below hb1);have HB1:=hid hb1;clear hW b0 b1 b2 hb1 HI
 rcases z0k s.inos dir with⟨hat,_⟩|⟨i,x,hat,hx,_,_⟩
 ·rw[hat];have hr:=HR.out;rw[hat] at hr;have HR2:=hid (show(0:Int)=R from hr);clear hr hat
  go_wp2
  go_ret;exact⟨Cv.ret_int HR2.out,Cv.next HAL.out HB1.out⟩
 ·rw [hat];have hr := HR.out;rw [hat, z0c, hx] at hr;simp only at hr;have hin : i < n := by have := (List.getElem?_eq_some_iff.1 hx).1; have := HI1.out.1; omega
  obtain⟨g,off,x',E,m2,d2,rfl,hg,hx',hd,hmem,_,c1,c2,hmd,hE,_⟩:=HI1.out.get i hin;have ex:x=x':=by rw[hx] at hx';exact Option.some.inj hx'
  subst ex;have hle:=z1q hx;have hm2:m2≤1099511627776:=by have:=hE.1;have:=HB2.out;omega
  have HR2:=hid hr;have HE:=hid hE;have q0:decide ((i:Int)<0)=false:=by simp
  clear hr hat hx hx' hd hmem hle hE c1;go_wp2_with fail
  go_loop [8] (fun j=>∃k:Nat,j=.int .i64 k∧k≤m2∧entG (x.ents.drop k) name=R) (fun j=>m2-(intOf j).toNat)
  case atStart=>exact⟨0,rfl,by omega,HR2.out⟩
  case round=>
   obtain⟨k,rfl,hk,hc⟩:=hrel
   by_cases hlt:k<m2
   ·obtain⟨g2,off2,y,rfl,hg2,hy,hd2,_,e0,e1⟩:=HE.out.get k hlt;rw[hd2,entG] at hc
    by_cases hq:y.name=name
    ·rw[if_pos hq] at hc;subst hq;have Hc:=hid hc;clear hc hd2 hy
     go_wp2
     go_ret;exact⟨Cv.ret_int Hc.out,Cv.next HAL.out HB1.out⟩
    ·rw[if_neg hq] at hc;have q:(y.name.toList==name.toList)=false:=z2g hq;have Hc:=hid hc;clear hc hd2 hy
     go_wp2
     go_round
     case rel=>exact⟨k+1,by go_num,by omega,Hc.out⟩
     case measure=>simp[intOf];omega
   ·have:x.ents.drop k=[]:=List.drop_eq_nil_of_le (by have:=HE.out.1;omega);rw[this,entG] at hc;have Hc:=hid hc;clear hc this
    go_wp2
    go_ret;exact⟨Cv.ret_int Hc.out,Cv.next HAL.out HB1.out⟩
set_option maxHeartbeats 1000000 in
theorem z0j (v:Value) (s:St) (num:Int) (w:World) (h:StAt none w v s) (hn1: -9223372036854775808≤num) (hn2:num≤9223372036854775807):
  Calls Tryz.prog 51 #[v,.int .i64 num] w fun e w'=>e=.returned (.bool (givenV s.made num))∧Below w.heap.size w w':=by
 obtain⟨⟨A,n,c,B,m,d,D,k,e,rfl,hI,hD,hM,h5,h6,h7⟩,hz⟩:=h;obtain⟨R,hR⟩:∃R,givenV s.made num=R:=⟨_,rfl⟩;rw[hR];unfold givenV at hR;have hbig:=hz.big;have hn:=hM.1;have hk2:k≤1099511627776:=by omega
 obtain⟨W,hW,b0,b1,b2,hal,_⟩:=z0u w A n c B m d D k e;have HM:=hid (hM.below hal);have HAL:=hid hal;have HR:=hid hR;clear hI hD hM hz hR hbig hn b0 b1 hal
 go_enter Tryz.func51,Tryz.ntmps51
 by_cases h2:num<2
 ·have hr:=HR.out;rw[if_pos h2] at hr;have HR2:=hid hr;clear hr;go_wp2_with fail;go_ret;exact⟨Cv.ret_bool HR2.out,HAL.out⟩
 ·have hr:=HR.out;rw[if_neg h2] at hr;obtain⟨N,rfl⟩:∃N:Nat,num=(N:Int)+2:=⟨(num-2).toNat,by omega⟩;obtain⟨C,hC⟩:∃C:Nat,N%8=C:=⟨_,rfl⟩;obtain⟨Q,hQ⟩:∃Q:Nat,N / 8=Q:=⟨_,rfl⟩;have e0:(N:Int)+2-2=(N:Int):=by omega
  have e1:(N:Int)%8=(C:Int):=by omega
  have e2:(N:Int) / 8=(Q:Int):=by omega
  rw[e0,e1,e2,Int.toNat_natCast] at hr;have t1:(N:Int).tmod 8=(C:Int):=by rw[←hC];rfl
  have t2:(N:Int).tdiv 8=(Q:Int):=by rw[←hQ];rfl
  have q0:decide ((N:Int)+2<2)=false:=by simp;omega
  have hN:N≤9223372036854775805:=by omega
  have hC7:C<8:=by omega
  have hQ2:Q≤9223372036854775805:=by omega
  have w1:IntKind.i64.wrap (N:Int)=(N:Int):=by rw[IntKind.wrap_i64];omega
  have w2:IntKind.i64.wrap ((N:Int)+2-2)=(N:Int):=by rw[e0,w1]
  clear h2 hn1 hn2 e1 e2 hC hQ HR
  by_cases hlt:C<k
  ·obtain⟨g,off,x,rfl,hg,hx,hd,hmem,c0⟩:=HM.out.get C hlt;have hkm:=HM.out.1;have hgd:s.made.getD C 0=x:=by rw[List.getD_eq_getElem?_getD,hx];rfl
   rw[hgd] at hr;have HR2:=hid hr;clear hr hd hmem hx hgd;go_wp2_with fail;go_ret;refine⟨Cv.ret_bool ?_,HAL.out⟩;rw[←HR2.out,decide_eq_true (show(C:Int)<(s.made.length:Int) by omega)]
   rfl
  ·have hkm:=HM.out.1;have q1:decide ((C:Int)<(k:Int))=false:=by simp;omega
   have HR2:=hid hr;clear hr;go_wp2_with fail;go_ret;refine⟨Cv.ret_bool ?_,HAL.out⟩;rw[←HR2.out,decide_eq_false (show ¬(C:Int)<(s.made.length:Int) by omega)]
   rfl
theorem z0v {α:Type} (f:α→List Value) (k:Nat) (hk:∀x,(f x).length=k):∀(l:List α) (j:Nat) (x:α),l[j]? =some x→∀i,i<k→(l.flatMap f)[j*k+i]? =(f x)[i]?
 | [],j,x,h,i,hi=>by simp at h
 | y::l,0,x,h,i,hi=>by
  have:y=x:=by simpa using h
  subst this;rw[List.flatMap_cons,List.getElem?_append_left (by rw[hk];omega)];simp
 | y::l,j+1,x,h,i,hi=>by
  have e:(j+1)*k=k+j*k:=by rw[Nat.add_mul];omega
  rw[List.flatMap_cons,List.getElem?_append_right (by rw[hk];omega),hk];have h2:l[j]? =some x:=by simpa using h
  rw[←z0v f k hk l j x h2 i hi]
  congr 1
  omega
theorem z1a {α:Type} (f:α→List Value) (k:Nat) (hk:∀x,(f x).length=k):∀(l:List α),(l.flatMap f).length=l.length*k
 | []=>by simp
 | y::l=>by rw[List.flatMap_cons,List.length_append,hk,z1a f k hk l,List.length_cons,Nat.add_mul];omega
theorem z1z {w:World} {B:Nat} {e:TypeId} {size:Nat} {v:Value} {n:Nat} {xs:List Value} (h:w.ownsRow B e size v n xs) (hs:0<size):
  ∃A c,v=.slice A n c∧n≤c∧(A=none→n=0∧c=0)∧(0<n→∃g,A=some ⟨g,0,none⟩∧g<w.heap.size∧Mine (some B) e w g∧∀j,j<n*size→w.cell? ⟨g,j,none⟩=xs[j]?):=by
 have h0:=h
 rcases h.2 with⟨rfl,rfl⟩|⟨g,cap,cur,rfl,hb,hg,hnc,hcm,hcs,htk⟩
 ·exact⟨none,0,rfl,Nat.le_refl _,fun _=>⟨rfl,rfl⟩,fun h=>absurd h (by omega)⟩
 ·refine⟨some ⟨g,0,none⟩,cap,rfl,hnc,fun e=>(by cases e),fun hn=>⟨g,rfl,(Array.getElem?_eq_some_iff.1 hg).1,fun C hC=>?_,fun j hj=>h0.cellAt j hj⟩⟩;cases hC;exact⟨hb,cur,hg⟩
def enV (e:En):List Value:=[.string e.name,.int .i64 e.num]
def dsV (d:Ds):List Value:=[.int .i64 d.core,.int .i64 d.fd,.int .i64 d.num]
def inoV (z:Ino×Value):List Value:=[.int .i64 z.1.num,.bool z.1.dir,z.2,.string z.1.data]
theorem EntsAt.of_row {B:Nat} {w:World} {v:Value} {n:Nat} {es:List En} (h:w.ownsRow B 120 2 v n (es.flatMap enV)):∃A c,v=.slice A n c∧n≤c∧(A=none→n=0∧c=0)∧EntsAt (some B) w A n es:=by
 obtain⟨A,c,hv,hc,hn,hg⟩:=z1z h (by decide)
 have hl:es.length=n:=by
  have h1:=h.1;rw[z1a enV 2 (fun x=>rfl)] at h1;omega
 refine⟨A,c,hv,hc,hn,hl,fun h0=>?_⟩;obtain⟨g,hA,hlt,hm,hcell⟩:=hg h0;refine⟨g,0,hA,hlt,hm,fun j e he=>?_⟩;have hj:j<es.length:=(List.getElem?_eq_some_iff.1 he).1;have f:=z0v enV 2 (fun x=>rfl) es j e he;refine⟨?_,?_⟩
 ·rw[Nat.zero_add,hcell (j*2) (by omega)];exact f 0 (by omega)
 ·rw[Nat.zero_add,hcell (j*2+1) (by omega)];exact f 1 (by omega)
theorem DescsAt.of_row {B:Nat} {w:World} {v:Value} {n:Nat} {ds:List Ds} (h:w.ownsRow B 89 3 v n (ds.flatMap dsV)):∃A c,v=.slice A n c∧n≤c∧(A=none→n=0∧c=0)∧DescsAt (some B) w A n ds:=by
 obtain⟨A,c,hv,hc,hn,hg⟩:=z1z h (by decide)
 have hl:ds.length=n:=by
  have h1:=h.1;rw[z1a dsV 3 (fun x=>rfl)] at h1;omega
 refine⟨A,c,hv,hc,hn,hl,fun h0=>?_⟩;obtain⟨g,hA,hlt,hm,hcell⟩:=hg h0;refine⟨g,0,hA,hlt,hm,fun j e he=>?_⟩;have hj:j<ds.length:=(List.getElem?_eq_some_iff.1 he).1;have f:=z0v dsV 3 (fun x=>rfl) ds j e he;refine⟨?_,?_,?_⟩
 ·rw[Nat.zero_add,hcell (j*3) (by omega)];exact f 0 (by omega)
 ·rw[Nat.zero_add,hcell (j*3+1) (by omega)];exact f 1 (by omega)
 ·rw[Nat.zero_add,hcell (j*3+2) (by omega)];exact f 2 (by omega)
theorem IntsAt.of_row {B:Nat} {w:World} {v:Value} {n:Nat} {xs:List Int} (h:w.ownsRow B 3 1 v n (xs.map (Value.int .i64))):∃A c,v=.slice A n c∧n≤c∧(A=none→n=0∧c=0)∧IntsAt (some B) w A n xs:=by
 obtain⟨A,c,hv,hc,hn,hg⟩:=z1z h (by decide);have hl:xs.length=n:=by have:=h.1;simpa using this
 refine⟨A,c,hv,hc,hn,hl,fun h0=>?_⟩;obtain⟨g,hA,hlt,hm,hcell⟩:=hg h0;refine⟨g,0,hA,hlt,hm,fun j e he=>?_⟩;have hj:j<xs.length:=(List.getElem?_eq_some_iff.1 he).1;rw[Nat.zero_add,hcell j (by omega)];simp[he]
structure InoRow (B:Nat) (w:World) (v:Value) (n:Nat) (zs:List (Ino×Value)):Prop where
 row:w.ownsRow B 53 4 v n (zs.flatMap inoV)
 ents:∀z∈zs,∃A m c,z.2=.slice A m c∧SlOk A m c∧EntsAt (some B) w A m z.1.ents
theorem InosAt.of_row {B:Nat} {w:World} {v:Value} {n:Nat} {zs:List (Ino×Value)} (h:InoRow B w v n zs):∃A c,v=.slice A n c∧n≤c∧(A=none→n=0∧c=0)∧InosAt (some B) w A n (zs.map Prod.fst):=by
 obtain⟨A,c,hv,hc,hn,hg⟩:=z1z h.row (by decide)
 have hl:zs.length=n:=by
  have h1:=h.row.1;rw[z1a inoV 4 (fun x=>rfl)] at h1;omega
 refine⟨A,c,hv,hc,hn,by simpa using hl,fun h0=>?_⟩;obtain⟨g,hA,hlt,hm,hcell⟩:=hg h0;refine⟨g,0,hA,hlt,hm,fun j x hx=>?_⟩;rw[List.getElem?_map] at hx;obtain⟨z,hz,rfl⟩:=Option.map_eq_some_iff.1 hx;have hj:j<zs.length:=(List.getElem?_eq_some_iff.1 hz).1;have f:=z0v inoV 4 (fun x=>rfl) zs j z hz;obtain⟨E,m,d,he,hmd,hents⟩:=h.ents z (List.mem_of_getElem? hz);refine⟨?_,?_,⟨E,m,d,?_,hmd,hents⟩,?_⟩
 ·rw[Nat.zero_add,hcell (j*4) (by omega)];exact f 0 (by omega)
 ·rw[Nat.zero_add,hcell (j*4+1) (by omega)];exact f 1 (by omega)
 ·rw[Nat.zero_add,hcell (j*4+2) (by omega),←he];exact f 2 (by omega)
 ·rw[Nat.zero_add,hcell (j*4+3) (by omega)];exact f 3 (by omega)
end Go.Proofs.YtkflaifopbodfaaGreatDoor
