/- Parts of the proof, side by side: HistPast, AllowsC, Allows1, Allows2. -/
import Derived.Test.YtkflaifopbodfaaGreatDoorM40
import Derived.Maps.Own
import Derived.Maps.Views
import Derived.Test.YtkflaifopbodfaaGreatDoorM18
import Derived.Test.YtkflaifopbodfaaGreatDoorM12
import Derived.Test.YtkflaifopbodfaaGreatDoorM37
set_option linter.unusedVariables false
set_option linter.unusedSimpArgs false
namespace Go.Proofs.YtkflaifopbodfaaGreatDoor
open Lib (hid)
open Go.RowKit Go.Maps
structure Past (w w':World):Prop where
 size:w.heap.size≤w'.heap.size
 row:∀(b:Nat) (c:Array Value) (t:TypeId) (z:Nat×Nat),w.heap[b]? =some (.cells c t z)→w'.heap[b]? =some (.cells c t z)
theorem Past.refl (w:World):Past w w:=⟨Nat.le_refl _,fun _ _ _ _ h=>h⟩
theorem Past.trans {a b c:World} (h:Past a b) (k:Past b c):Past a c:=⟨Nat.le_trans h.size k.size,fun _ _ _ _ e=>k.row _ _ _ _ (h.row _ _ _ _ e)⟩
theorem Past.of_below {w w':World} (h:Below w.heap.size w w'):Past w w':=⟨h.size,fun b c t z e=>(h.block b (Array.getElem?_eq_some_iff.1 e).1).trans e⟩
theorem Past.of_map {w w':World} {fm:Nat} (hg:w.grownBy w' (some fm)) {es:Array MapEntry} {k:Nat} (hm:w.heap[fm]? =some (.map es k)):Past w w':=
 ⟨hg.size,fun b c t z e=>(hg.block b (Array.getElem?_eq_some_iff.1 e).1 (fun h=>by injection h with h;subst h;rw[hm] at e;cases e)).trans e⟩
theorem Past.cell {w w':World} (h:Past w w') {a:Addr} {v:Value} (hc:w.cell? a=some v):w'.cell? a=some v:=by
 unfold World.cell? at hc ⊢;cases hb:w.heap[a.block]? with
 | none=>rw[hb] at hc;cases hc
 | some o=>
  rw[hb] at hc;cases o with
  | cells c t z=>rw[h.row _ _ _ _ hb];exact hc
  | _=>cases hc
theorem EntsAt.past {w w':World} {A:Option Addr} {n:Nat} {es:List En} (h:EntsAt none w A n es) (hb:Past w w'):EntsAt none w' A n es:=
 ⟨h.1, fun hn => by
  obtain⟨g,off,hA,hg,hm,hc⟩:=h.2 hn;exact⟨g,off,hA,Nat.lt_of_lt_of_le hg hb.size,Mine.any _ _ _,fun j e he=>⟨hb.cell (hc j e he).1,hb.cell (hc j e he).2⟩⟩⟩
theorem StAt.past {w w':World} {v:Value} {s:St} (h:StAt none w v s) (hb:Past w w'):StAt none w' v s:=by
 obtain⟨⟨A,n,c,B,m,d,D,k,e,h1,h2,h3,h4,h5,h6,h7⟩,hz⟩:=h;refine⟨⟨A,n,c,B,m,d,D,k,e,h1,⟨h2.1,fun hn=>?_⟩,⟨h3.1,fun hn=>?_⟩,⟨h4.1,fun hn=>?_⟩,h5,h6,h7⟩,hz⟩
 ·obtain⟨g,off,hA,hg,hm,hc⟩:=h2.2 hn;refine⟨g,off,hA,Nat.lt_of_lt_of_le hg hb.size,Mine.any _ _ _,fun j x hx=>?_⟩;obtain⟨a1,a2,⟨B2,m2,c2,a3,a4,a5⟩,a6⟩:=hc j x hx;exact⟨hb.cell a1,hb.cell a2,⟨B2,m2,c2,hb.cell a3,a4,a5.past hb⟩,hb.cell a6⟩
 ·obtain⟨g,off,hA,hg,hm,hc⟩:=h3.2 hn;exact⟨g,off,hA,Nat.lt_of_lt_of_le hg hb.size,Mine.any _ _ _,fun j x hx=>⟨hb.cell (hc j x hx).1,hb.cell (hc j x hx).2.1,hb.cell (hc j x hx).2.2⟩⟩
 ·obtain⟨g,off,hA,hg,hm,hc⟩:=h4.2 hn;exact⟨g,off,hA,Nat.lt_of_lt_of_le hg hb.size,Mine.any _ _ _,fun j x hx=>hb.cell (hc j x hx)⟩
theorem NmsAt.past {w w':World} {A:Option Addr} {n:Nat} {ns:List ByteArray} (h:NmsAt none w A n ns) (hb:Past w w'):NmsAt none w' A n ns:=
 ⟨h.1, fun hn => by
  obtain⟨g,off,hA,hg,hm,hc⟩:=h.2 hn;exact⟨g,off,hA,Nat.lt_of_lt_of_le hg hb.size,Mine.any _ _ _,fun j x hx=>hb.cell (hc j x hx)⟩⟩
theorem OpsAt.past {w w':World} {A:Option Addr} {n:Nat} {ops:List Op} (h:OpsAt w A n ops) (hb:Past w w'):OpsAt w' A n ops:=
 ⟨h.1, fun hn => by
  obtain⟨g,off,hA,hg,hc⟩:=h.2 hn;refine⟨g,off,hA,Nat.lt_of_lt_of_le hg hb.size,fun q o hq=>?_⟩;obtain⟨F,f,f9,h1,h2,h3,h4,h5⟩:=hc q o hq;exact⟨F,f,f9,h1,h2.past hb,h3,Nat.lt_of_lt_of_le h4 hb.size,fun j x hx=>hb.cell (h5 j x hx)⟩⟩
theorem SeAt.past {w w':World} {p:Nat} {B:Option Addr} {n cap fm:Nat} {lb:ByteArray} (h:SeAt w p B n cap fm lb) (hb:Past w w'):SeAt w' p B n cap fm lb:=hb.row _ _ _ _ h
theorem Tab.past {w w':World} (h:Tab w) (hb:Past w w'):Tab w':=by
 unfold Tab Lib.TabIs World.var? at h ⊢;cases hg:Tryz.prog.globalNamed "internal/strconv.uint64pow10" with
 | none=>rw[hg] at h;cases h
 | some g =>
  simp only[hg,Option.bind_some] at h ⊢;cases hb':w.heap[g]? with
  | none=>simp[hb'] at h
  | some o=>
   rw[hb'] at h;cases o with
   | cells c t z=>rw[hb.row _ _ _ _ hb'];exact h
   | _=>simp at h
def VainAt (w:World) (fm m:Nat) (ops:List Op) (last:List UInt8):Prop:=
 ∃D:DataW Unit,IsMap D∧w.ownsMap Tryz.prog 9 (plainElem Tryz.prog 4) fm m D∧Vain ops last (fun l=>D.atKey (.string l) (.lit (.bool false))=.lit (.bool true))
theorem VainAt.lt {w:World} {fm m:Nat} {ops:List Op} {last:List UInt8} (h:VainAt w fm m ops last):fm<w.heap.size:=by
 obtain⟨D,_,h,_⟩:=h;exact h.lt
theorem VainAt.mono {w:World} {fm m m':Nat} {ops:List Op} {last:List UInt8} (h:VainAt w fm m ops last) (hm:m≤m'):VainAt w fm m' ops last:=by
 obtain⟨D,h0,h1,h2⟩:=h;exact⟨D,h0,h1.mono hm,h2⟩
theorem VainAt.below {w w':World} {fm m:Nat} {ops:List Op} {last:List UInt8} (h:VainAt w fm m ops last) (hb:Below w.heap.size w w'):VainAt w' fm m ops last:=by
 obtain⟨D,h0,h1,h2⟩:=h;exact⟨D,h0,h1.kept (row:=none) ⟨hb.os,hb.tape,hb.output,hb.size,fun i hi _=>hb.block i hi⟩ (by simp),h2⟩
theorem VainAt.made (w:World) (ops:List Op) (last:List UInt8):VainAt (w.alloc (.map #[] 0)) w.heap.size 0 ops last:=
 ⟨_, isMap_empty, World.ownsMap_made _ _ _ _, fun l h => by
  have h0:DataW.lit (Lit.bool false)=(DataW.lit (Lit.bool true):DataW Unit):=h;injection h0 with h1
  injection h1 with h2
  cases h2⟩
theorem zl7 (w:World):(zeroValue 4).run Tryz.prog w=.ok (.bool false) w:=by kernel_rfl
set_option maxRecDepth 100000 in
theorem z7e {v:Value} {d:DataW Unit} {ps:List MemPlace} (h:plainElem Tryz.prog 4 v=some (d,ps)):∃b,v=.bool b∧d=.lit (.bool b):=by
 unfold plainElem at h;rw[Tryz.underlying4] at h;cases v<;>simp at h;exact⟨_,rfl,h.1.symm⟩
theorem VainAt.look {w:World} {fm m:Nat} {ops:List Op} {last:List UInt8} (h:VainAt w fm m ops last) (K:ByteArray) (hK:K.size≤140737488355328) {s:St} {d:Nat} (hs:Good s) (hd:d<2^ops.length) (hn:ops.length≤10) (hk:K.data.toList=keyL s d):
  ∃b,(Instr.lookup 57 (.map (some fm)) (.string K) false).run Tryz.prog w=.ok (.bool b) w∧(b=true→rowD ops last s d=false):=by
 obtain⟨D,h0,h1,h2⟩:=h;obtain⟨v,ps,hrun,hv⟩:=h1.lookup (string_keyed Tryz.underlying9) Tryz.underlying57 (zl7 w) (plainElem_bool Tryz.underlying4 false) (WideMaps.keyOf_string_mk Tryz.underlying9 (s:=K) (by unfold maxLen;omega));obtain⟨b,rfl,hb⟩:=z7e hv;refine⟨b,hrun,fun e=>?_⟩;subst e;rw[hk] at hb;exact h2.no hs hd hn hb
theorem Vain.put {ops:List Op} {last:List UInt8} {D:DataW Unit} (h0:IsMap D) (h2:Vain ops last (fun l=>D.atKey (.string l) (.lit (.bool false))=.lit (.bool true))) {s:St} {d:Nat} (hs:Good s) (hd:d<2^ops.length) (hr:rowD ops last s d=false):
  Vain ops last (fun l=>(D.put (.string (keyL s d)) (.lit (.bool true))).atKey (.string l) (.lit (.bool false))=.lit (.bool true)):=by
 intro l hl
 by_cases e:l=keyL s d
 ·exact⟨s,d,hs,hd,e,hr⟩
 ·refine h2 l ?_;rw[←hl];exact(atKey_put_other (fun e2=>e (by injection e2)) _ _).symm
end Go.Proofs.YtkflaifopbodfaaGreatDoor
namespace Go.Proofs.YtkflaifopbodfaaGreatDoor
open Lib (hid)
open Go.RowKit
theorem zjc (g1 g2:Nat) (CO FD a b k:Int) (w:World) (h1:w.cell? ⟨g1,1,.none⟩=some (.int .i64 CO)) (h2:w.cell? ⟨g2,1,.none⟩=some (.int .i64 FD)) (l1:g1<w.heap.size) (l2:g2<w.heap.size):
  Calls Tryz.prog 80 #[.agg #[.int .i64 a,.int .i64 b,.int .i64 k],.pointer (some ⟨g1,0,.none⟩),.pointer (some ⟨g2,0,.none⟩)] w fun e w'=>e=.returned (.bool (a==CO&&b==FD))∧Below w.heap.size w w':=by
 obtain⟨V2,hV2,v0,v1,v2,hal4,hlt4⟩:=z5h w a b k;have z1:=(hal4.cell (p:=⟨g1,1,.none⟩) l1).trans h1;have z2:=(hal4.cell (p:=⟨g2,1,.none⟩) l2).trans h2;have HAL:=hid hal4;clear hal4;obtain⟨X,hX⟩:∃X,(a==CO)=X:=⟨_,rfl⟩;obtain⟨Y,hY⟩:∃Y,(b==FD)=Y:=⟨_,rfl⟩;rw[hX,hY]
 go_enter Tryz.func80,Tryz.ntmps80
 cases X
 ·go_wp2_with fail;go_ret;exact⟨by first|rfl|simp,HAL.out⟩
 ·go_wp2_with fail;go_ret;exact⟨by first|rfl|simp,HAL.out⟩
set_option maxRecDepth 100000 in
set_option maxHeartbeats 4000000 in
theorem zay (g1 g2:Nat) (CO FD:Int) (xs:List Ds) (A:Option Addr) (n cp:Nat) (w:World) (hI:DescsAt none w A n xs) (hn:n≤1099511627776) (h1:w.cell? ⟨g1,1,.none⟩=some (.int .i64 CO)) (h2:w.cell? ⟨g2,1,.none⟩=some (.int .i64 FD)) (l1:g1<w.heap.size) (l2:g2<w.heap.size):
  Calls Tryz.prog 81 #[.slice A n cp,.func (.func 80) #[] #[.pointer (some ⟨g1,0,.none⟩),.pointer (some ⟨g2,0,.none⟩)]] w fun e w'=>e=.returned (.int .i64 (fdI xs CO FD))∧Below w.heap.size w w':=by
 obtain⟨R,hR⟩:∃R,fdP xs CO FD=R:=⟨_,rfl⟩;unfold fdI;rw[hR];have HI:=hid hI;have HR:=hid hR;clear hI hR
 go_enter Tryz.func81,Tryz.ntmps81
 go_wp2_with fail
 go_loopw [8] (fun j wr=>∃r:Nat,j=.int .i64 r∧r≤n∧Below w.heap.size w wr∧(fdP (xs.drop r) CO FD).map (· +r)=R) (fun j _=>n-(intOf j).toNat)
 case atStart=>exact⟨0,rfl,by omega,Below.refl _ _,by rw[List.drop_zero,HR.out];cases R<;>rfl⟩
 case round=>
  obtain⟨r,rfl,hq,hbel,hc⟩:=hrel;have HB:=hid hbel;have HIr:=hid (HI.out.below hbel);have z1:=(hbel.cell (p:=⟨g1,1,.none⟩) l1).trans h1;have z2:=(hbel.cell (p:=⟨g2,1,.none⟩) l2).trans h2;have m1:g1<wr.heap.size:=Nat.lt_of_lt_of_le l1 hbel.size;have m2:g2<wr.heap.size:=Nat.lt_of_lt_of_le l2 hbel.size;clear hbel
  by_cases hlt:r<n
  ·obtain⟨g,off,y,rfl,hg,hy,hd,hmem,e0,e1,e2⟩:=HIr.out.get r hlt;rw[zcp xs _ _ r y hd] at hc;have HC:=hid hc;have k0:(0:Int)≤(r:Int):=by omega
   clear hc hd hmem hy;go_wp2_with fail;refine(zjc g1 g2 CO FD y.core y.fd y.num _ z1 z2 m1 m2).mono ?_;rintro e5 w5 ⟨rfl,hb5⟩;have HB5:=hid (HB.out.trans (hb5.mono HB.out.size));clear hb5 e0 e1 e2;obtain⟨bb,hbb⟩:∃bb,(y.core==CO&&y.fd==FD)=bb:=⟨_,rfl⟩;rw[hbb];have hc:=HC.out;cases bb
   ·have hnx:¬(y.core=CO∧y.fd=FD):=fun h=>by rw[h.1,h.2] at hbb;simp at hbb
    rw[if_neg hnx] at hc;have HC2:=hid hc;clear hc hbb hnx;go_wp2_with fail;go_roundw
    case rel=>exact⟨r+1,by go_num,by omega,HB5.out,by
     rw[←HC2.out];cases fdP (xs.drop (r+1)) CO FD
     ·rfl
     ·simp;omega⟩
    case measure=>simp[intOf];omega
   ·have hnx:y.core=CO∧y.fd=FD:=by simpa using hbb
    rw[if_pos hnx] at hc;have HC2:=hid hc;clear hc hbb hnx;go_wp2_with fail;go_ret;have h:=HC2.out;simp at h;subst h;exact⟨rfl,HB5.out⟩
  ·have hnil:xs.drop r=[]:=List.drop_eq_nil_of_le (by have:=HI.out.1;omega);rw[hnil,fdP] at hc;have HC:=hid hc;clear hc hnil;go_wp2_with fail;go_ret;exact⟨by rw[←HC.out];rfl,HB.out⟩
theorem zjd (g1 g2:Nat) (CO FD a b k:Int) (w:World) (h1:w.cell? ⟨g1,1,.none⟩=some (.int .i64 CO)) (h2:w.cell? ⟨g2,1,.none⟩=some (.int .i64 FD)) (l1:g1<w.heap.size) (l2:g2<w.heap.size):
  Calls Tryz.prog 82 #[.agg #[.int .i64 a,.int .i64 b,.int .i64 k],.pointer (some ⟨g1,0,.none⟩),.pointer (some ⟨g2,0,.none⟩)] w fun e w'=>e=.returned (.bool (a==CO&&b==FD))∧Below w.heap.size w w':=by
 obtain⟨V2,hV2,v0,v1,v2,hal4,hlt4⟩:=z5h w a b k;have z1:=(hal4.cell (p:=⟨g1,1,.none⟩) l1).trans h1;have z2:=(hal4.cell (p:=⟨g2,1,.none⟩) l2).trans h2;have HAL:=hid hal4;clear hal4;obtain⟨X,hX⟩:∃X,(a==CO)=X:=⟨_,rfl⟩;obtain⟨Y,hY⟩:∃Y,(b==FD)=Y:=⟨_,rfl⟩;rw[hX,hY]
 go_enter Tryz.func82,Tryz.ntmps82
 cases X
 ·go_wp2_with fail;go_ret;exact⟨by first|rfl|simp,HAL.out⟩
 ·go_wp2_with fail;go_ret;exact⟨by first|rfl|simp,HAL.out⟩
set_option maxRecDepth 100000 in
set_option maxHeartbeats 4000000 in
theorem zaz (g1 g2:Nat) (CO FD:Int) (xs:List Ds) (A:Option Addr) (n cp:Nat) (w:World) (hI:DescsAt none w A n xs) (hn:n≤1099511627776) (h1:w.cell? ⟨g1,1,.none⟩=some (.int .i64 CO)) (h2:w.cell? ⟨g2,1,.none⟩=some (.int .i64 FD)) (l1:g1<w.heap.size) (l2:g2<w.heap.size):
  Calls Tryz.prog 81 #[.slice A n cp,.func (.func 82) #[] #[.pointer (some ⟨g1,0,.none⟩),.pointer (some ⟨g2,0,.none⟩)]] w fun e w'=>e=.returned (.int .i64 (fdI xs CO FD))∧Below w.heap.size w w':=by
 obtain⟨R,hR⟩:∃R,fdP xs CO FD=R:=⟨_,rfl⟩;unfold fdI;rw[hR];have HI:=hid hI;have HR:=hid hR;clear hI hR
 go_enter Tryz.func81,Tryz.ntmps81
 go_wp2_with fail
 go_loopw [8] (fun j wr=>∃r:Nat,j=.int .i64 r∧r≤n∧Below w.heap.size w wr∧(fdP (xs.drop r) CO FD).map (· +r)=R) (fun j _=>n-(intOf j).toNat)
 case atStart=>exact⟨0,rfl,by omega,Below.refl _ _,by rw[List.drop_zero,HR.out];cases R<;>rfl⟩
 case round=>
  obtain⟨r,rfl,hq,hbel,hc⟩:=hrel;have HB:=hid hbel;have HIr:=hid (HI.out.below hbel);have z1:=(hbel.cell (p:=⟨g1,1,.none⟩) l1).trans h1;have z2:=(hbel.cell (p:=⟨g2,1,.none⟩) l2).trans h2;have m1:g1<wr.heap.size:=Nat.lt_of_lt_of_le l1 hbel.size;have m2:g2<wr.heap.size:=Nat.lt_of_lt_of_le l2 hbel.size;clear hbel
  by_cases hlt:r<n
  ·obtain⟨g,off,y,rfl,hg,hy,hd,hmem,e0,e1,e2⟩:=HIr.out.get r hlt;rw[zcp xs _ _ r y hd] at hc;have HC:=hid hc;have k0:(0:Int)≤(r:Int):=by omega
   clear hc hd hmem hy;go_wp2_with fail;refine(zjd g1 g2 CO FD y.core y.fd y.num _ z1 z2 m1 m2).mono ?_;rintro e5 w5 ⟨rfl,hb5⟩;have HB5:=hid (HB.out.trans (hb5.mono HB.out.size));clear hb5 e0 e1 e2;obtain⟨bb,hbb⟩:∃bb,(y.core==CO&&y.fd==FD)=bb:=⟨_,rfl⟩;rw[hbb];have hc:=HC.out;cases bb
   ·have hnx:¬(y.core=CO∧y.fd=FD):=fun h=>by rw[h.1,h.2] at hbb;simp at hbb
    rw[if_neg hnx] at hc;have HC2:=hid hc;clear hc hbb hnx;go_wp2_with fail;go_roundw
    case rel=>exact⟨r+1,by go_num,by omega,HB5.out,by
     rw[←HC2.out];cases fdP (xs.drop (r+1)) CO FD
     ·rfl
     ·simp;omega⟩
    case measure=>simp[intOf];omega
   ·have hnx:y.core=CO∧y.fd=FD:=by simpa using hbb
    rw[if_pos hnx] at hc;have HC2:=hid hc;clear hc hbb hnx;go_wp2_with fail;go_ret;have h:=HC2.out;simp at h;subst h;exact⟨rfl,HB5.out⟩
  ·have hnil:xs.drop r=[]:=List.drop_eq_nil_of_le (by have:=HI.out.1;omega);rw[hnil,fdP] at hc;have HC:=hid hc;clear hc hnil;go_wp2_with fail;go_ret;exact⟨by rw[←HC.out];rfl,HB.out⟩
theorem z3g (g1 g2:Nat) (CO FD:Int) (xs:List Ds) (A:Option Addr) (n cp:Nat) (w:World) (hI:DescsAt none w A n xs) (hn:n≤1099511627776) (h1:w.cell? ⟨g1,1,.none⟩=some (.int .i64 CO)) (h2:w.cell? ⟨g2,1,.none⟩=some (.int .i64 FD)) (l1:g1<w.heap.size) (l2:g2<w.heap.size):
  Calls Tryz.prog 77 #[.slice A n cp,.func (.func 80) #[] #[.pointer (some ⟨g1,0,.none⟩),.pointer (some ⟨g2,0,.none⟩)]] w fun e w'=>e=.returned (.bool (fdP xs CO FD).isSome)∧Below w.heap.size w w':=by
 obtain⟨R,hR⟩:∃R,(fdP xs CO FD).isSome=R:=⟨_,rfl⟩
 have hd:decide (0≤fdI xs CO FD)=R:=by
  rw[←hR];unfold fdI;cases fdP xs CO FD with
  | none=>rfl
  | some k=>simp
 have hcall:=zay g1 g2 CO FD xs A n cp w hI hn h1 h2 l1 l2;obtain⟨F,hF⟩:∃F,fdI xs CO FD=F:=⟨_,rfl⟩;rw[hF] at hd hcall;rw[hR];have HC:=hid hcall;clear hcall hF hR hI
 go_enter Tryz.func77,Tryz.ntmps77
 go_wp2_with fail;refine HC.out.mono ?_;rintro e5 w5 ⟨rfl,hb5⟩;have HB5:=hid hb5;clear hb5;go_wp2_with fail;go_ret;exact⟨Cv.ret_bool (by first|exact hd|rfl|simp),HB5.out⟩
theorem z4o (A:Option Addr) (n c':Nat) (E:Option Addr) (m d:Nat) (D:Option Addr) (k e:Nat) (s:St) (c:Ca) (r:Re) (F:Option Addr) (f f':Nat) (w:World) (h:StAt none w (.agg #[.slice A n c',.slice E m d,.slice D k e]) s):
  ∃W W2 W3 W4,w.alloc (.cells #[.slice A n c',.slice E m d,.slice D k e] 27)=W∧W.alloc (.cells #[.int .i64 c.kind,.int .i64 c.core,.int .i64 c.fd,.int .i64 c.off,.int .i64 c.num,.string c.path,.string c.path2,.string c.data] 32)=W2∧
   W2.alloc (.cells #[.int .i64 r.code,.int .i64 r.fd,.int .i64 r.num,.bool r.dir,.string r.data,.slice F f f'] 35)=W3∧W3.alloc (.cells #[.slice none 0 0,.slice none 0 0,.slice none 0 0] 27)=W4∧
   W.heap.size=w.heap.size+1∧W2.heap.size=w.heap.size+2∧W3.heap.size=w.heap.size+3∧W4.heap.size=w.heap.size+4∧
   StAt none W4 (.agg #[.slice A n c',.slice E m d,.slice D k e]) s∧OutAt W4 w.heap.size (.slice A n c') (.slice E m d) (.slice D k e)∧W4.heap[w.heap.size+1]? =some (caRow c)∧
   ResAt W4 (w.heap.size+2) (.int .i64 r.code) (.int .i64 r.fd) (.int .i64 r.num) (.bool r.dir) (.string r.data) (.slice F f f')∧OutAt W4 (w.heap.size+3) (.slice none 0 0) (.slice none 0 0) (.slice none 0 0)∧Below w.heap.size w W4:=by
 obtain⟨W,hW⟩:∃W,w.alloc (.cells #[.slice A n c',.slice E m d,.slice D k e] 27)=W:=⟨_,rfl⟩;have l1:Below w.heap.size w W:=by rw[←hW];exact(Below.refl _ _).alloc (Nat.le_refl _) _
 have o1:OutAt W w.heap.size (.slice A n c') (.slice E m d) (.slice D k e):=by rw[←hW];exact heap_alloc_new w _
 have z1:W.heap.size=w.heap.size+1:=by rw[←hW];simp
 obtain⟨W2,hW2,hbc,l2,z2⟩:=z8h W c;obtain⟨W3,hW3⟩:∃W3,W2.alloc (.cells #[.int .i64 r.code,.int .i64 r.fd,.int .i64 r.num,.bool r.dir,.string r.data,.slice F f f'] 35)=W3:=⟨_,rfl⟩;have l3:Below W2.heap.size W2 W3:=by rw[←hW3];exact(Below.refl _ _).alloc (Nat.le_refl _) _
 have z3:W3.heap.size=W2.heap.size+1:=by rw[←hW3];simp
 have r3:ResAt W3 W2.heap.size (.int .i64 r.code) (.int .i64 r.fd) (.int .i64 r.num) (.bool r.dir) (.string r.data) (.slice F f f'):=by rw[←hW3];exact heap_alloc_new W2 _
 obtain⟨W4,hW4⟩:∃W4,W3.alloc (.cells #[.slice none 0 0,.slice none 0 0,.slice none 0 0] 27)=W4:=⟨_,rfl⟩;have l4:Below W3.heap.size W3 W4:=by rw[←hW4];exact(Below.refl _ _).alloc (Nat.le_refl _) _
 have z4:W4.heap.size=W3.heap.size+1:=by rw[←hW4];simp
 have o4:OutAt W4 W3.heap.size (.slice none 0 0) (.slice none 0 0) (.slice none 0 0):=by rw[←hW4];exact heap_alloc_new W3 _
 have l24:=Cv.next l3 l4;have l14:=Cv.next l2 l24;have l04:=Cv.next l1 l14;refine⟨W,W2,W3,W4,hW,hW2,hW3,hW4,z1,by omega,by omega,by omega,h.below l04,(l14.block w.heap.size (by omega)).trans o1,?_,?_,?_,l04⟩
 ·rw[←z1];exact(l24.block W.heap.size (by omega)).trans hbc
 ·rw[show w.heap.size+2=W2.heap.size by omega];exact(l4.block W2.heap.size (by omega)).trans r3
 ·rw[show w.heap.size+3=W3.heap.size by omega];exact o4
theorem z0g (tmps:Array Value) (g:Nat) (a b d:Value) (B:Bool) (w:World) (h6:tmps.getD 6 undef=.pointer (some ⟨g,0,none⟩)) (h7:tmps.getD 7 undef=.bool B) (hO:OutAt w g a b d):
  (results Tryz.f47 tmps).run Tryz.prog w=.ok (.tuple #[.agg #[a,b,d],.bool B]) w:=by
 rw[results_cell_tmp rfl,h6,h7];have hl1:=run_loadVar_row (P:=Tryz.prog) w g _ 27 _ (0,0) _ hO Tryz.underlying27 rfl (by kernel_rfl);simp[asAddr,hl1,Result.andThen]
def AlOut (w:World) (R:St×Bool) (e:Ending) (w':World):Prop:=∃v',e=.returned (.tuple #[v',.bool R.2])∧StAt (some w.heap.size) w' v' R.1∧Below w.heap.size w w'
structure AlAt (w w':World) (A:Option Addr) (n c':Nat) (E:Option Addr) (m d:Nat) (D:Option Addr) (k e:Nat) (s:St) (c:Ca) (r:Re) (F:Option Addr) (f f':Nat):Prop where
 st:StAt none w' (.agg #[.slice A n c',.slice E m d,.slice D k e]) s
 o0:OutAt w' w.heap.size (.slice A n c') (.slice E m d) (.slice D k e)
 ca:w'.heap[w.heap.size+1]? =some (caRow c)
 re:ResAt w' (w.heap.size+2) (.int .i64 r.code) (.int .i64 r.fd) (.int .i64 r.num) (.bool r.dir) (.string r.data) (.slice F f f')
 out:OutAt w' (w.heap.size+3) (.slice none 0 0) (.slice none 0 0) (.slice none 0 0)
 bel:Below w.heap.size w w'
 sz:w.heap.size+4≤w'.heap.size
theorem AlAt.below {w w' w'':World} {A:Option Addr} {n c':Nat} {E:Option Addr} {m d:Nat} {D:Option Addr} {k e:Nat} {s:St} {c:Ca} {r:Re} {F:Option Addr} {f f':Nat} (h:AlAt w w' A n c' E m d D k e s c r F f f') (hb:Below w'.heap.size w' w''):AlAt w w'' A n c' E m d D k e s c r F f f':=by
 have:=h.sz;exact⟨h.st.below hb,(hb.block _ (by omega)).trans h.o0,(hb.block _ (by omega)).trans h.ca,(hb.block _ (by omega)).trans h.re,(hb.block _ (by omega)).trans h.out,Cv.next h.bel hb,Nat.le_trans h.sz hb.size⟩
theorem zf1 (s:St) (c:Ca) (hg:Good s):(looksV s c).names.length≤1099511627776:=by
 unfold looksV
 repeat' (first|exact Nat.zero_le _|split)
 show((entsOf s.inos (findV s.inos c.path).1).map (·.name)).length≤_;rw[List.length_map];unfold entsOf
 split
 ·exact Nat.zero_le _
 ·rename_i x hx;unfold inoAt at hx
  split at hx
  ·cases hx
  ·have:=hg.ents_len (List.mem_of_getElem? hx);omega
theorem zb0 (s:St) (c:Ca):(doV s c).2.names.length≤1099511627776:=by
 unfold doV doF
 split
 ·exact Nat.zero_le _
 ·rename_i h
  have hg:Good s:=by
   rw[←z1b];cases hmv:mayV s
   ·exact absurd (.inl hmv) h
   ·rfl
  split
  ·show(make1V s c).2.names.length≤_;rw[ze1];exact Nat.zero_le _
  ·split
   ·show(openedV s c (-1)).2.1.names.length≤_;unfold openedV
    repeat' (first|exact Nat.zero_le _|split)
   ·split
    ·show(byFdV s c).2.names.length≤_;unfold byFdV
     repeat' (first|exact Nat.zero_le _|split)
    ·split
     ·show(namesV s c).2.names.length≤_;unfold namesV linkV renameV
      repeat' (first|exact Nat.zero_le _|split)
     ·split
      ·exact zf1 s c hg
      ·exact Nat.zero_le _
set_option maxRecDepth 100000 in
set_option maxHeartbeats 8000000 in
theorem zd4 (v rv:Value) (s:St) (c:Ca) (r:Re) (w:World) (h:StAt none w v s) (hr:ResIs none w rv r) (hp1:c.path.size≤140737488355328) (hp2:c.path2.size≤140737488355328) (hds:c.data.size≤140737488355328) (hrn:r.names.length≤1099511627776)
  (hcase:c.kind≠2∨(doV s c).2.code≠0∨r.fd=(doV s c).2.fd):
  Calls Tryz.prog 47 #[v,caV c,rv] w (AlOut w (allowsV s c r)):=by
 obtain⟨AV,hAV⟩:∃AV,allowsV s c r=AV:=⟨_,rfl⟩;have hpl:=zes hcase;rw[hAV] at hpl;rw[hAV];have hnames:(doV s c).2.names.length≤1099511627776:=zb0 s c;obtain⟨R,hR⟩:∃R,doV s c=R:=⟨_,rfl⟩;have hdo:=fun u hu=>z9i v s c u hu hp1 hp2 hds
 simp only[hR] at hdo hpl hcase hnames;obtain⟨A,n,c',E,m,d,D,k,e,rfl,_⟩:=h.at_;obtain⟨F,f,f',rfl,hokF,hnF⟩:=hr;obtain⟨W,W2,W3,W4,hW,hW2,hW3,hW4,z1,z2,z3,z4,hst,ho0,hca,hre,hout,hbel⟩:=z4o A n c' E m d D k e s c r F f f' w h;have hat:AlAt w W4 A n c' E m d D k e s c r F f f':=⟨hst,ho0,hca,hre,hout,hbel,by omega⟩;have hcall:=hdo W4 hst;have HCALL:=hid hcall;have HAT:=hid hat;have HNF:=hid (hnF.below hbel);have HOKF:=hid hokF;have HPL:=hid hpl;have HCASE:=hid hcase;have HNM:=hid hnames;have HRN:=hid hrn;obtain⟨p0,p1,p2,_⟩:=ho0.get;have hca':=hca;unfold caRow at hca';obtain⟨KD,hKD⟩:∃KD,c.kind=KD:=⟨_,rfl⟩;have HKD:=hid hKD;have k0:W4.cell? ⟨w.heap.size+1,0,none⟩=some (.int .i64 c.kind):=by rw[cell_of_row W4 _ _ _ _ (0,0) hca'];rfl
 have k1:W4.cell? ⟨w.heap.size+1,1,none⟩=some (.int .i64 c.core):=by rw[cell_of_row W4 _ _ _ _ (0,0) hca'];rfl
 have k2:W4.cell? ⟨w.heap.size+1,2,none⟩=some (.int .i64 c.fd):=by rw[cell_of_row W4 _ _ _ _ (0,0) hca'];rfl
 have k3:W4.cell? ⟨w.heap.size+1,3,none⟩=some (.int .i64 c.off):=by rw[cell_of_row W4 _ _ _ _ (0,0) hca'];rfl
 have k4:W4.cell? ⟨w.heap.size+1,4,none⟩=some (.int .i64 c.num):=by rw[cell_of_row W4 _ _ _ _ (0,0) hca'];rfl
 have k5:W4.cell? ⟨w.heap.size+1,5,none⟩=some (.string c.path):=by rw[cell_of_row W4 _ _ _ _ (0,0) hca'];rfl
 have k6:W4.cell? ⟨w.heap.size+1,6,none⟩=some (.string c.path2):=by rw[cell_of_row W4 _ _ _ _ (0,0) hca'];rfl
 have k7:W4.cell? ⟨w.heap.size+1,7,none⟩=some (.string c.data):=by rw[cell_of_row W4 _ _ _ _ (0,0) hca'];rfl
 unfold caV at *;clear h hst ho0 hca hca' hre hout hbel hat hcall hdo hp1 hp2 hds hR hnames hrn hokF hnF hAV hKD hpl hcase
 go_enter Tryz.func47,Tryz.ntmps47
 go_wp2_with fail;refine HCALL.out.mono ?_;rintro e5 w5 ⟨zs,vI,vO,vM,gv,rfl,hown5,⟨GA,gn,gc,rfl,hokG,hnG⟩,hb5⟩;obtain⟨A1,c1,rfl,_⟩:=hown5.rowI.slice;obtain⟨A2,c2,rfl,_⟩:=hown5.rowO.slice;obtain⟨A3,c3,rfl,_⟩:=hown5.rowM.slice;obtain⟨V1,hV1⟩:∃V1,w5.alloc (.cells #[.slice A1 zs.length c1,.slice A2 R.1.opn.length c2,.slice A3 R.1.made.length c3] 27)=V1:=⟨_,rfl⟩;have l1:Below w5.heap.size w5 V1:=by rw[←hV1];exact(Below.refl _ _).alloc (Nat.le_refl _) _
 have o1:OutAt V1 w5.heap.size (.slice A1 zs.length c1) (.slice A2 R.1.opn.length c2) (.slice A3 R.1.made.length c3):=by rw[←hV1];exact heap_alloc_new w5 _
 have y1:V1.heap.size=w5.heap.size+1:=by rw[←hV1];simp
 obtain⟨V2,hV2⟩:∃V2,V1.alloc (.cells #[.int .i64 R.2.code,.int .i64 R.2.fd,.int .i64 R.2.num,.bool R.2.dir,.string R.2.data,.slice GA gn gc] 35)=V2:=⟨_,rfl⟩;have l2:Below V1.heap.size V1 V2:=by rw[←hV2];exact(Below.refl _ _).alloc (Nat.le_refl _) _
 have r2:ResAt V2 (w5.heap.size+1) (.int .i64 R.2.code) (.int .i64 R.2.fd) (.int .i64 R.2.num) (.bool R.2.dir) (.string R.2.data) (.slice GA gn gc):=by rw[←y1,←hV2];exact heap_alloc_new V1 _
 have o2:OutAt V2 w5.heap.size (.slice A1 zs.length c1) (.slice A2 R.1.opn.length c2) (.slice A3 R.1.made.length c3):=(l2.block _ (by omega)).trans o1;have l12:=Cv.next l1 l2;have hs5:=HAT.out.sz;have hs45:=hb5.size;have HA2:=hid ((HAT.out.below hb5).below l12);have hown2:=hown5.below l12;have HOW:=hid (hown2.lower (B':=w.heap.size) (by omega));have HOWN:=hid hown2;have HNG:=hid (((hnG.weak).below l12));have HNFV:=hid (HNF.out.below (Cv.next hb5 l12));have HO2:=hid o2;have HR2:=hid r2;have HOKG:=hid hokG;obtain⟨u0,u1,u2,uf⟩:=o2.get;obtain⟨g0,g1,g2,g3,g4,g5,_⟩:=r2.get;obtain⟨i0,i1,i2,i3,i4,i5,_⟩:=HA2.out.re.get;obtain⟨q0,q1,q2,qf⟩:=HA2.out.o0.get;have hca2:=HA2.out.ca;unfold caRow at hca2;have j0:V2.cell? ⟨w.heap.size+1,0,none⟩=some (.int .i64 KD):=by rw[cell_of_row V2 _ _ _ _ (0,0) hca2,←HKD.out];rfl
 have j1:V2.cell? ⟨w.heap.size+1,1,none⟩=some (.int .i64 c.core):=by rw[cell_of_row V2 _ _ _ _ (0,0) hca2];rfl
 obtain⟨RC,hRC⟩:∃RC,R.2.code=RC:=⟨_,rfl⟩;have hs2:=l12.size;have hszV:V2.heap.size=w5.heap.size+2:=by rw[←hV2];simp;omega
 clear hW hW2 hW3 hW4 hown5 hb5 l1 o1 l2 r2 o2 l12 hown2 hokG hnG hca2 p0 p1 p2 k0 k1 k2 k3 k4 k5 k6 k7;obtain⟨SR,hSR⟩:∃SR,sameR R.2 r=SR:=⟨_,rfl⟩;have hpl:=HPL.out;rw[hSR] at hpl;have HPL2:=hid hpl;have hsame:=zer (.agg #[.int .i64 R.2.code,.int .i64 R.2.fd,.int .i64 R.2.num,.bool R.2.dir,.string R.2.data,.slice GA gn gc]) (.agg #[.int .i64 r.code,.int .i64 r.fd,.int .i64 r.num,.bool r.dir,.string r.data,.slice F f f']) R.2 r V2 ⟨GA,gn,gc,rfl,HOKG.out,HNG.out⟩ ⟨F,f,f',rfl,HOKF.out,HNFV.out⟩ HNM.out HRN.out;rw[hSR] at hsame;have HSAME:=hid hsame;clear hpl hsame hSR
 by_cases hc1:KD=2
 rotate_left
 ·have qk:(KD != 2)=true:=by rw[bne_iff_ne];exact hc1
  clear hc1 hRC;go_wp2_with fail;refine HSAME.out.mono ?_;rintro e6 w6 ⟨rfl,hb6⟩;have HA6:=hid (HA2.out.below hb6);have HOW6:=hid (HOW.out.below hb6);obtain⟨q06,q16,q26,_⟩:=HA6.out.o0.get;have HO6:Hid (OutAt w6 w5.heap.size _ _ _):=hid ((hb6.block w5.heap.size (by omega)).trans HO2.out);obtain⟨m0,m1,m2,mf⟩:=HO6.out.get;clear hb6 u0 u1 u2 uf g0 g1 g2 g3 g4 g5 i0 i1 i2 i3 i4 i5 q0 q1 q2 qf j0 j1 hV1 hV2;cases SR
  ·have hfin:=HPL2.out;rw[if_neg (by decide)] at hfin;have HFIN:=hid hfin;clear hfin;go_wp2_with fail;refine(z0r _ s w6 HA6.out.st).mono ?_;rintro e8 w8 ⟨zs8,vI8,vO8,vM8,rfl,hown8,hb8⟩;obtain⟨A8,c8,rfl,_⟩:=hown8.rowI.slice;obtain⟨B8,d8,rfl,_⟩:=hown8.rowO.slice;obtain⟨C8,e8',rfl,_⟩:=hown8.rowM.slice;have hA8:=HA6.out.below hb8;obtain⟨x0,x1,x2,xf⟩:=hA8.out.get;have xf0:=xf 0;have xf1:=xf 1;have xf2:=xf 2;obtain⟨U4,hU4,hr4,hk4,hB4⟩:=hA8.out.three (.slice A8 zs8.length c8) (.slice B8 s.opn.length d8) (.slice C8 s.made.length e8');have hown9:OwnR w.heap.size U4 s zs8 (.slice A8 zs8.length c8) (.slice B8 s.opn.length d8) (.slice C8 s.made.length e8'):=(hown8.lower (B':=w.heap.size) (by have:=HA6.out.sz;omega)).keep (hk4 _ (by decide)) (hk4 _ (by decide)) (hk4 _ (by decide)) (hk4 _ (by decide));have HF:=hid (And.intro hr4 (And.intro hown9 (hB4 w.heap.size w (by omega) hA8.bel)))
   clear hown8 hb8 hA8 hr4 hk4 hB4 hown9 xf;go_wp2_with fail
   (try simp only[Exit.inBlock,Exit.then])
   refine bodyPost_ret (z0g _ (w.heap.size+3) _ _ _ false U4 rfl rfl HF.out.1) rfl ⟨_,by rw[HFIN.out],by rw[HFIN.out];exact HF.out.2.1.st,HF.out.2.2⟩
  ·have hfin:=HPL2.out;rw[if_pos rfl] at hfin;have HFIN:=hid hfin;clear hfin;obtain⟨x0,x1,x2,xf⟩:=HA6.out.out.get;have xf0:=xf 0;have xf1:=xf 1;have xf2:=xf 2;obtain⟨U4,hU4,hr4,hk4,hB4⟩:=HA6.out.out.three (.slice A1 zs.length c1) (.slice A2 R.1.opn.length c2) (.slice A3 R.1.made.length c3);have hown9:=(HOW6.out).keep (hk4 _ (by decide)) (hk4 _ (by decide)) (hk4 _ (by decide)) (hk4 _ (by decide));have HF:=hid (And.intro hr4 (And.intro hown9 (hB4 w.heap.size w (by omega) HA6.out.bel)));clear hr4 hk4 hB4 hown9 xf;go_wp2_with fail
   (try simp only[Exit.inBlock,Exit.then])
   refine bodyPost_ret (z0g _ (w.heap.size+3) _ _ _ true U4 rfl rfl HF.out.1) rfl ⟨_,by rw[HFIN.out],by rw[HFIN.out];exact HF.out.2.1.st,HF.out.2.2⟩
 have qk:(KD != 2)=false:=by rw[hc1];rfl
 by_cases hc2:RC=0
 rotate_left
 ·have qc:(RC != 0)=true:=by rw[bne_iff_ne];exact hc2
  rw[hRC] at g0 hV2;clear hc1 hc2;go_wp2_with fail;rw[←hRC];refine HSAME.out.mono ?_;rintro e6 w6 ⟨rfl,hb6⟩;have HA6:=hid (HA2.out.below hb6);have HOW6:=hid (HOW.out.below hb6);obtain⟨q06,q16,q26,_⟩:=HA6.out.o0.get;have HO6:Hid (OutAt w6 w5.heap.size _ _ _):=hid ((hb6.block w5.heap.size (by omega)).trans HO2.out);obtain⟨m0,m1,m2,mf⟩:=HO6.out.get;clear hb6 u0 u1 u2 uf g0 g1 g2 g3 g4 g5 i0 i1 i2 i3 i4 i5 q0 q1 q2 qf j0 j1 hV1 hV2;cases SR
  ·have hfin:=HPL2.out;rw[if_neg (by decide)] at hfin;have HFIN:=hid hfin;clear hfin;go_wp2_with fail;refine(z0r _ s w6 HA6.out.st).mono ?_;rintro e8 w8 ⟨zs8,vI8,vO8,vM8,rfl,hown8,hb8⟩;obtain⟨A8,c8,rfl,_⟩:=hown8.rowI.slice;obtain⟨B8,d8,rfl,_⟩:=hown8.rowO.slice;obtain⟨C8,e8',rfl,_⟩:=hown8.rowM.slice;have hA8:=HA6.out.below hb8;obtain⟨x0,x1,x2,xf⟩:=hA8.out.get;have xf0:=xf 0;have xf1:=xf 1;have xf2:=xf 2;obtain⟨U4,hU4,hr4,hk4,hB4⟩:=hA8.out.three (.slice A8 zs8.length c8) (.slice B8 s.opn.length d8) (.slice C8 s.made.length e8');have hown9:OwnR w.heap.size U4 s zs8 (.slice A8 zs8.length c8) (.slice B8 s.opn.length d8) (.slice C8 s.made.length e8'):=(hown8.lower (B':=w.heap.size) (by have:=HA6.out.sz;omega)).keep (hk4 _ (by decide)) (hk4 _ (by decide)) (hk4 _ (by decide)) (hk4 _ (by decide));have HF:=hid (And.intro hr4 (And.intro hown9 (hB4 w.heap.size w (by omega) hA8.bel)))
   clear hown8 hb8 hA8 hr4 hk4 hB4 hown9 xf;go_wp2_with fail
   (try simp only[Exit.inBlock,Exit.then])
   refine bodyPost_ret (z0g _ (w.heap.size+3) _ _ _ false U4 rfl rfl HF.out.1) rfl ⟨_,by rw[HFIN.out],by rw[HFIN.out];exact HF.out.2.1.st,HF.out.2.2⟩
  ·have hfin:=HPL2.out;rw[if_pos rfl] at hfin;have HFIN:=hid hfin;clear hfin;obtain⟨x0,x1,x2,xf⟩:=HA6.out.out.get;have xf0:=xf 0;have xf1:=xf 1;have xf2:=xf 2;obtain⟨U4,hU4,hr4,hk4,hB4⟩:=HA6.out.out.three (.slice A1 zs.length c1) (.slice A2 R.1.opn.length c2) (.slice A3 R.1.made.length c3);have hown9:=(HOW6.out).keep (hk4 _ (by decide)) (hk4 _ (by decide)) (hk4 _ (by decide)) (hk4 _ (by decide));have HF:=hid (And.intro hr4 (And.intro hown9 (hB4 w.heap.size w (by omega) HA6.out.bel)));clear hr4 hk4 hB4 hown9 xf;go_wp2_with fail
   (try simp only[Exit.inBlock,Exit.then])
   refine bodyPost_ret (z0g _ (w.heap.size+3) _ _ _ true U4 rfl rfl HF.out.1) rfl ⟨_,by rw[HFIN.out],by rw[HFIN.out];exact HF.out.2.1.st,HF.out.2.2⟩
 have hc3:r.fd=R.2.fd:=by
  have hcase:=HCASE.out;rw[HKD.out,hRC] at hcase
  rcases hcase with h|h|h
  ·exact absurd hc1 h
  ·exact absurd hc2 h
  ·exact h
 have qf:(r.fd==R.2.fd)=true:=by rw[beq_iff_eq];exact hc3
 rw[hRC,hc2] at g0 hV2;clear hc1 hc3;go_wp2_with fail;rw[show(0:Int)=R.2.code by rw[hRC,hc2]];refine HSAME.out.mono ?_;rintro e6 w6 ⟨rfl,hb6⟩;have HA6:=hid (HA2.out.below hb6);have HOW6:=hid (HOW.out.below hb6);obtain⟨q06,q16,q26,_⟩:=HA6.out.o0.get;have HO6:Hid (OutAt w6 w5.heap.size _ _ _):=hid ((hb6.block w5.heap.size (by omega)).trans HO2.out);obtain⟨m0,m1,m2,mf⟩:=HO6.out.get;clear hb6 u0 u1 u2 uf g0 g1 g2 g3 g4 g5 i0 i1 i2 i3 i4 i5 q0 q1 q2 qf j0 j1 hV1 hV2;cases SR
 ·have hfin:=HPL2.out;rw[if_neg (by decide)] at hfin;have HFIN:=hid hfin;clear hfin;go_wp2_with fail;refine(z0r _ s w6 HA6.out.st).mono ?_;rintro e8 w8 ⟨zs8,vI8,vO8,vM8,rfl,hown8,hb8⟩;obtain⟨A8,c8,rfl,_⟩:=hown8.rowI.slice;obtain⟨B8,d8,rfl,_⟩:=hown8.rowO.slice;obtain⟨C8,e8',rfl,_⟩:=hown8.rowM.slice;have hA8:=HA6.out.below hb8;obtain⟨x0,x1,x2,xf⟩:=hA8.out.get;have xf0:=xf 0;have xf1:=xf 1;have xf2:=xf 2;obtain⟨U4,hU4,hr4,hk4,hB4⟩:=hA8.out.three (.slice A8 zs8.length c8) (.slice B8 s.opn.length d8) (.slice C8 s.made.length e8');have hown9:OwnR w.heap.size U4 s zs8 (.slice A8 zs8.length c8) (.slice B8 s.opn.length d8) (.slice C8 s.made.length e8'):=(hown8.lower (B':=w.heap.size) (by have:=HA6.out.sz;omega)).keep (hk4 _ (by decide)) (hk4 _ (by decide)) (hk4 _ (by decide)) (hk4 _ (by decide));have HF:=hid (And.intro hr4 (And.intro hown9 (hB4 w.heap.size w (by omega) hA8.bel)))
  clear hown8 hb8 hA8 hr4 hk4 hB4 hown9 xf;go_wp2_with fail
  (try simp only[Exit.inBlock,Exit.then])
  refine bodyPost_ret (z0g _ (w.heap.size+3) _ _ _ false U4 rfl rfl HF.out.1) rfl ⟨_,by rw[HFIN.out],by rw[HFIN.out];exact HF.out.2.1.st,HF.out.2.2⟩
 ·have hfin:=HPL2.out;rw[if_pos rfl] at hfin;have HFIN:=hid hfin;clear hfin;obtain⟨x0,x1,x2,xf⟩:=HA6.out.out.get;have xf0:=xf 0;have xf1:=xf 1;have xf2:=xf 2;obtain⟨U4,hU4,hr4,hk4,hB4⟩:=HA6.out.out.three (.slice A1 zs.length c1) (.slice A2 R.1.opn.length c2) (.slice A3 R.1.made.length c3);have hown9:=(HOW6.out).keep (hk4 _ (by decide)) (hk4 _ (by decide)) (hk4 _ (by decide)) (hk4 _ (by decide));have HF:=hid (And.intro hr4 (And.intro hown9 (hB4 w.heap.size w (by omega) HA6.out.bel)));clear hr4 hk4 hB4 hown9 xf;go_wp2_with fail
  (try simp only[Exit.inBlock,Exit.then])
  refine bodyPost_ret (z0g _ (w.heap.size+3) _ _ _ true U4 rfl rfl HF.out.1) rfl ⟨_,by rw[HFIN.out],by rw[HFIN.out];exact HF.out.2.1.st,HF.out.2.2⟩
end Go.Proofs.YtkflaifopbodfaaGreatDoor
