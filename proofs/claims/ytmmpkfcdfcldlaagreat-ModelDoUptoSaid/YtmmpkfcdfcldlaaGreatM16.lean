/- Parts of the proof, side by side: Kept, KeptSt, MoFind, MoFind2. -/
import Derived.Test.YtmmpkfcdfcldlaaGreatM13
import Derived.Test.YtmmpkfcdfcldlaaGreatFsEqual
import Derived.Test.YtmmpkfcdfcldlaaGreatLendSt
import Derived.Test.YtmmpkfcdfcldlaaGreatM02
set_option linter.unusedVariables false
set_option linter.unusedSimpArgs false
namespace Go.Proofs.YtmmpkfcdfcldlaaGreat
open Lib (hid)
open Go.RowKit
theorem zl9 (a:ByteArray) (p:Int) (w:World):(binOp .eql 73 (.agg #[.string a,.int .i64 p]) (.agg #[.string a,.int .i64 p])).run Tryz.prog w=.ok (.bool true) w:=by
 have u3:=Tryz.underlying3;have u4:=Tryz.underlying9;have hS:Tryz.prog.underlying 73=some (.struct (Tryz.prog.fieldsOf 73)):=by kernel_rfl
 have hp:Tryz.prog.stoodInHeld 73=false:=by kernel_rfl
 rw[run_eql_struct,show(10000:Nat)=9999+1 from rfl,run_equalIn_agg w 9999 73 _ _ hS hp];simp only[Program.fieldsOf,Tryz.underlying73]
 go_simp
theorem zla (a b c:Int) (w:World):(binOp .eql 75 (.agg #[.int .i64 a,.int .i64 b,.int .i64 c]) (.agg #[.int .i64 a,.int .i64 b,.int .i64 c])).run Tryz.prog w=.ok (.bool true) w:=by
 have u3:=Tryz.underlying3;have hS:Tryz.prog.underlying 75=some (.struct (Tryz.prog.fieldsOf 75)):=by kernel_rfl
 have hp:Tryz.prog.stoodInHeld 75=false:=by kernel_rfl
 rw[run_eql_struct,show(10000:Nat)=9999+1 from rfl,run_equalIn_agg w 9999 75 _ _ hS hp];simp only[Program.fieldsOf,Tryz.underlying75]
 go_simp
theorem zhf (x y:Operand) (a b:Array Value) (w:World):(eqGuard .eql 73 x y (.agg a) (.agg b)).run Tryz.prog w=.ok () w:=run_eqGuard_agg w _ _ _ _ _ _ (by kernel_rfl)
theorem zhg (x y:Operand) (a b:Array Value) (w:World):(eqGuard .eql 75 x y (.agg a) (.agg b)).run Tryz.prog w=.ok () w:=run_eqGuard_agg w _ _ _ _ _ _ (by kernel_rfl)
set_option maxRecDepth 100000 in
set_option maxHeartbeats 2000000 in
theorem zby (A A':Option Addr) (n c c':Nat) (es:List En) (w:World) (h:EntsAt none w A n es) (h':EntsAt none w A' n es) (hn:n≤1099511627776):
  Calls Tryz.prog 87 #[.slice A n c,.slice A' n c'] w fun e w'=>e=.returned (.bool true)∧Below w.heap.size w w':=by
 have HF:=hid h;have HF':=hid h';have hnn:((n:Int) != (n:Int))=false:=by simp
 clear h h'
 go_enter Tryz.func87,Tryz.ntmps87
 go_wp2_with fail
 go_loopw [5] (fun i wr=>∃q:Nat,i=.int .i64 q∧q≤n∧Below w.heap.size w wr) (fun i _=>n-(intOf i).toNat)
 case atStart=>exact⟨0,rfl,by omega,Below.refl _ _⟩
 case round=>
  obtain⟨q,rfl,hq,hbel⟩:=hrel;have HB:=hid hbel;clear hbel
  by_cases hlt:q<n
  ·obtain⟨g1,o1,y,rfl,hg1,hy,hdr,hmem,f0,f1⟩:=(HF.out.below HB.out).get q hlt;obtain⟨g2,o2,y',rfl,hg2,hy',hdr',hmem',f0',f1'⟩:=(HF'.out.below HB.out).get q hlt;obtain rfl:y=y':=by rw[hy] at hy';exact Option.some.inj hy'
   have r1:decide ((q:Int)<(n:Int))=true:=by rw[decide_eq_true_eq];omega
   have r2:(0:Int)≤(q:Int):=by omega
   have r3:(q:Int)<(n:Int):=by omega
   have hne:=z8a y.name y.num;have hgu:=zah;clear hy hy' hdr hdr' hmem hmem';go_wp2_with fail;go_region;go_wp2_with fail;go_roundw
   case rel=>exact⟨q+1,by go_num,by omega,HB.out.drew⟩
   case measure=>simp[intOf];omega
  ·obtain rfl:q=n:=by omega
   have r1:decide ((q:Int)<(q:Int))=false:=by rw[decide_eq_false_iff_not];omega
   go_wp2_with fail;go_ret;exact⟨rfl,HB.out⟩
set_option maxRecDepth 100000 in
set_option maxHeartbeats 2000000 in
theorem zbz (lo:Nat) (A A':Option Addr) (n c c':Nat) (es:List En) (w:World) (h:Lent lo w 73 2 A n c (es.flatMap enV) [.string ⟨#[126]⟩,.int .i64 0,.string ⟨#[126]⟩,.int .i64 0]) (ha:EntsAt none w A n es) (h':EntsAt none w A' n es) (hn:n≤1099511627776):
  Calls Tryz.prog 35 #[.slice A n c,.slice A' n c'] w fun e w'=>e=.returned (.bool true)∧Below w.heap.size w w':=by
 obtain⟨g0,cur,rfl,_,_,hnc,hcm,_,hxl,_⟩:=id h;obtain⟨g,hg0,hgl,hc⟩:=h.cell;obtain rfl:g0=g:=by injection hg0 with h9;injection h9
 obtain⟨xs,hxs⟩:∃xs,(es.flatMap enV)=xs:=⟨_,rfl⟩;rw[hxs] at hc hxl;have HC:=hid (show ∀w',Below w.heap.size w w'→∀j u,(xs++[.string ⟨#[126]⟩,.int .i64 0,.string ⟨#[126]⟩,.int .i64 0])[j]? =some u→w'.cell? ⟨g0,j,none⟩=some u from fun w' hb j u hj=>(hb.cell (p:=⟨g0,j,none⟩) hgl).trans (hc j u hj));have HS:=hid (zby (some ⟨g0,0,none⟩) A' n c c' es w ha h' hn);have hw2:IntKind.i64.wrap ((n:Int)+2)=((n+2:Nat):Int):=by rw[IntWalk.i64_in _ (by omega)];omega
 have hw1:IntKind.i64.wrap ((n:Int)+1)=((n+1:Nat):Int):=by rw[IntWalk.i64_in _ (by omega)];omega
 have i0:(0:Int)≤(n:Int):=by omega
 have i1:(n:Int)<((n+2:Nat):Int):=by omega
 have i2:((n+1:Nat):Int)<((n+2:Nat):Int):=by omega
 have i3:(0:Int)≤((n+1:Nat):Int):=by omega
 have i4:((n+2:Nat):Int)≤(c:Int):=by omega
 have i5:(0:Int)≤((n+2:Nat):Int):=by omega
 have h1:=zl9 ⟨#[126]⟩ 0;have h2:=zhf;have HXL:=hid hxl;clear h ha h' hg0 hc hxs
 go_enter Tryz.func35,Tryz.ntmps35
 go_wp2_with fail;refine HS.out.mono ?_;rintro e1 w1 ⟨rfl,hb⟩;have HB:=hid hb;have hc:=HC.out w1 hb;have hxl:=HXL.out;have d0a:w1.cell? ⟨g0,n*2,none⟩=some (.string ⟨#[126]⟩):=hc (n*2) _ (by rw[show n*2=xs.length+0 by omega,List.getElem?_append_right (by omega),Nat.add_sub_cancel_left];rfl);have d1a:w1.cell? ⟨g0,n*2+1,none⟩=some (.int .i64 0):=hc (n*2+1) _ (by rw[show n*2+1=xs.length+1 by omega,List.getElem?_append_right (by omega),Nat.add_sub_cancel_left];rfl);have d2a:w1.cell? ⟨g0,n*2+2,none⟩=some (.string ⟨#[126]⟩):=hc (n*2+2) _ (by rw[show n*2+2=xs.length+2 by omega,List.getElem?_append_right (by omega),Nat.add_sub_cancel_left];rfl);have d2b:w1.cell? ⟨g0,(n+1)*2,none⟩=some (.string ⟨#[126]⟩):=hc ((n+1)*2) _ (by rw[show(n+1)*2=xs.length+2 by omega,List.getElem?_append_right (by omega),Nat.add_sub_cancel_left];rfl)
 have d3a:w1.cell? ⟨g0,n*2+3,none⟩=some (.int .i64 0):=hc (n*2+3) _ (by rw[show n*2+3=xs.length+3 by omega,List.getElem?_append_right (by omega),Nat.add_sub_cancel_left];rfl);have d3b:w1.cell? ⟨g0,(n+1)*2+1,none⟩=some (.int .i64 0):=hc ((n+1)*2+1) _ (by rw[show(n+1)*2+1=xs.length+3 by omega,List.getElem?_append_right (by omega),Nat.add_sub_cancel_left];rfl);clear hc hb;go_wp2_with fail;go_ret;exact⟨rfl,HB.out⟩
set_option maxRecDepth 100000 in
set_option maxHeartbeats 2000000 in
theorem zb5 (A A':Option Addr) (n c c':Nat) (es:List Ds) (w:World) (h:DescsAt none w A n es) (h':DescsAt none w A' n es) (hn:n≤1099511627776):
  Calls Tryz.prog 85 #[.slice A n c,.slice A' n c'] w fun e w'=>e=.returned (.bool true)∧Below w.heap.size w w':=by
 have HF:=hid h;have HF':=hid h';have hnn:((n:Int) != (n:Int))=false:=by simp
 clear h h'
 go_enter Tryz.func85,Tryz.ntmps85
 go_wp2_with fail
 go_loopw [5] (fun i wr=>∃q:Nat,i=.int .i64 q∧q≤n∧Below w.heap.size w wr) (fun i _=>n-(intOf i).toNat)
 case atStart=>exact⟨0,rfl,by omega,Below.refl _ _⟩
 case round=>
  obtain⟨q,rfl,hq,hbel⟩:=hrel;have HB:=hid hbel;clear hbel
  by_cases hlt:q<n
  ·obtain⟨g1,o1,y,rfl,hg1,hy,hdr,hmem,f0,f1,f2⟩:=(HF.out.below HB.out).get q hlt;obtain⟨g2,o2,y',rfl,hg2,hy',hdr',hmem',f0',f1',f2'⟩:=(HF'.out.below HB.out).get q hlt;obtain rfl:y=y':=by rw[hy] at hy';exact Option.some.inj hy'
   have r1:decide ((q:Int)<(n:Int))=true:=by rw[decide_eq_true_eq];omega
   have r2:(0:Int)≤(q:Int):=by omega
   have r3:(q:Int)<(n:Int):=by omega
   have hne:=z8b y.core y.fd y.num;have hgu:=zai;clear hy hy' hdr hdr' hmem hmem';go_wp2_with fail;go_region;go_wp2_with fail;go_roundw
   case rel=>exact⟨q+1,by go_num,by omega,HB.out.drew⟩
   case measure=>simp[intOf];omega
  ·obtain rfl:q=n:=by omega
   have r1:decide ((q:Int)<(q:Int))=false:=by rw[decide_eq_false_iff_not];omega
   go_wp2_with fail;go_ret;exact⟨rfl,HB.out⟩
set_option maxRecDepth 100000 in
set_option maxHeartbeats 2000000 in
theorem zb6 (lo:Nat) (A A':Option Addr) (n c c':Nat) (es:List Ds) (w:World) (h:Lent lo w 75 3 A n c (es.flatMap dsV) [.int .i64 77777,.int .i64 0,.int .i64 0,.int .i64 77777,.int .i64 0,.int .i64 0]) (ha:DescsAt none w A n es) (h':DescsAt none w A' n es) (hn:n≤1099511627776):
  Calls Tryz.prog 33 #[.slice A n c,.slice A' n c'] w fun e w'=>e=.returned (.bool true)∧Below w.heap.size w w':=by
 obtain⟨g0,cur,rfl,_,_,hnc,hcm,_,hxl,_⟩:=id h;obtain⟨g,hg0,hgl,hc⟩:=h.cell;obtain rfl:g0=g:=by injection hg0 with h9;injection h9
 obtain⟨xs,hxs⟩:∃xs,(es.flatMap dsV)=xs:=⟨_,rfl⟩;rw[hxs] at hc hxl;have HC:=hid (show ∀w',Below w.heap.size w w'→∀j u,(xs++[.int .i64 77777,.int .i64 0,.int .i64 0,.int .i64 77777,.int .i64 0,.int .i64 0])[j]? =some u→w'.cell? ⟨g0,j,none⟩=some u from fun w' hb j u hj=>(hb.cell (p:=⟨g0,j,none⟩) hgl).trans (hc j u hj));have HS:=hid (zb5 (some ⟨g0,0,none⟩) A' n c c' es w ha h' hn);have hw2:IntKind.i64.wrap ((n:Int)+2)=((n+2:Nat):Int):=by rw[IntWalk.i64_in _ (by omega)];omega
 have hw1:IntKind.i64.wrap ((n:Int)+1)=((n+1:Nat):Int):=by rw[IntWalk.i64_in _ (by omega)];omega
 have i0:(0:Int)≤(n:Int):=by omega
 have i1:(n:Int)<((n+2:Nat):Int):=by omega
 have i2:((n+1:Nat):Int)<((n+2:Nat):Int):=by omega
 have i3:(0:Int)≤((n+1:Nat):Int):=by omega
 have i4:((n+2:Nat):Int)≤(c:Int):=by omega
 have i5:(0:Int)≤((n+2:Nat):Int):=by omega
 have h1:=zla 77777 0 0;have h2:=zhg;have HXL:=hid hxl;clear h ha h' hg0 hc hxs
 go_enter Tryz.func33,Tryz.ntmps33
 go_wp2_with fail;refine HS.out.mono ?_;rintro e1 w1 ⟨rfl,hb⟩;have HB:=hid hb;have hc:=HC.out w1 hb;have hxl:=HXL.out;have d0a:w1.cell? ⟨g0,n*3,none⟩=some (.int .i64 77777):=hc (n*3) _ (by rw[show n*3=xs.length+0 by omega,List.getElem?_append_right (by omega),Nat.add_sub_cancel_left];rfl);have d1a:w1.cell? ⟨g0,n*3+1,none⟩=some (.int .i64 0):=hc (n*3+1) _ (by rw[show n*3+1=xs.length+1 by omega,List.getElem?_append_right (by omega),Nat.add_sub_cancel_left];rfl);have d2a:w1.cell? ⟨g0,n*3+2,none⟩=some (.int .i64 0):=hc (n*3+2) _ (by rw[show n*3+2=xs.length+2 by omega,List.getElem?_append_right (by omega),Nat.add_sub_cancel_left];rfl);have d3a:w1.cell? ⟨g0,n*3+3,none⟩=some (.int .i64 77777):=hc (n*3+3) _ (by rw[show n*3+3=xs.length+3 by omega,List.getElem?_append_right (by omega),Nat.add_sub_cancel_left];rfl)
 have d3b:w1.cell? ⟨g0,(n+1)*3,none⟩=some (.int .i64 77777):=hc ((n+1)*3) _ (by rw[show(n+1)*3=xs.length+3 by omega,List.getElem?_append_right (by omega),Nat.add_sub_cancel_left];rfl);have d4a:w1.cell? ⟨g0,n*3+4,none⟩=some (.int .i64 0):=hc (n*3+4) _ (by rw[show n*3+4=xs.length+4 by omega,List.getElem?_append_right (by omega),Nat.add_sub_cancel_left];rfl);have d4b:w1.cell? ⟨g0,(n+1)*3+1,none⟩=some (.int .i64 0):=hc ((n+1)*3+1) _ (by rw[show(n+1)*3+1=xs.length+4 by omega,List.getElem?_append_right (by omega),Nat.add_sub_cancel_left];rfl);have d5a:w1.cell? ⟨g0,n*3+5,none⟩=some (.int .i64 0):=hc (n*3+5) _ (by rw[show n*3+5=xs.length+5 by omega,List.getElem?_append_right (by omega),Nat.add_sub_cancel_left];rfl);have d5b:w1.cell? ⟨g0,(n+1)*3+2,none⟩=some (.int .i64 0):=hc ((n+1)*3+2) _ (by rw[show(n+1)*3+2=xs.length+5 by omega,List.getElem?_append_right (by omega),Nat.add_sub_cancel_left];rfl)
 clear hc hb;go_wp2_with fail;go_ret;exact⟨rfl,HB.out⟩
set_option maxRecDepth 100000 in
set_option maxHeartbeats 2000000 in
theorem zc0 (A A':Option Addr) (n c c':Nat) (es:List Int) (w:World) (h:IntsAt none w A n es) (h':IntsAt none w A' n es) (hn:n≤1099511627776):
  Calls Tryz.prog 86 #[.slice A n c,.slice A' n c'] w fun e w'=>e=.returned (.bool true)∧Below w.heap.size w w':=by
 have HF:=hid h;have HF':=hid h';have hnn:((n:Int) != (n:Int))=false:=by simp
 clear h h'
 go_enter Tryz.func86,Tryz.ntmps86
 go_wp2_with fail
 go_loopw [5] (fun i wr=>∃q:Nat,i=.int .i64 q∧q≤n∧Below w.heap.size w wr) (fun i _=>n-(intOf i).toNat)
 case atStart=>exact⟨0,rfl,by omega,Below.refl _ _⟩
 case round=>
  obtain⟨q,rfl,hq,hbel⟩:=hrel;have HB:=hid hbel;clear hbel
  by_cases hlt:q<n
  ·obtain⟨g1,o1,y,rfl,hg1,hy,hdr,hmem,f0⟩:=(HF.out.below HB.out).get q hlt;obtain⟨g2,o2,y',rfl,hg2,hy',hdr',hmem',f0'⟩:=(HF'.out.below HB.out).get q hlt;obtain rfl:y=y':=by rw[hy] at hy';exact Option.some.inj hy'
   have r1:decide ((q:Int)<(n:Int))=true:=by rw[decide_eq_true_eq];omega
   have r2:(0:Int)≤(q:Int):=by omega
   have r3:(q:Int)<(n:Int):=by omega
   have hne:(y != y)=false:=by simp
   clear hy hy' hdr hdr' hmem hmem';go_wp2_with fail;go_region;go_wp2_with fail;go_roundw
   case rel=>exact⟨q+1,by go_num,by omega,HB.out.drew⟩
   case measure=>simp[intOf];omega
  ·obtain rfl:q=n:=by omega
   have r1:decide ((q:Int)<(q:Int))=false:=by rw[decide_eq_false_iff_not];omega
   go_wp2_with fail;go_ret;exact⟨rfl,HB.out⟩
set_option maxRecDepth 100000 in
set_option maxHeartbeats 2000000 in
theorem zc1 (lo:Nat) (A A':Option Addr) (n c c':Nat) (es:List Int) (w:World) (h:Lent lo w 3 1 A n c (es.map (Value.int .i64)) [.int .i64 (-7777),.int .i64 (-8888)]) (ha:IntsAt none w A n es) (h':IntsAt none w A' n es) (hn:n≤1099511627776):
  Calls Tryz.prog 34 #[.slice A n c,.slice A' n c'] w fun e w'=>e=.returned (.bool true)∧Below w.heap.size w w':=by
 obtain⟨g0,cur,rfl,_,_,hnc,hcm,_,hxl,_⟩:=id h;obtain⟨g,hg0,hgl,hc⟩:=h.cell;obtain rfl:g0=g:=by injection hg0 with h9;injection h9
 obtain⟨xs,hxs⟩:∃xs,(es.map (Value.int .i64))=xs:=⟨_,rfl⟩;rw[hxs] at hc hxl;have HC:=hid (show ∀w',Below w.heap.size w w'→∀j u,(xs++[.int .i64 (-7777),.int .i64 (-8888)])[j]? =some u→w'.cell? ⟨g0,j,none⟩=some u from fun w' hb j u hj=>(hb.cell (p:=⟨g0,j,none⟩) hgl).trans (hc j u hj));have HS:=hid (zc0 (some ⟨g0,0,none⟩) A' n c c' es w ha h' hn);have hw2:IntKind.i64.wrap ((n:Int)+2)=((n+2:Nat):Int):=by rw[IntWalk.i64_in _ (by omega)];omega
 have hw1:IntKind.i64.wrap ((n:Int)+1)=((n+1:Nat):Int):=by rw[IntWalk.i64_in _ (by omega)];omega
 have i0:(0:Int)≤(n:Int):=by omega
 have i1:(n:Int)<((n+2:Nat):Int):=by omega
 have i2:((n+1:Nat):Int)<((n+2:Nat):Int):=by omega
 have i3:(0:Int)≤((n+1:Nat):Int):=by omega
 have i4:((n+2:Nat):Int)≤(c:Int):=by omega
 have i5:(0:Int)≤((n+2:Nat):Int):=by omega
 have h1:((-7777:Int)==-7777)=true:=by decide
 have h2:((-8888:Int)==-8888)=true:=by decide
 have HXL:=hid hxl;clear h ha h' hg0 hc hxs
 go_enter Tryz.func34,Tryz.ntmps34
 go_wp2_with fail;refine HS.out.mono ?_;rintro e1 w1 ⟨rfl,hb⟩;have HB:=hid hb;have hc:=HC.out w1 hb;have hxl:=HXL.out;have d0a:w1.cell? ⟨g0,n,none⟩=some (.int .i64 (-7777)):=hc (n) _ (by rw[show n=xs.length+0 by omega,List.getElem?_append_right (by omega),Nat.add_sub_cancel_left];rfl);have d1a:w1.cell? ⟨g0,n+1,none⟩=some (.int .i64 (-8888)):=hc (n+1) _ (by rw[show n+1=xs.length+1 by omega,List.getElem?_append_right (by omega),Nat.add_sub_cancel_left];rfl);clear hc hb;go_wp2_with fail;go_ret;exact⟨rfl,HB.out⟩
theorem Lent.entsAt {lo:Nat} {w:World} {A:Option Addr} {n c:Nat} {es:List En} {ms:List Value} (h:Lent lo w 73 2 A n c (es.flatMap enV) ms):SlOk A n c∧EntsAt (some lo) w A n es:=by
 obtain⟨A',c',hv,hc,hn,hE⟩:=EntsAt.of_row h.row;injection hv with e1 e2 e3
 subst e1 e3;exact⟨⟨hc,fun e=>(hn e).2⟩,hE⟩
theorem Lent.descsAt {lo:Nat} {w:World} {A:Option Addr} {n c:Nat} {es:List Ds} {ms:List Value} (h:Lent lo w 75 3 A n c (es.flatMap dsV) ms):SlOk A n c∧DescsAt (some lo) w A n es:=by
 obtain⟨A',c',hv,hc,hn,hE⟩:=DescsAt.of_row h.row;injection hv with e1 e2 e3
 subst e1 e3;exact⟨⟨hc,fun e=>(hn e).2⟩,hE⟩
theorem Lent.intsAt {lo:Nat} {w:World} {A:Option Addr} {n c:Nat} {es:List Int} {ms:List Value} (h:Lent lo w 3 1 A n c (es.map (Value.int .i64)) ms):SlOk A n c∧IntsAt (some lo) w A n es:=by
 obtain⟨A',c',hv,hc,hn,hE⟩:=IntsAt.of_row h.row;injection hv with e1 e2 e3
 subst e1 e3;exact⟨⟨hc,fun e=>(hn e).2⟩,hE⟩
theorem EntsAt.anyLo {lo:Nat} {w:World} {A:Option Addr} {n:Nat} {es:List En} (h:EntsAt (some lo) w A n es):EntsAt none w A n es:=
 ⟨h.1, fun hn => by
  obtain⟨g,off,hA,hg,hm,hc⟩:=h.2 hn;exact⟨g,off,hA,hg,Mine.any _ _ _,hc⟩⟩
theorem DescsAt.anyLo {lo:Nat} {w:World} {A:Option Addr} {n:Nat} {es:List Ds} (h:DescsAt (some lo) w A n es):DescsAt none w A n es:=
 ⟨h.1, fun hn => by
  obtain⟨g,off,hA,hg,hm,hc⟩:=h.2 hn;exact⟨g,off,hA,hg,Mine.any _ _ _,hc⟩⟩
theorem IntsAt.anyLo {lo:Nat} {w:World} {A:Option Addr} {n:Nat} {es:List Int} (h:IntsAt (some lo) w A n es):IntsAt none w A n es:=
 ⟨h.1, fun hn => by
  obtain⟨g,off,hA,hg,hm,hc⟩:=h.2 hn;exact⟨g,off,hA,hg,Mine.any _ _ _,hc⟩⟩
theorem LentAt.st {lo:Nat} {w:World} {v:Value} {s:St} (h:LentAt lo w v s):StAt (some lo) w v s:=by
 obtain⟨A,n,c,B,m,d,D,k,e,zs,rfl,hr,hz,hd,hdl,hm,hml,hsz⟩:=h
 have hi:InoRow lo w (.slice A n c) n zs:=⟨hr.row,fun z hz=>by
  obtain⟨E,m,c,h1,h2,h3⟩:=hr.ents z hz;exact⟨E,m,c,h1,h3.entsAt.1,h3.entsAt.2⟩⟩
 obtain⟨A',c',hv,hc,hn,hI⟩:=InosAt.of_row hi;injection hv with e1 e2 e3
 subst e1 e3;rw[hz] at hI;exact⟨⟨A,n,c,B,m,d,D,k,e,rfl,hI,hd.descsAt.2,hm.intsAt.2,⟨hc,fun e=>(hn e).2⟩,hd.descsAt.1,hm.intsAt.1⟩,hsz⟩
theorem LentAt.below {lo:Nat} {w w':World} {v:Value} {s:St} (h:LentAt lo w v s) (hb:Below w.heap.size w w'):LentAt lo w' v s:=by
 obtain⟨A,n,c,B,m,d,D,k,e,zs,rfl,hr,hz,hd,hdl,hm,hml,hsz⟩:=h
 exact⟨A,n,c,B,m,d,D,k,e,zs,rfl,⟨z0y hr.row hb,fun z hz=>by
  obtain⟨E,m,c,h1,h2,h3⟩:=hr.ents z hz;exact⟨E,m,c,h1,h2,h3.below hb⟩⟩,hz,hd.below hb,hdl,hm.below hb,hml,hsz⟩
theorem LentRow.get {lo:Nat} {w:World} {A:Option Addr} {n c:Nat} {zs:List (Ino×Value)} (h:LentRow lo w (.slice A n c) n zs) (q:Nat) (hq:q<n):∃g x E m d,A=some ⟨g,0,none⟩∧g<w.heap.size∧(zs.map Prod.fst)[q]? =some x∧
  w.cell? ⟨g,q*4,none⟩=some (.int .i64 x.num)∧w.cell? ⟨g,q*4+1,none⟩=some (.bool x.dir)∧w.cell? ⟨g,q*4+2,none⟩=some (.slice E m d)∧w.cell? ⟨g,q*4+3,none⟩=some (.string x.data)∧x.ents.length=m∧Lent lo w 73 2 E m d (x.ents.flatMap enV) mkE:=by
 obtain⟨A',c',hv,_,_,hg⟩:=z1b h.row (by decide);injection hv with e1 e2 e3
 subst e1 e3;obtain⟨g,hA,hgl,hm,hc⟩:=hg (by omega)
 have hl:zs.length=n:=by
  have h1:=h.row.1;rw[z1a inoV 4 (fun _=>rfl)] at h1;omega
 have hz:=List.getElem?_eq_getElem (show q<zs.length by omega);obtain⟨E,m,d,h1,h2,h3⟩:=h.ents _ (List.getElem_mem (show q<zs.length by omega));have hf:=fun i (hi:i<4)=>z0z inoV 4 (fun _=>rfl) zs q _ hz i hi
 have c0:=(hc (q*4) (by omega)).trans (hf 0 (by decide));have c1:=(hc (q*4+1) (by omega)).trans (hf 1 (by decide));have c2:=(hc (q*4+2) (by omega)).trans (hf 2 (by decide));have c3:=(hc (q*4+3) (by omega)).trans (hf 3 (by decide));refine⟨g,_,E,m,d,hA,hgl,by rw[List.getElem?_map,hz];rfl,c0,c1,?_,c3,h2,h3⟩;rw[c2]
 show some zs[q].2=_;rw[h1]
set_option maxRecDepth 100000 in
set_option maxHeartbeats 8000000 in
theorem z5u (lo:Nat) (v u:Value) (s:St) (w:World) (h:LentAt lo w v s) (h':StAt none w u s):
  Calls Tryz.prog 11 #[v,u] w fun e w'=>e=.returned (.bool true)∧Below w.heap.size w w':=by
 obtain⟨A,n,c,B,m,d,D,k,e,zs,rfl,hr,hz,hd,hdl,hm,hml,hsz⟩:=h;obtain⟨⟨A',n',c',B',m',d',D',k',e',rfl,hI',hD',hM',h5',h6',h7'⟩,_⟩:=h'
 have hzl:zs.length=n:=by
  have h1:=hr.row.1;rw[z1a inoV 4 (fun _=>rfl)] at h1;omega
 obtain rfl:n'=n:=by rw[←hI'.1,←hz,List.length_map];exact hzl
 obtain rfl:m'=m:=by rw[←hD'.1];exact hdl
 obtain rfl:k'=k:=by rw[←hM'.1];exact hml
 have hbig:=hsz.big;have l1:=hI'.1;have hn2:n'≤1099511627776:=by omega
 have hm2:m'≤1099511627776:=by omega
 have hk2:k'≤1099511627776:=by omega
 obtain⟨W,hW,a0,a1,a2,b0,b1,b2,hal,hsW⟩:=zh2 w A n' c B m' d D k' e A' n' c' B' m' d' D' k' e'
 have HR:=hid (show ∀w',Below W.heap.size W w'→LentRow lo w' (.slice A n' c) n' zs from fun w' hb=>⟨z0y (z0y hr.row hal) hb,fun z hz=>by
  obtain⟨E,m,c,h1,h2,h3⟩:=hr.ents z hz;exact⟨E,m,c,h1,h2,(h3.below hal).below hb⟩⟩)
 have HI:=hid (hI'.below hal);have HKD:=hid (zb6 lo B B' m' d d' s.opn W (hd.below hal) (hd.below hal).descsAt.2.anyLo (hD'.below hal) hm2);have HKI:=hid (show ∀w',Below W.heap.size W w'→_ from fun w' hb=>zc1 lo D D' k' e e' s.made w' ((hm.below hal).below hb) ((hm.below hal).below hb).intsAt.2.anyLo ((hM'.below hal).below hb) hk2);have HAL:=hid hal;have HZ:=hid hsz;have HZS:=hid hz;have hnn:((n':Int) != (n':Int))=false:=by simp
 clear hr hz hd hdl hm hml hsz hI' hD' hM' h5' h6' h7' hal hbig l1
 go_enter Tryz.func11,Tryz.ntmps11
 go_wp2_with fail;refine HKD.out.mono ?_;rintro e1 w1 ⟨rfl,hb1⟩;have s2:=(hb1.cell (p:=⟨w.heap.size,2,none⟩) (by show w.heap.size<W.heap.size;omega)).trans a2;have t2:=(hb1.cell (p:=⟨w.heap.size+1,2,none⟩) (by show w.heap.size+1<W.heap.size;omega)).trans b2;have HB1:=hid hb1;clear hb1;go_wp2_with fail;refine(HKI.out w1 HB1.out).mono ?_;rintro e2 w2 ⟨rfl,hb2⟩;have hbx:=HB1.out.trans (hb2.mono HB1.out.size);have s0:=(hbx.cell (p:=⟨w.heap.size,0,none⟩) (by show w.heap.size<W.heap.size;omega)).trans a0;have t0:=(hbx.cell (p:=⟨w.heap.size+1,0,none⟩) (by show w.heap.size+1<W.heap.size;omega)).trans b0;have HB2:=hid hbx;clear hb2 hbx s2 t2 a1 a2 b1 b2 HB1 HKD HKI;go_wp2_with fail
 go_loopw [5] (fun i wr=>∃q:Nat,i=.int .i64 q∧q≤n'∧Below W.heap.size W wr) (fun i _=>n'-(intOf i).toNat)
 case atStart=>exact⟨0,rfl,by omega,HB2.out⟩
 case round=>
  clear s0 t0 HB2;obtain⟨q,rfl,hq,hbW⟩:=hrel;have HBW:=hid hbW;have a0':=(hbW.cell (p:=⟨w.heap.size,0,none⟩) (by show w.heap.size<W.heap.size;omega)).trans a0;have b0':=(hbW.cell (p:=⟨w.heap.size+1,0,none⟩) (by show w.heap.size+1<W.heap.size;omega)).trans b0;have HFIN:=hid (show Below w.heap.size w wr from HAL.out.trans (hbW.mono HAL.out.size));clear hbW
  by_cases hlt:q<n'
  ·obtain⟨g,x,E,m2,d2,rfl,hg,hx,c0,c1,c2,c3,hel,hE⟩:=(HR.out wr HBW.out).get q hlt;obtain⟨g',off',x',E',m2',d2',rfl,hg',hx',hd',hmem',c0',c1',c2',hok',hE',c3'⟩:=(HI.out.below HBW.out).get q hlt;rw[HZS.out] at hx;obtain rfl:x=x':=by rw[hx] at hx';exact Option.some.inj hx'
   obtain rfl:m2'=m2:=by rw[←hE'.1];exact hel
   have q1:decide ((q:Int)<(n':Int))=true:=by rw[decide_eq_true_eq];omega
   have q2:(0:Int)≤(q:Int):=by omega
   have q3:(q:Int)<(n':Int):=by omega
   have hle:=z0r hx;have hm22:m2'≤1099511627776:=by have:=HZ.out.big;omega
   have HE:=hid hE;have HE':=hid hE';have hoff:(0:Nat)+q*4=q*4:=Nat.zero_add _;clear hx hx' hd' hmem' hE hE' hle hel hok';go_upto_region 6 with fail
   have hwr:W.heap.size≤wr.heap.size:=HBW.out.size
   go_cut [6,7] (fun p1 p2 wx=>∃b1 b2,p1=.pointer (some ⟨b1,0,.none⟩)∧p2=.pointer (some ⟨b2,0,.none⟩)∧Below wr.heap.size wr wx∧
    wx.cell? ⟨b1,0,none⟩=some (.int .i64 x.num)∧wx.cell? ⟨b1,1,none⟩=some (.bool x.dir)∧wx.cell? ⟨b1,2,none⟩=some (.slice E m2' d2)∧wx.cell? ⟨b1,3,none⟩=some (.string x.data)∧
    wx.cell? ⟨b2,0,none⟩=some (.int .i64 x.num)∧wx.cell? ⟨b2,1,none⟩=some (.bool x.dir)∧wx.cell? ⟨b2,2,none⟩=some (.slice E' m2' d2')∧wx.cell? ⟨b2,3,none⟩=some (.string x.data)∧b1<wx.heap.size∧b2<wx.heap.size)
   case first=>
    have nA:wr.heap.size≠w.heap.size:=by omega
    have nB:wr.heap.size≠w.heap.size+1:=by omega
    have nC:wr.heap.size≠g:=by omega
    have nD:wr.heap.size≠g':=by omega
    have mA:wr.heap.size+1≠w.heap.size:=by omega
    have mB:wr.heap.size+1≠w.heap.size+1:=by omega
    have mC:wr.heap.size+1≠g:=by omega
    have mD:wr.heap.size+1≠g':=by omega
    go_region_held3 (fun w'=>w'.cell? ⟨w.heap.size,0,none⟩=some (.slice (some ⟨g,0,none⟩) n' c)∧w'.cell? ⟨w.heap.size+1,0,none⟩=some (.slice (some ⟨g',off',none⟩) n' c')∧
     w'.cell? ⟨g,q*4,none⟩=some (.int .i64 x.num)∧w'.cell? ⟨g,q*4+1,none⟩=some (.bool x.dir)∧w'.cell? ⟨g,q*4+2,none⟩=some (.slice E m2' d2)∧w'.cell? ⟨g,q*4+3,none⟩=some (.string x.data)∧
     w'.cell? ⟨g',off'+q*4,none⟩=some (.int .i64 x.num)∧w'.cell? ⟨g',off'+q*4+1,none⟩=some (.bool x.dir)∧w'.cell? ⟨g',off'+q*4+2,none⟩=some (.slice E' m2' d2')∧w'.cell? ⟨g',off'+q*4+3,none⟩=some (.string x.data))
     (first|go_keep|trace_state)
     (fail)
    all_goals (
     go_wp2_with fail;go_meet)
    ·obtain⟨U,hU,hbU,hbD,f1,f2,hsU⟩:=zag wr (.int .i64 x.num) (.bool x.dir) (.slice E m2' d2) (.string x.data) (.int .i64 x.num) (.bool x.dir) (.slice E' m2' d2') (.string x.data);rw[hU];exact⟨_,_,rfl,rfl,hbD,f1 0,f1 1,f1 2,f1 3,f2 0,f2 1,f2 2,f2 3,by simp[hsU],by simp[hsU]⟩
    ·obtain⟨U,hU,hbU,hbD,f1,f2,hsU⟩:=zag wr (.int .i64 x.num) (.bool x.dir) (.slice E' m2' d2') (.string x.data) (.int .i64 x.num) (.bool x.dir) (.slice E m2' d2) (.string x.data);rw[hU];exact⟨_,_,rfl,rfl,hbD,f2 0,f2 1,f2 2,f2 3,f1 0,f1 1,f1 2,f1 3,by simp[hsU],by simp[hsU]⟩
   case rest=>
    obtain⟨b1,b2,rfl,rfl,hbx,z0,z1,z2,z3,y0,y1,y2,y3,hl1,hl2⟩:=hcut;have HKE:=hid (zbz lo E E' m2' d2 d2' x.ents wc (HE.out.below hbx) (HE.out.below hbx).entsAt.2.anyLo (HE'.out.below hbx) hm22);have HBX:=hid (HBW.out.trans (hbx.mono HBW.out.size));have u1:(x.num != x.num)=false:=by simp
    have u2:(x.dir != x.dir)=false:=by cases x.dir<;>rfl
    have u3:(x.data.toList==x.data.toList)=true:=z2j rfl;clear hbx c0 c1 c2 c3 c0' c1' c2' c3' a0' b0';go_wp2_with fail;refine HKE.out.mono ?_;rintro e5 w5 ⟨rfl,hb5⟩;have HB5:=hid (HBX.out.trans (hb5.mono HBX.out.size));clear hb5;go_wp2_with fail;go_roundw
    case rel=>exact⟨q+1,by go_num,by omega,HB5.out⟩
    case measure=>simp[intOf];omega
  ·obtain rfl:q=n':=by omega
   have q1:decide ((q:Int)<(q:Int))=false:=by rw[decide_eq_false_iff_not];omega
   go_wp2_with fail;go_ret;exact⟨rfl,HFIN.out⟩
def RiseI (is:List Ino):Prop:=∀(i j:Nat) (x y:Ino),i<j→is[i]? =some x→is[j]? =some y→x.num<y.num
structure PtrAt (w:World) (p:Nat) (s:St):Prop where
 at_:∃A n c E m d D k e,w.heap[p]? =some (.cells #[.slice A n c,.slice E m d,.slice D k e] 26 (0,0))∧InosAt none w A n s.inos∧DescsAt none w E m s.opn∧IntsAt none w D k s.made∧SlOk A n c∧SlOk E m d∧SlOk D k e
 sized:Sized s
theorem PtrAt.below {w w':World} {p:Nat} {s:St} (h:PtrAt w p s) (hb:Below w.heap.size w w'):PtrAt w' p s:=by
 obtain⟨⟨A,n,c,E,m,d,D,k,e,h1,h2,h3,h4,h5,h6,h7⟩,hz⟩:=h;exact⟨⟨A,n,c,E,m,d,D,k,e,(hb.block p (Array.getElem?_eq_some_iff.1 h1).1).trans h1,h2.below hb,h3.below hb,h4.below hb,h5,h6,h7⟩,hz⟩
theorem zel {is:List Ino} {num:Int} (h:∀x∈is,x.num≠num):atV is num=-1:=by
 rcases z0s is num with⟨h1,_⟩|⟨k,x,_,h2,h3,_⟩
 ·exact h1
 ·exact absurd h3 (h x (List.mem_of_getElem? h2))
theorem z1j {is:List Ino} {num:Int} {j:Nat} {x:Ino} (hr:RiseI is) (hx:is[j]? =some x) (hn:x.num=num):atV is num=(j:Int):=by
 rcases z0s is num with⟨h1,h2⟩|⟨k,y,h1,h2,h3,_⟩
 ·exact absurd hn (h2 x (List.mem_of_getElem? hx))
 ·rw[h1]
  by_cases e1:k<j
  ·have:=hr k j y x e1 h2 hx;omega
  ·by_cases e2:j<k
   ·have:=hr j k x y e2 hx h2;omega
   ·congr 1;omega
def cmpI (a b:Int):Int:=if a<b then -1 else if b<a then 1 else 0
theorem zhh (x1 x2 x3 x4:Value) (num a:Int) (w:World) (h1:x1=.int .i64 a):
  Calls Tryz.prog 136 #[.agg #[x1,x2,x3,x4],.int .i64 num] w fun e w'=>e=.returned (.int .i64 (cmpI a num))∧Below w.heap.size w w':=by
 subst h1
 go_enter Tryz.func136,Tryz.ntmps136
 unfold cmpI
 by_cases h1:a<num
 ·rw[if_pos h1];have q1:decide (a<num)=true:=decide_eq_true h1;go_wp2_with fail;go_ret;exact⟨rfl,(Below.refl _ _).alloc (Nat.le_refl _) _⟩
 ·have q1:decide (a<num)=false:=decide_eq_false h1;rw[if_neg h1]
  by_cases h2:num<a
  ·rw[if_pos h2];have q2:decide (num<a)=true:=decide_eq_true h2;go_wp2_with fail;go_ret;exact⟨rfl,(Below.refl _ _).alloc (Nat.le_refl _) _⟩
  ·rw[if_neg h2];have q2:decide (num<a)=false:=decide_eq_false h2;go_wp2_with fail;go_ret;exact⟨rfl,(Below.refl _ _).alloc (Nat.le_refl _) _⟩
set_option maxRecDepth 100000 in
set_option maxHeartbeats 4000000 in
theorem zdf (is:List Ino) (A:Option Addr) (n c:Nat) (num:Int) (w:World) (hI:InosAt none w A n is) (hn:n≤1099511627776) (hr:RiseI is):
  Calls Tryz.prog 109 #[.slice A n c,.int .i64 num,.func (.func 136) #[] #[]] w fun e w'=>∃i b,e=.returned (.tuple #[.int .i64 (i:Nat),.bool b])∧Below w.heap.size w w'∧atV is num=if b then(i:Int) else -1:=by
 have HI:=hid hI
 go_enter Tryz.func109,Tryz.ntmps109
 clear hI;go_wp2_with fail
 go_loopw [9,10] (fun iv jv wr=>∃i j:Nat,iv=.int .i64 i∧jv=.int .i64 j∧i≤j∧j≤n∧(∀(k:Nat) (x:Ino),k<i→is[k]? =some x→x.num<num)∧(∀(k:Nat) (x:Ino),j≤k→is[k]? =some x→num≤x.num)∧Below w.heap.size w wr) (fun iv jv _=>(intOf jv).toNat-(intOf iv).toNat)
 case atStart=>exact⟨0,n,rfl,rfl,by omega,by omega,fun k x hk=>by omega,fun k x hk hx=>by have:=(List.getElem?_eq_some_iff.1 hx).1;have:=HI.out.1;omega,Below.refl _ _⟩
 case round =>
  obtain⟨i,j,rfl,rfl,hij,hjn,hlo,hhi,hbel⟩:=hrel;have HB:=hid hbel;have HIr:=hid (HI.out.below hbel);have HLO:=hid hlo;have HHI:=hid hhi;clear hbel hlo hhi
  by_cases hlt:i<j
  ·obtain⟨h,hh⟩:∃h,(i+j) / 2=h:=⟨_,rfl⟩;have hh1:i≤h:=by omega
   have hh2:h<j:=by omega
   obtain⟨g,off,x,E,m,d,rfl,hg,hx,hd,hmem,c0,c1,c2,c3,hok,hE⟩:=HIr.out.get h (by omega);have HHH:=hid hh;have hx2:is[h]? =some x:=hx;have HX:=hid hx2;have HRR:=hid hr;have HHH2:Hid (h<j):=hid hh2;clear hx2;go_wp2_with fail;refine(zhh _ _ _ _ num x.num _ rfl).mono ?_;rintro e5 w5 ⟨rfl,hb5⟩;have e2:((i:Int)+(j:Int)) / 2=(h:Int):=by have:=HHH.out;omega
   rw[e2];have HB5:=hid (HB.out.trans (hb5.mono HB.out.size));clear hb5 c0 c1 c2 c3
   by_cases hc:x.num<num
   ·have q1:cmpI x.num num=-1:=by unfold cmpI;rw[if_pos hc]
    rw[q1];clear q1;go_wp2_with fail;go_roundw
    case rel=>exact⟨h+1,j,by go_num,rfl,by omega,hjn,fun k y hk hy=>by
     by_cases e:k=h
     ·subst e;have:=HX.out;rw[hy] at this;cases this;exact hc
     ·have:=HRR.out k h y x (by omega) hy HX.out;omega,HHI.out,HB5.out⟩
    case measure=>simp[intOf];omega
   ·have q1:decide (cmpI x.num num<0)=false:=by unfold cmpI;rw[if_neg hc];split<;>rfl
    go_wp2_with fail;go_roundw
    case rel=>exact⟨i,h,rfl,rfl,hh1,by omega,HLO.out,fun k y hk hy=>by
     by_cases e:k=h
     ·subst e;have:=HX.out;rw[hy] at this;cases this;omega
     ·have:=HRR.out h k x y (by omega) HX.out hy;omega,HB5.out⟩
    case measure=>simp[intOf];omega
  ·have eij:j=i:=by omega
   subst eij
   by_cases hin:j<n
   ·obtain⟨g,off,x,E,m,d,rfl,hg,hx,hd,hmem,c0,c1,c2,c3,hok,hE⟩:=HIr.out.get j hin;have HX:=hid hx;have HRR:=hid hr;go_wp2_with fail;refine(zhh _ _ _ _ num x.num _ rfl).mono ?_;rintro e5 w5 ⟨rfl,hb5⟩;have HB5:=hid (HB.out.trans (hb5.mono HB.out.size));clear hb5 c0 c1 c2 c3
    by_cases hc:x.num=num
    ·have q1:cmpI x.num num=0:=by unfold cmpI;rw[if_neg (by omega),if_neg (by omega)]
     rw[q1];clear q1;go_wp2_with fail;go_ret2;refine⟨j,true,rfl,HB5.out,?_⟩;rw[if_pos rfl];exact z1j HRR.out HX.out hc
    ·have q1:(cmpI x.num num==0)=false:=by unfold cmpI;rw[beq_eq_false_iff_ne];split;omega;split<;>omega
     go_wp2_with fail;go_ret2;refine⟨j,false,rfl,HB5.out,?_⟩;rw[if_neg (by decide)];refine zel fun y hy=>?_
     obtain⟨k,hk⟩:=List.getElem?_of_mem hy
     by_cases e1:k<j
     ·have:=HLO.out k y e1 hk;omega
     ·by_cases e2:k=j
      ·subst e2;have:=HX.out;rw[hk] at this;cases this;exact hc
      ·have h1:=HRR.out j k x y (by omega) HX.out hk;have h2:=HHI.out j x (by omega) HX.out;omega
   ·have q1:decide ((j:Int)<(n:Int))=false:=by rw[decide_eq_false_iff_not];omega
    clear hlt;go_wp2_with fail;go_ret2;refine⟨j,false,rfl,HB.out,?_⟩;rw[if_neg (by decide)];refine zel fun y hy=>?_
    obtain⟨k,hk⟩:=List.getElem?_of_mem hy;have h1:=(List.getElem?_eq_some_iff.1 hk).1;have h2:=HIr.out.1;have:=HLO.out k y (by omega) hk;omega
theorem PtrAt.val {w:World} {p:Nat} {s:St} (h:PtrAt w p s):∃A n c E m d D k e,p<w.heap.size∧w.cell? ⟨p,0,none⟩=some (.slice A n c)∧w.cell? ⟨p,1,none⟩=some (.slice E m d)∧w.cell? ⟨p,2,none⟩=some (.slice D k e)∧
  InosAt none w A n s.inos∧DescsAt none w E m s.opn∧IntsAt none w D k s.made∧n≤1099511627776∧m≤1099511627776∧k≤1099511627776:=by
 obtain⟨⟨A,n,c,E,m,d,D,k,e,h1,h2,h3,h4,h5,h6,h7⟩,hz⟩:=h;have hbig:=hz.big;have l1:=h2.1;have l2:=h3.1;have l3:=h4.1;refine⟨A,n,c,E,m,d,D,k,e,(Array.getElem?_eq_some_iff.1 h1).1,?_,?_,?_,h2,h3,h4,by omega,by omega,by omega⟩<;>(rw[cell_of_row w p _ _ _ (0,0) h1];rfl)
set_option maxRecDepth 100000 in
set_option maxHeartbeats 4000000 in
theorem z1p (p:Nat) (s:St) (num:Int) (w:World) (h:PtrAt w p s) (hr:RiseI s.inos):
  Calls Tryz.prog 92 #[.pointer (some ⟨p,0,.none⟩),.int .i64 num] w fun e w'=>e=.returned (.int .i64 (atV s.inos num))∧Below w.heap.size w w':=by
 obtain⟨A,n,c,E,m,d,D,k,e,hp,c0,c1,c2,hI,hD,hM,hn,_,_⟩:=h.val;obtain⟨R,hR⟩:∃R,atV s.inos num=R:=⟨_,rfl⟩;rw[hR]
 go_enter Tryz.func92,Tryz.ntmps92
 go_wp2_with fail;refine(zdf s.inos A n c num w hI hn hr).mono ?_;rintro e1 w1 ⟨i,b,rfl,hb,hat⟩;rw[hR] at hat;cases b
 ·rw[if_neg (by decide)] at hat;subst hat;go_wp2_with fail;go_ret;exact⟨rfl,hb⟩
 ·rw[if_pos rfl] at hat;subst hat;go_wp2_with fail;go_ret;exact⟨rfl,hb⟩
end Go.Proofs.YtmmpkfcdfcldlaaGreat
