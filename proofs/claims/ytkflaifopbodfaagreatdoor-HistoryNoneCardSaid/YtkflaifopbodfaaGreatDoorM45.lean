/- Parts of the proof, side by side: HistVal, HistSet, Awake25, HistDoC, HistoryNoneW. -/
import Derived.Test.YtkflaifopbodfaaGreatDoorM44
import Derived.Deep.WholeRow
import Derived.Test.YtkflaifopbodfaaGreatDoorM33
import Derived.Test.YtkflaifopbodfaaGreatDoorM01
set_option linter.unusedVariables false
set_option linter.unusedSimpArgs false
namespace Go.Proofs.YtkflaifopbodfaaGreatDoor
open Lib (hid)
open Go.RowKit
def oneOp (c:Ca) (code fd:Int) (b e:Int):Op:=⟨c,⟨code,fd,0,false,⟨#[]⟩,[]⟩,b,e⟩
def callC:Ca:=⟨0,0,0,0,0,⟨#[47,97]⟩,⟨#[]⟩,⟨#[]⟩⟩
def callS:Ca:=⟨13,1,0,0,0,⟨#[47,97]⟩,⟨#[]⟩,⟨#[]⟩⟩
theorem zgb {α:Type} (f:α→List Value) (k:Nat) (hk:∀x,(f x).length=k):∀(l:List α) (q j:Nat) (o:α),l[q]? =some o→j<k→(l.flatMap f)[q*k+j]? =(f o)[j]?
 | [],q,j,o,h,_=>by simp at h
 | x::l,0,j,o,h,hj=>by
  simp only[List.getElem?_cons_zero,Option.some.injEq] at h;subst h;rw[List.flatMap_cons,Nat.zero_mul,Nat.zero_add,List.getElem?_append_left (by rw[hk];exact hj)]
 | x::l,q+1,j,o,h,hj=>by
  rw[List.flatMap_cons,List.getElem?_append_right (by rw[hk,Nat.succ_mul];omega),hk,show(q+1)*k+j-k=q*k+j by rw[Nat.succ_mul];omega];exact zgb f k hk l q j o (by simpa using h) hj
theorem OpsAt.of_row {w:World} {g:Nat} {cs:Array Value} {t:TypeId} {ops:List Op} (h:w.heap[g]? =some (.cells cs t (0,0))) (hc:cs.toList=ops.flatMap (fun o=>opC o none 0 0)) (hok:∀o∈ops,OpOk o∧o.res.names=[]):OpsAt w (some ⟨g,0,none⟩) ops.length ops:=by
 refine⟨rfl,fun hn=>⟨g,0,rfl,(Array.getElem?_eq_some_iff.1 h).1,fun q o hq=>?_⟩⟩;obtain⟨h1,h2⟩:=hok o (List.mem_of_getElem? hq);refine⟨none,0,0,⟨by omega,fun _=>rfl⟩,?_,h1,(Array.getElem?_eq_some_iff.1 h).1,fun j x hx=>?_⟩
 ·rw[h2];exact⟨rfl,fun h=>absurd h (by omega)⟩
 ·rw[cell_of_row w g _ _ _ (0,0) h,←Array.getElem?_toList,hc];have hj:j<16:=(List.getElem?_eq_some_iff.1 hx).1;rw[Nat.zero_add,zgb (fun o=>opC o none 0 0) 16 (fun _=>rfl) ops q j o hq hj];exact hx
theorem zlk (w:World) (cs:Array Value) (t:TypeId) (ops:List Op) (hc:cs.toList=ops.flatMap (fun o=>opC o none 0 0)) (hok:∀o∈ops,OpOk o∧o.res.names=[]):
  ∃W,w.alloc (.cells cs t)=W∧OpsAt W (some ⟨w.heap.size,0,none⟩) ops.length ops∧Below w.heap.size w W:=
 ⟨_,rfl,OpsAt.of_row (heap_alloc_new w _) hc hok,(Below.refl _ _).alloc (Nat.le_refl _) _⟩
theorem z5f (c:Ca) (code fd b e:Int) (h1:c.path.size≤140737488355328) (h2:c.path2.size≤140737488355328) (h3:c.data.size≤140737488355328):OpOk (oneOp c code fd b e)∧(oneOp c code fd b e).res.names=[]:=⟨⟨h1,h2,h3,by show 0≤_;omega⟩,rfl⟩
set_option maxRecDepth 100000 in
set_option maxHeartbeats 4000000 in
theorem zll (c0 c1 c2 c3 c4:Int) (s1 s2 s3:ByteArray) (r0 r1 r2:Int) (r3:Bool) (r4:ByteArray) (b e:Int) (w:World):
  Calls Tryz.prog 9 #[.agg #[.int .i64 c0,.int .i64 c1,.int .i64 c2,.int .i64 c3,.int .i64 c4,.string s1,.string s2,.string s3],.agg #[.int .i64 r0,.int .i64 r1,.int .i64 r2,.bool r3,.string r4,.slice none 0 0],.int .i64 b,.int .i64 e] w fun ee w'=>ee=.returned (.agg #[.int .i64 c0,.int .i64 c1,.int .i64 c2,.int .i64 c3,.int .i64 c4,.string s1,.string s2,.string s3,.int .i64 r0,.int .i64 r1,.int .i64 r2,.bool r3,.string r4,.slice none 0 0,.int .i64 b,.int .i64 e])∧Below w.heap.size w w':=by
 obtain⟨W1,hW1⟩:∃W,w.alloc (.cells #[.int .i64 c0,.int .i64 c1,.int .i64 c2,.int .i64 c3,.int .i64 c4,.string s1,.string s2,.string s3] 32)=W:=⟨_,rfl⟩;obtain⟨W2,hW2⟩:∃W,W1.alloc (.cells #[.int .i64 r0,.int .i64 r1,.int .i64 r2,.bool r3,.string r4,.slice none 0 0] 35)=W:=⟨_,rfl⟩;obtain⟨W3,hW3⟩:∃W,W2.alloc (.cells #[.int .i64 c0,.int .i64 c1,.int .i64 c2,.int .i64 c3,.int .i64 c4,.string s1,.string s2,.string s3,.int .i64 r0,.int .i64 r1,.int .i64 r2,.bool r3,.string r4,.slice none 0 0,.int .i64 b,.int .i64 e] 37)=W:=⟨_,rfl⟩;have z1:W1.heap.size=w.heap.size+1:=by rw[←hW1];simp
 have z2:W2.heap.size=w.heap.size+1+1:=by rw[←hW2,←z1];simp
 have hr:W3.heap[w.heap.size+1+1]? =some (.cells #[.int .i64 c0,.int .i64 c1,.int .i64 c2,.int .i64 c3,.int .i64 c4,.string s1,.string s2,.string s3,.int .i64 r0,.int .i64 r1,.int .i64 r2,.bool r3,.string r4,.slice none 0 0,.int .i64 b,.int .i64 e] 37 (0,0)):=by rw[←hW3,←z2];exact heap_alloc_new W2 _
 have hb:Below w.heap.size w W3:=by
  rw[←hW3,←hW2,←hW1];exact(((Below.refl _ _).alloc (Nat.le_refl _) _).alloc (by simp) _).alloc (by simp;omega) _
 have HR:=hid hr;have HB:=hid hb;have HW1:=hid hW1;have HW2:=hid hW2;have HW3:=hid hW3;clear z1 z2 hr hb hW1 hW2 hW3
 go_enter Tryz.func9,Tryz.ntmps9
 go_wp2_with fail;rw[HW1.out,HW2.out,HW3.out];refine bodyPost_ret (results_cell_row rfl _ _ _ 37 _ (0,0) _ rfl HR.out Tryz.underlying37 rfl (by kernel_rfl)) rfl ?_;exact⟨rfl,HB.out⟩
theorem z8w (n:Int) (w:World):Calls Tryz.prog 11 #[.int .i64 n] w fun e w'=>e=.returned (.int .i64 n)∧w=w':=by
 go_enter Tryz.func11,Tryz.ntmps11
 go_wp2_with fail;go_ret;exact⟨rfl,rfl⟩
theorem zog {w:World} {g:Nat} {t:TypeId} {x0 x1 x2 x3 x4 x5 x6 x7 x8 x9 x10 x11 x12 x13 x14 x15:Value} (h:w.heap[g]? =some (.cells #[x0,x1,x2,x3,x4,x5,x6,x7,x8,x9,x10,x11,x12,x13,x14,x15] t (0,0))):w.cell? ⟨g,0,none⟩=some x0∧w.cell? ⟨g,1,none⟩=some x1∧w.cell? ⟨g,2,none⟩=some x2∧w.cell? ⟨g,3,none⟩=some x3∧w.cell? ⟨g,4,none⟩=some x4∧w.cell? ⟨g,5,none⟩=some x5∧w.cell? ⟨g,6,none⟩=some x6∧w.cell? ⟨g,7,none⟩=some x7∧w.cell? ⟨g,8,none⟩=some x8∧w.cell? ⟨g,9,none⟩=some x9∧w.cell? ⟨g,10,none⟩=some x10∧w.cell? ⟨g,11,none⟩=some x11∧w.cell? ⟨g,12,none⟩=some x12∧w.cell? ⟨g,13,none⟩=some x13∧w.cell? ⟨g,14,none⟩=some x14∧w.cell? ⟨g,15,none⟩=some x15:=by
 refine⟨?_,?_,?_,?_,?_,?_,?_,?_,?_,?_,?_,?_,?_,?_,?_,?_⟩<;>(rw[cell_of_row w g _ _ _ (0,0) h];rfl)
theorem zoh (w:World) (x0 x1 x2 x3 x4 x5 x6 x7 x8 x9 x10 x11 x12 x13 x14 x15:Value):∃W,w.alloc (.cells #[x0,x1,x2,x3,x4,x5,x6,x7,x8,x9,x10,x11,x12,x13,x14,x15] 37)=W∧W.heap[w.heap.size]? =some (.cells #[x0,x1,x2,x3,x4,x5,x6,x7,x8,x9,x10,x11,x12,x13,x14,x15] 37 (0,0))∧Below w.heap.size w W∧w.heap.size<W.heap.size:=
 ⟨_,rfl,heap_alloc_new w _,(Below.refl _ _).alloc (Nat.le_refl _) _,by simp⟩
theorem zlm {w:World} {g:Nat} {x0 x1 x2 x3 x4 x5 x6 x7 x8 x9 x10 x11 x12 x13 x14 x15:Value} (h:w.heap[g]? =some (.cells #[x0,x1,x2,x3,x4,x5,x6,x7,x8,x9,x10,x11,x12,x13,x14,x15] 37 (0,0))) (y z:Value):∃W,(w.setCell ⟨g,14,none⟩ y).setCell ⟨g,15,none⟩ z=W∧W.heap[g]? =some (.cells #[x0,x1,x2,x3,x4,x5,x6,x7,x8,x9,x10,x11,x12,x13,y,z] 37 (0,0))∧
  (∀k,k≠g→W.heap[k]? =w.heap[k]?)∧W.heap.size=w.heap.size∧(∀B u,B≤g→Below B u w→Below B u W)∧(∀B v s,StAt (some B) w v s→StAt (some B) W v s):=by
 have h1:=heap_setCell_same w g 14 _ _ y h;have h2:=heap_setCell_same _ g 15 _ _ z h1;refine⟨_,rfl,h2,fun k hk=>(Below.heap_setCell _ ⟨g,15,none⟩ z k hk).trans (Below.heap_setCell w ⟨g,14,none⟩ y k hk),by simp[World.setCell],fun B u hB hb=>(hb.setCell (p:=⟨g,14,none⟩) hB y).setCell (p:=⟨g,15,none⟩) hB z,fun B v s hs=>?_⟩;exact(hs.set ⟨_,h⟩ (by decide) (by decide) (by decide) (by decide) 14 y).set ⟨_,h1⟩ (by decide) (by decide) (by decide) (by decide) 15 z
theorem zd5 {ops:Array Oper} {rest:List Oper} {o:Oper} {a:Act} {w:World} {Q:Exit→Act→World→Prop} (g:Nat) {cs:Array Value} (hg:w.heap[g]? =some (.cells cs 37 (0,0))) (x:Operand) (hgd:o.guard=none) (ho:o.op=.load 37 x)
  (hx:a.eval x=.pointer (some ⟨g,0,none⟩)) (hi:(Tryz.prog.info? 37).map (·.size)=some cs.size) (h:wpList Tryz.prog ops Q rest (a.put o.dst (.agg cs)) w):wpList Tryz.prog ops Q (o::rest) a w:=
 wpList_load_row hgd 37 x ho g hx 37 cs (0,0) _ hg Tryz.underlying37 rfl hi h
theorem zn7 {ops:Array Oper} {rest:List Oper} {o:Oper} {a:Act} {w:World} {Q:Exit→Act→World→Prop} (g:Nat) {cs:Array Value} (hg:w.heap[g]? =some (.cells cs 37 (0,0))) (x:Operand) (hgd:Region.wanted o (yielded ops a.tmps)=true) (ho:o.op=.load 37 x)
  (hx:a.eval x=.pointer (some ⟨g,0,none⟩)) (hi:(Tryz.prog.info? 37).map (·.size)=some cs.size) (h:wpList Tryz.prog ops Q rest (a.put o.dst (.agg cs)) w):wpList Tryz.prog ops Q (o::rest) a w:=by
 refine wpList_step fun K' hK'=>?_
 rw[if_pos hgd];exact wp_load_row 37 x ho g hx 37 cs (0,0) _ hg Tryz.underlying37 rfl hi (hK' _ _ h)
def opA:Op:=oneOp callC 0 0 0 3
def opB:Op:=oneOp callS 1 0 1 2
def opB2:Op:=oneOp callS 1 0 4 5
def zeroOp:Op:=oneOp ⟨0,0,0,0,0,⟨#[]⟩,⟨#[]⟩,⟨#[]⟩⟩ 0 0 0 0
def z176:Array Value:=((List.replicate 11 zeroOp).flatMap (fun o=>opC o none 0 0)).toArray
theorem zoi:∀o∈List.replicate 11 zeroOp,OpOk o∧o.res.names=[]:=fun o h=>by
 rw[(List.mem_replicate.1 h).2];exact z5f _ _ _ _ _ (by decide) (by decide) (by decide)
theorem zgc:(Tryz.prog.info? 37).map (fun i=>(i.zero,i.size,i.bytes))=some (some (.agg (opC zeroOp none 0 0).toArray),16,176):=by kernel_rfl
theorem zpg (w:World):(Instr.makeSlice 42 (.int .i64 11) (.int .i64 11)).run Tryz.prog w=.ok (.slice (some ⟨w.heap.size,0,none⟩) 11 11) (w.alloc (.cells z176 37)):=by
 obtain⟨i,hi,hzz⟩:=Option.map_eq_some_iff.1 zgc;simp only[Prod.mk.injEq] at hzz;obtain⟨hz,hs,hb⟩:=hzz;have hr:=run_make (P:=Tryz.prog) w 42 37 i _ Tryz.underlying42 hi hz .i64 .i64 11 11 (by omega) (Int.le_refl _) (by rw[hb];decide) (by omega);have e:madeCells (Value.agg (opC zeroOp none 0 0).toArray).cells (11*16)=z176:=by kernel_rfl
 simp only[hs] at hr;rw[show(Int.toNat 11)=11 from rfl,e] at hr;exact hr
theorem zpq:legV (newV 2) [opA,opB]=(true,0):=by decide+kernel
theorem zpr:legV (newV 2) [opA,opB2]=(false,0):=by decide+kernel
theorem zps:legV ⟨[],[],[]⟩ []=(false,2500):=by decide+kernel
theorem zpt:legV (newV 2) (List.replicate 11 zeroOp)=(false,2500):=by decide+kernel
theorem zpu:opMay opA=true:=by decide+kernel
theorem zpm (w:World):StAt none w (.agg #[.slice none 0 0,.slice none 0 0,.slice none 0 0]) ⟨[],[],[]⟩:=
 ⟨⟨none,0,0,none,0,0,none,0,0,rfl,⟨rfl,fun h=>absurd h (by omega)⟩,⟨rfl,fun h=>absurd h (by omega)⟩,⟨rfl,fun h=>absurd h (by omega)⟩,⟨by omega,fun _=>rfl⟩,⟨by omega,fun _=>rfl⟩,⟨by omega,fun _=>rfl⟩⟩,⟨by decide+kernel,by decide+kernel,by decide+kernel⟩⟩
set_option maxRecDepth 100000 in
set_option maxHeartbeats 8000000 in
theorem zoj (w:World) (hT:Tab w):Calls Tryz.prog 7 #[] w fun e w'=>e=.returned (.bool true)∧Below w.heap.size w w':=by
 have HT:=hid hT;clear hT
 go_enter Tryz.func7,Tryz.ntmps7
 go_wp2_with fail;refine(zlj 2 (by omega) (by omega) w).mono ?_;rintro e w1 ⟨v1,rfl,hst1,hb1⟩;obtain⟨A1,n1,c1,E1,m1,d1,D1,k1,e1,rfl,_⟩:=hst1.at_;obtain⟨W1,hW1,p0,p1,p2,hal1,hl1⟩:=z0u w1 A1 n1 c1 E1 m1 d1 D1 k1 e1;obtain⟨Wa,hWa,ra,hala,hla⟩:=zoh W1 (.int .i64 0) (.int .i64 0) (.int .i64 0) (.int .i64 0) (.int .i64 0) (.string ⟨#[47,97]⟩) (.string ⟨#[]⟩) (.string ⟨#[]⟩) (.int .i64 0) (.int .i64 0) (.int .i64 0) (.bool false) (.string ⟨#[]⟩) (.slice none 0 0) (.int .i64 0) (.int .i64 3);obtain⟨Wb,hWb,rb,halb,hlb⟩:=zoh Wa (.int .i64 13) (.int .i64 1) (.int .i64 0) (.int .i64 0) (.int .i64 0) (.string ⟨#[47,97]⟩) (.string ⟨#[]⟩) (.string ⟨#[]⟩) (.int .i64 1) (.int .i64 0) (.int .i64 0) (.bool false) (.string ⟨#[]⟩) (.slice none 0 0) (.int .i64 1) (.int .i64 2);obtain⟨W4,hW4,hops,hal4⟩:=zlk Wb #[.int .i64 0,.int .i64 0,.int .i64 0,.int .i64 0,.int .i64 0,.string ⟨#[47,97]⟩,.string ⟨#[]⟩,.string ⟨#[]⟩,.int .i64 0,.int .i64 0,.int .i64 0,.bool false,.string ⟨#[]⟩,.slice none 0 0,.int .i64 0,.int .i64 3,.int .i64 13,.int .i64 1,.int .i64 0,.int .i64 0,.int .i64 0,.string ⟨#[47,97]⟩,.string ⟨#[]⟩,.string ⟨#[]⟩,.int .i64 1,.int .i64 0,.int .i64 0,.bool false,.string ⟨#[]⟩,.slice none 0 0,.int .i64 1,.int .i64 2] 37 [opA,opB] rfl (by intro o h;rcases List.mem_cons.1 h with rfl|h;exact z5f _ _ _ _ _ (by decide) (by decide) (by decide);rcases List.mem_cons.1 h with rfl|h;exact z5f _ _ _ _ _ (by decide) (by decide) (by decide);cases h)
 have hlab:=Nat.lt_of_lt_of_le hla halb.size;have hl1a:=Nat.lt_of_lt_of_le hl1 hala.size;have hl1b:=Nat.lt_of_lt_of_le hl1a halb.size;have ra2:=(halb.block W1.heap.size hla).trans ra;have pa0:=(hala.cell (p:=⟨w1.heap.size,0,none⟩) hl1).trans p0;have pa1:=(hala.cell (p:=⟨w1.heap.size,1,none⟩) hl1).trans p1;have pa2:=(hala.cell (p:=⟨w1.heap.size,2,none⟩) hl1).trans p2;have pb0:=(halb.cell (p:=⟨w1.heap.size,0,none⟩) hl1a).trans pa0;have pb1:=(halb.cell (p:=⟨w1.heap.size,1,none⟩) hl1a).trans pa1;have pb2:=(halb.cell (p:=⟨w1.heap.size,2,none⟩) hl1a).trans pa2;have HOPS:=hid hops;have HAL4:=hid (Cv.next hal1 (Cv.next hala (Cv.next halb hal4)));have HB1:=hid hb1;have HST1:=hid hst1;have HRA:=hid ((hal4.block W1.heap.size hlab).trans ra2);have HRB:=hid ((hal4.block Wa.heap.size hlb).trans rb);have HLA:=hid hlab;have HLB:=hid hlb;have HL1:=hid hl1b
 have HZ:=hid (And.intro (Nat.lt_of_lt_of_le hlab hal4.size) (And.intro (Nat.lt_of_lt_of_le hlb hal4.size) (Nat.lt_of_lt_of_le hl1b hal4.size)));have HN1:=hid (show w1.heap.size<W1.heap.size∧W1.heap.size<Wa.heap.size∧Wa.heap.size<Wb.heap.size∧w.heap.size≤w1.heap.size from ⟨hl1,hla,hlb,hb1.size⟩);have HRW:=hid ((hal4.block w1.heap.size hl1b).trans ((halb.block w1.heap.size hl1a).trans ((hala.block w1.heap.size hl1).trans (show W1.heap[w1.heap.size]? =some (.cells #[.slice A1 n1 c1,.slice E1 m1 d1,.slice D1 k1 e1] 27 (0,0)) by rw[←hW1];exact heap_alloc_new w1 _))));have HP4:=hid (show W4.cell? ⟨w1.heap.size,0,none⟩=some (.slice A1 n1 c1)∧W4.cell? ⟨w1.heap.size,1,none⟩=some (.slice E1 m1 d1)∧W4.cell? ⟨w1.heap.size,2,none⟩=some (.slice D1 k1 e1) from ⟨(hal4.cell (p:=⟨w1.heap.size,0,none⟩) hl1b).trans pb0,(hal4.cell (p:=⟨w1.heap.size,1,none⟩) hl1b).trans pb1,(hal4.cell (p:=⟨w1.heap.size,2,none⟩) hl1b).trans pb2⟩)
 have HA2:=hid ra2;have HB2:=hid rb;clear hst1 hb1 hal1 hala halb hal4 ra ra2 rb hops hlab hl1 hla hlb hl1a hl1b p0 p1 p2 pa0 pa1 pa2;go_wp2_with (first|(refine zd5 W1.heap.size HA2.out _ rfl rfl rfl (by kernel_rfl) ?_)|(refine zd5 Wa.heap.size HB2.out _ rfl rfl rfl (by kernel_rfl) ?_)|fail);refine(z3h _ (newV 2) (some ⟨Wb.heap.size,0,none⟩) 2 2 [opA,opB] W4 (HST1.out.weak.below HAL4.out) HOPS.out (HT.out.mono (HB1.out.trans (HAL4.out.mono HB1.out.size)) (Nat.le_refl _)) (by decide)).mono ?_;rw[zpq];rintro e w5 ⟨rfl,hb5⟩;obtain⟨hza,hzb,hz1⟩:=HZ.out;obtain⟨W5,hW5,rb5,hoth,hsz5,hbs5,hst5⟩:=zlm ((hb5.block Wa.heap.size hzb).trans HRB.out) (.int .i64 4) (.int .i64 5);obtain⟨hn1,hn2,hn3,hn4⟩:=HN1.out;have hne1:W1.heap.size≠Wa.heap.size:=Nat.ne_of_lt hn2;have hne2:w1.heap.size≠Wa.heap.size:=Nat.ne_of_lt (Nat.lt_trans hn1 hn2);have ra5:=(hoth _ hne1).trans ((hb5.block W1.heap.size hza).trans HRA.out)
 have rb50:=(hb5.block Wa.heap.size hzb).trans HRB.out;have hrw:W5.heap[w1.heap.size]? =some (.cells #[.slice A1 n1 c1,.slice E1 m1 d1,.slice D1 k1 e1] 27 (0,0)):=(hoth _ hne2).trans ((hb5.block w1.heap.size hz1).trans HRW.out);obtain⟨u0,u1,u2,_⟩:=OutAt.get hrw;have HA5:=hid ra5;have HB50:=hid rb5;obtain⟨_,_,_,_,_,_,_,_,_,_,_,_,_,_,qc14,qc15⟩:=zog rb50;have qf:∀j,(w5.frozen? ⟨Wa.heap.size,j,none⟩=false):=fun j=>frozen_of_row w5 Wa.heap.size j _ _ rb50
 have HST5:=hid (hst5 _ _ _ ((HST1.out.below HAL4.out).below hb5));have HB5:=hid (hbs5 w.heap.size w (Nat.le_of_lt (Nat.lt_of_le_of_lt hn4 (Nat.lt_trans hn1 hn2))) ((HB1.out.trans (HAL4.out.mono HB1.out.size)).trans (hb5.mono (Nat.le_trans HB1.out.size HAL4.out.size))));have hsz:=hb5.size;obtain⟨W6,hW6,hops6,hal6⟩:=zlk W5 #[.int .i64 0,.int .i64 0,.int .i64 0,.int .i64 0,.int .i64 0,.string ⟨#[47,97]⟩,.string ⟨#[]⟩,.string ⟨#[]⟩,.int .i64 0,.int .i64 0,.int .i64 0,.bool false,.string ⟨#[]⟩,.slice none 0 0,.int .i64 0,.int .i64 3,.int .i64 13,.int .i64 1,.int .i64 0,.int .i64 0,.int .i64 0,.string ⟨#[47,97]⟩,.string ⟨#[]⟩,.string ⟨#[]⟩,.int .i64 1,.int .i64 0,.int .i64 0,.bool false,.string ⟨#[]⟩,.slice none 0 0,.int .i64 4,.int .i64 5] 37 [opA,opB2] rfl (by intro o h;rcases List.mem_cons.1 h with rfl|h;exact z5f _ _ _ _ _ (by decide) (by decide) (by decide);rcases List.mem_cons.1 h with rfl|h;exact z5f _ _ _ _ _ (by decide) (by decide) (by decide);cases h)
 have HOPS6:=hid hops6;have HAL6:=hid hal6;have HRA6:=hid ((hal6.block W1.heap.size (by omega)).trans ra5);have HRW6:=hid ((hal6.block w1.heap.size (by omega)).trans hrw);have HZ6:=hid (show W1.heap.size<W6.heap.size∧w1.heap.size<W6.heap.size from ⟨Nat.lt_of_lt_of_le (by omega) hal6.size,Nat.lt_of_lt_of_le (by omega) hal6.size⟩);have HNE:=hid hne1;clear hb5 hoth hsz5 hbs5 hst5 ra5 rb5 rb50 hrw hsz hops6 hal6 hza hzb hz1 hn1 hn2 hn3 hn4 hne2 hne1;go_wp2_with (first|(refine zd5 W1.heap.size HA5.out _ rfl rfl rfl (by kernel_rfl) ?_)|(refine zd5 Wa.heap.size HB50.out _ rfl rfl rfl (by kernel_rfl) ?_)|fail);refine(z3h _ (newV 2) (some ⟨W5.heap.size,0,none⟩) 2 2 [opA,opB2] W6 (HST5.out.weak.below HAL6.out) HOPS6.out (HT.out.mono (HB5.out.trans (HAL6.out.mono HB5.out.size)) (Nat.le_refl _)) (by decide)).mono ?_;rw[zpr];rintro e w7 ⟨rfl,hb7⟩;have HB6:=hid (HB5.out.trans (HAL6.out.mono HB5.out.size))
 have HB7:=hid (HB6.out.trans (hb7.mono HB6.out.size));have HRA7:=hid ((hb7.block W1.heap.size HZ6.out.1).trans HRA6.out);have HRW7:=hid ((hb7.block w1.heap.size HZ6.out.2).trans HRW6.out);have HST7:=hid ((HST5.out.weak.below HAL6.out).below hb7);clear hb7 u0 u1 u2 qc14 qc15 qf hW1 hWa hWb hW4 hW5 hW6;go_wp2_with fail;refine(z3h _ ⟨[],[],[]⟩ none 0 0 [] w7 (zpm _) ⟨rfl,fun h=>absurd h (by omega)⟩ (HT.out.mono HB7.out (Nat.le_refl _)) (by decide)).mono ?_;rw[zps];rintro e w8 ⟨rfl,hb8⟩;have HB8:=hid (HB7.out.trans (hb8.mono HB7.out.size));have hra8:=(hb8.block W1.heap.size (Array.getElem?_eq_some_iff.1 HRA7.out).1).trans HRA7.out;have hrw8:=(hb8.block w1.heap.size (Array.getElem?_eq_some_iff.1 HRW7.out).1).trans HRW7.out;have hl8:=(Array.getElem?_eq_some_iff.1 hrw8).1;have hn8:w8.heap.size≠w1.heap.size:=Nat.ne_of_gt hl8;have hn8':=Ne.symm hn8;obtain⟨s0,s1,s2,_⟩:=OutAt.get hrw8
 have HRA8:=hid hra8;have HST8:=hid (HST7.out.below hb8)
 have hc:∀u:World,Below w8.heap.size w8 u→u.heap[w8.heap.size]? =some (.cells z176 37 (0,0))→Calls Tryz.prog 10 #[.agg #[.slice A1 n1 c1,.slice E1 m1 d1,.slice D1 k1 e1],.slice (some ⟨w8.heap.size,0,none⟩) 11 11] u fun e w'=>e=.returned (.tuple #[.bool false,.int .i64 2500])∧Below w8.heap.size w8 w':=fun u hu hr=>by
  have h1:=z3h _ (newV 2) (some ⟨w8.heap.size,0,none⟩) 11 11 (List.replicate 11 zeroOp) u (HST8.out.below hu) (OpsAt.of_row hr rfl zoi) ((HT.out.mono HB8.out (Nat.le_refl _)).below hu) (by decide);rw[zpt] at h1;refine h1.mono ?_;rintro e w' ⟨rfl,hb⟩;exact⟨rfl,hu.trans (hb.mono hu.size)⟩
 have HC:=hid hc;clear hb8 hra8 hrw8 hc;go_wp2_with fail;have hmk:=zpg
 go_region_held3 (fun w'=>w'.cell? ⟨w1.heap.size,0,none⟩=some (.slice A1 n1 c1)∧w'.cell? ⟨w1.heap.size,1,none⟩=some (.slice E1 m1 d1)∧w'.cell? ⟨w1.heap.size,2,none⟩=some (.slice D1 k1 e1))
  (first|go_keep|(trace_state;fail))
  ((go_at_call 10;refine(HC.out _ (by first|exact(Cv.drewN_below (Below.refl _ _) 1).alloc (by simp) _) (by exact heap_alloc_new _ _)).mono ?_;rintro e9 w9 ⟨rfl,hb9⟩;have e0:=(hb9.cell (p:=⟨w1.heap.size,0,none⟩) hl8).trans s0;have e1:=(hb9.cell (p:=⟨w1.heap.size,1,none⟩) hl8).trans s1;have e2:=(hb9.cell (p:=⟨w1.heap.size,2,none⟩) hl8).trans s2))
 have HRA9:=hid ((hb9.block W1.heap.size (Array.getElem?_eq_some_iff.1 HRA8.out).1).trans HRA8.out);have HB9:=hid (HB8.out.trans (hb9.mono HB8.out.size));clear hb9 s0 s1 s2 e0 e1 e2 hmk;go_wp2_with fail;refine(z8w _ _).mono ?_;rintro _ _ ⟨rfl,rfl⟩;go_wp2_with fail;refine(z8w _ _).mono ?_;rintro _ _ ⟨rfl,rfl⟩;go_wp2_with fail;refine(z8w _ _).mono ?_;rintro _ _ ⟨rfl,rfl⟩;go_wp2_with fail;refine(z8w _ _).mono ?_;rintro _ _ ⟨rfl,rfl⟩;go_wp2_with (first|(refine zn7 W1.heap.size HRA9.out _ (by kernel_rfl) rfl rfl (by kernel_rfl) ?_)|fail);have h1:=zhm opA none 0 0 w9 ⟨by omega,fun _=>rfl⟩ ⟨rfl,fun h=>absurd h (by omega)⟩ (by decide);rw[zpu] at h1;refine h1.mono ?_;rintro _ w10 ⟨rfl,hb10⟩;have HB10:=hid (HB9.out.trans (hb10.mono HB9.out.size));clear h1 hb10;go_wp2_with fail;go_ret;exact⟨rfl,HB10.out⟩
def outC (n:Nat):St:=(make1V (newV n) callC).1
theorem DoC (n:Nat) (h1:1≤n) (h8:n≤8) (v:Value) (w:World) (h:StAt none w v (newV n)):
  Calls Tryz.prog 12 #[v,caV callC] w fun e w'=>∃v',e=.returned (.tuple #[v',resV (make1V (newV n) callC).2])∧StAt (some w.heap.size) w' v' (outC n)∧Below w.heap.size w w':=by
 have hn:n=1∨n=2∨n=3∨n=4∨n=5∨n=6∨n=7∨n=8:=by omega
 unfold outC
 rcases hn with rfl|rfl|rfl|rfl|rfl|rfl|rfl|rfl<;>
  exact zpk v _ callC _ _ w h fun u hu=>znu v _ callC (-1) u hu (by decide+kernel) (by decide) (by decide+kernel) rfl (by decide) ⟨⟨by decide+kernel,by decide+kernel,by decide+kernel⟩,⟨by decide+kernel,by decide+kernel,by decide+kernel⟩,⟨by decide+kernel,by decide+kernel,by decide+kernel⟩,by decide+kernel⟩ (by decide+kernel)
def callY:Ca:=⟨16,0,0,0,0,⟨#[]⟩,⟨#[]⟩,⟨#[]⟩⟩
def syncOp (i:Nat):Op:=oneOp callY 0 0 (2*(i:Int)) (2*(i:Int)+1)
def syncs (q:Nat):List Op:=(List.range q).map syncOp
def opL (o:Op):List Value:=opC o none 0 0
theorem zje (q:Nat):(syncs (q+1)).flatMap opL=(syncs q).flatMap opL++opL (syncOp q):=by
 unfold syncs;rw[List.range_succ,List.map_append,List.flatMap_append];simp
theorem zln (q:Nat):(syncs q).length=q:=by unfold syncs;rw[List.length_map,List.length_range]
theorem zn8 (q:Nat):∀o∈syncs q,OpOk o∧o.res.names=[]:=fun o h=>by
 unfold syncs at h;obtain⟨i,_,rfl⟩:=List.mem_map.1 h;exact z5f _ _ _ _ _ (by decide) (by decide) (by decide)
theorem zn9:∀i:Fin 8,∀j:Fin 16,legV (newV (i.val+1)) (syncs j.val)=if j.val≤10 then(true,0) else(false,2501):=by decide+kernel
theorem zlo (n M:Nat) (h1:1≤n) (h8:n≤8) (hM:M<16):legV (newV n) (syncs M)=if M≤10 then(true,0) else(false,2501):=by
 have h:=zn9 ⟨n-1,by omega⟩ ⟨M,hM⟩;simp only[show n-1+1=n by omega] at h;exact h
theorem zna:∀i:Fin 8,legV (newV (i.val+1)) []=(true,0)∧endsV (newV (i.val+1)) [] (newV (i.val+1))=(true,0)∧endsV (newV (i.val+1)) [] (outC (i.val+1))=(false,0):=by decide+kernel
theorem zlp (n:Nat) (h1:1≤n) (h8:n≤8):legV (newV n) []=(true,0)∧endsV (newV n) [] (newV n)=(true,0)∧endsV (newV n) [] (outC n)=(false,0):=by
 have h:=zna ⟨n-1,by omega⟩;simp only[show n-1+1=n by omega] at h;exact h
theorem zlq (c:Int):(∃m:Nat,m<8∧bits .and .i64 c 7=(m:Int))∧∃m:Nat,m<16∧bits .and .i64 c 15=(m:Int):=by
 have h1:(BitVec.ofInt 64 c&&& BitVec.ofInt 64 7).toNat=(BitVec.ofInt 64 c).toNat%8:=by
  rw[BitVec.toNat_and,show(BitVec.ofInt 64 7).toNat=2^3-1 from rfl,Nat.and_two_pow_sub_one_eq_mod]
 have h2:(BitVec.ofInt 64 c&&& BitVec.ofInt 64 15).toNat=(BitVec.ofInt 64 c).toNat%16:=by
  rw[BitVec.toNat_and,show(BitVec.ofInt 64 15).toNat=2^4-1 from rfl,Nat.and_two_pow_sub_one_eq_mod]
 refine⟨⟨(BitVec.ofInt 64 c).toNat%8,Nat.mod_lt _ (by omega),?_⟩,⟨(BitVec.ofInt 64 c).toNat%16,Nat.mod_lt _ (by omega),?_⟩⟩
 ·show IntKind.i64.wrap ((BitVec.ofInt 64 c&&& BitVec.ofInt 64 7).toNat:Int)=_;rw[h1,IntWalk.i64_in _ (by omega)]
 ·show IntKind.i64.wrap ((BitVec.ofInt 64 c&&& BitVec.ofInt 64 15).toNat:Int)=_;rw[h2,IntWalk.i64_in _ (by omega)]
theorem OpsAt.of_own {B:Nat} {w:World} {v:Value} {n:Nat} {ops:List Op} (h:w.ownsRow B 37 16 v n (ops.flatMap opL)) (hl:ops.length=n) (hok:∀o∈ops,OpOk o∧o.res.names=[]):∃A c,v=.slice A n c∧OpsAt w A n ops:=by
 obtain⟨A,c,hv,hc,hn,hg⟩:=z1z h (by decide);refine⟨A,c,hv,hl,fun h0=>?_⟩;obtain⟨g,hA,hlt,hm,hcell⟩:=hg h0;refine⟨g,0,hA,hlt,fun q o hq=>?_⟩;obtain⟨h1,h2⟩:=hok o (List.mem_of_getElem? hq);have hq9:q<n:=by rw[←hl];exact(List.getElem?_eq_some_iff.1 hq).1
 refine⟨none,0,0,⟨by omega,fun _=>rfl⟩,?_,h1,hlt,fun j x hx=>?_⟩
 ·rw[h2];exact⟨rfl,fun h=>absurd h (by omega)⟩
 ·have hj:j<16:=(List.getElem?_eq_some_iff.1 hx).1;rw[Nat.zero_add,hcell (q*16+j) (by omega),zgb opL 16 (fun _=>rfl) ops q j o hq hj];exact hx
theorem zok {w:World} {g:Nat} {cs:Array Value} {t:TypeId} (h:w.heap[g]? =some (.cells cs t (0,0))):∀ad,some (⟨g,0,none⟩:Addr)=some ad→∀j u,cs.toList[j]? =some u→w.cell? (ad.add j)=some u:=by
 intro ad ha j u hu;injection ha with ha
 subst ha;rw[Cv.addr_add,cell_of_row w g _ _ _ (0,0) h,←Array.getElem?_toList];exact hu
theorem zph (o:Op):∀u∈opL o,u.oneCell'=true:=by
 intro u hu;simp only[opL,opC,List.mem_cons,List.not_mem_nil,or_false] at hu
 rcases hu with rfl|rfl|rfl|rfl|rfl|rfl|rfl|rfl|rfl|rfl|rfl|rfl|rfl|rfl|rfl|rfl<;>rfl
set_option maxRecDepth 100000 in
set_option maxHeartbeats 8000000 in
theorem zlr (w:World) (many cores:Int) (hT:Tab w):
  Calls Tryz.prog 6 #[.int .i64 many,.int .i64 cores] w fun e w'=>e=.returned (.bool true)∧Below w.heap.size w w':=by
 have HT:=hid hT;clear hT;obtain⟨c7,hc7,hC7⟩:=(zlq cores).1;obtain⟨M,hM16,hM⟩:=(zlq many).2
 go_enter Tryz.func6,Tryz.ntmps6
 go_wp2_with fail;refine(zoj w HT.out).mono ?_;rintro e w0 ⟨rfl,hb0⟩;have HB0:=hid hb0;clear hb0;go_wp2_with fail;have h1:=zlj (c7+1) (by omega) (by omega) w0;rw[show((c7+1:Nat):Int)=1+(c7:Int) by omega] at h1;refine h1.mono ?_;clear h1;rintro e w1 ⟨v1,rfl,hst1,hb1⟩;obtain⟨n,hn⟩:∃n,c7+1=n:=⟨_,rfl⟩;have hn1:1≤n:=by omega
 have hn8:n≤8:=by omega
 rw[hn] at hst1;have HN:=hid (And.intro hn1 hn8);obtain⟨A1,n1,c1,E1,m1,d1,D1,k1,e1,rfl,_⟩:=hst1.at_;obtain⟨W1,hW1,p0,p1,p2,hal1,hl1⟩:=z0u w1 A1 n1 c1 E1 m1 d1 D1 k1 e1;have HS1:=hid (hst1.weak.below hal1);have HB1:=hid (HB0.out.trans ((hb1.trans (hal1.mono hb1.size)).mono HB0.out.size));clear hst1 hb1 hal1 hn hn1 hn8;go_wp2_with fail;refine(DoC n HN.out.1 HN.out.2 _ W1 HS1.out).mono ?_;rintro e w2 ⟨v2,rfl,hst2,hb2⟩;have hst2:=hst2.weak;obtain⟨A2,n2,c2,E2,m2,d2,D2,k2,e2,rfl,_⟩:=hst2.at_;obtain⟨RC,hRC⟩:∃R,(make1V (newV n) callC).2=R:=⟨_,rfl⟩;rw[hRC];have HP:=hid (And.intro p0 (And.intro p1 p2));have HS2:=hid hst2;have HB2:=hid hb2;have g0:=(hb2.cell (p:=⟨w1.heap.size,0,none⟩) hl1).trans p0;have g1:=(hb2.cell (p:=⟨w1.heap.size,1,none⟩) hl1).trans p1;have g2:=(hb2.cell (p:=⟨w1.heap.size,2,none⟩) hl1).trans p2
 have hq1:=Nat.lt_of_lt_of_le hl1 hb2.size;have hq2:w1.heap.size<w2.heap.size+1:=by omega
 have hq3:w1.heap.size≠w2.heap.size:=by omega
 have hq4:w1.heap.size≠w2.heap.size+1:=by omega
 clear p0 p1 p2 hst2 hb2 hRC;unfold resV;go_wp2_with fail;clear g0 g1 g2 hq1 hq2 hq3 hq4;obtain⟨W2,hW2,q0,q1,q2,hal2,hl2⟩:=z0u w2 A2 n2 c2 E2 m2 d2 D2 k2 e2;rw[hW2];obtain⟨W3,hW3⟩:∃W3,W2.alloc (.cells #[.int .i64 RC.code,.int .i64 RC.fd,.int .i64 RC.num,.bool RC.dir,.string RC.data,.slice none 0 0] 35)=W3:=⟨_,rfl⟩;rw[hW3];have hal3:Below W2.heap.size W2 W3:=by rw[←hW3];exact(Below.refl _ _).alloc (Nat.le_refl _) _
 have hb13:Below W1.heap.size W1 W3:=Cv.next (Cv.next HB2.out hal2) hal3;have r0:=(hb13.cell (p:=⟨w1.heap.size,0,none⟩) hl1).trans HP.out.1;have r1:=(hb13.cell (p:=⟨w1.heap.size,1,none⟩) hl1).trans HP.out.2.1;have r2:=(hb13.cell (p:=⟨w1.heap.size,2,none⟩) hl1).trans HP.out.2.2;have s0:=(hal3.cell (p:=⟨w2.heap.size,0,none⟩) hl2).trans q0;have s1:=(hal3.cell (p:=⟨w2.heap.size,1,none⟩) hl2).trans q1;have s2:=(hal3.cell (p:=⟨w2.heap.size,2,none⟩) hl2).trans q2;have HS3:=hid (HS1.out.below hb13);have HU3:=hid ((HS2.out.below hal2).below hal3);have HB3:=hid (HB1.out.trans (hb13.mono HB1.out.size));have HL1:=hid (Nat.lt_of_lt_of_le hl1 hb13.size);have HL2:=hid (Nat.lt_of_lt_of_le hl2 hal3.size);have HR:=hid (And.intro r0 (And.intro r1 r2));have HSC:=hid (And.intro s0 (And.intro s1 s2));obtain⟨ef1,ef2,ef3⟩:=zlp n HN.out.1 HN.out.2;have HE1:=hid ef1
 have HE2:=hid ef2;have HE3:=hid ef3;clear hal2 hal3 hb13 q0 q1 q2 s0 s1 s2 hl1 hl2 ef1 ef2 ef3 hW2 hW3 r0 r1 r2;have h1:=z3h _ (newV n) none 0 0 [] W3 HS3.out ⟨rfl,fun h=>absurd h (by omega)⟩ (HT.out.mono HB3.out (Nat.le_refl _)) (by decide);rw[HE1.out] at h1;refine h1.mono ?_;clear h1;rintro e w4 ⟨rfl,hb4⟩;have HB4:=hid hb4;have r0:=(hb4.cell (p:=⟨w1.heap.size,0,none⟩) HL1.out).trans HR.out.1;have r1:=(hb4.cell (p:=⟨w1.heap.size,1,none⟩) HL1.out).trans HR.out.2.1;have r2:=(hb4.cell (p:=⟨w1.heap.size,2,none⟩) HL1.out).trans HR.out.2.2;clear hb4 hW1;go_wp2_with fail;have h1:=zhr _ _ (newV n) (newV n) none 0 0 [] w4 (HS3.out.below HB4.out) ⟨rfl,fun h=>absurd h (by omega)⟩ (HS3.out.below HB4.out) ((HT.out.mono HB3.out (Nat.le_refl _)).below HB4.out) (by decide);rw[HE2.out] at h1;refine h1.mono ?_;clear h1 r0 r1 r2;rintro e w5 ⟨rfl,hb5⟩;have HB5:=hid (Cv.next HB4.out hb5)
 have r0:=(HB5.out.cell (p:=⟨w1.heap.size,0,none⟩) HL1.out).trans HR.out.1;have r1:=(HB5.out.cell (p:=⟨w1.heap.size,1,none⟩) HL1.out).trans HR.out.2.1;have r2:=(HB5.out.cell (p:=⟨w1.heap.size,2,none⟩) HL1.out).trans HR.out.2.2;have s0:=(HB5.out.cell (p:=⟨w2.heap.size,0,none⟩) HL2.out).trans HSC.out.1;have s1:=(HB5.out.cell (p:=⟨w2.heap.size,1,none⟩) HL2.out).trans HSC.out.2.1;have s2:=(HB5.out.cell (p:=⟨w2.heap.size,2,none⟩) HL2.out).trans HSC.out.2.2;clear hb5;go_wp2_with fail;have h1:=zhr _ _ (newV n) (outC n) none 0 0 [] w5 (HS3.out.below HB5.out) ⟨rfl,fun h=>absurd h (by omega)⟩ (HU3.out.below HB5.out) ((HT.out.mono HB3.out (Nat.le_refl _)).below HB5.out) (by decide);rw[HE3.out] at h1;refine h1.mono ?_;clear h1 r0 r1 r2 s0 s1 s2;rintro e w6 ⟨rfl,hb6⟩;have HB6:=hid (Cv.next HB5.out hb6);clear hb6;obtain⟨i1,hi1,hz0,hz1,hz2⟩:=info_parts zgc
 go_wp2_with fail
 go_loopw [15,16] (fun v i wr=>∃q:Nat,i=.int .i64 (q:Int)∧q≤M∧wr.ownsRow w6.heap.size 37 16 v q ((syncs q).flatMap opL)∧Below w6.heap.size w6 wr) (fun _ i _=>M-(intOf i).toNat)
 case atStart=>exact⟨0,rfl,by omega,World.ownsRow_nil _ _ _ _,Below.refl _ _⟩
 case round=>
  obtain⟨q,rfl,hq,hown,hb⟩:=hrel;have HOW:=hid hown;have HB:=hid hb;clear hown hb
  by_cases hlt:q<M
  ·go_wp2_with fail;refine(zll _ _ _ _ _ _ _ _ _ _ _ _ _ _ _ _).mono ?_;rintro e w7 ⟨rfl,hb7⟩;obtain⟨W8,hW8,r8,hal8,hl8⟩:=zoh w7 (.int .i64 16) (.int .i64 0) (.int .i64 0) (.int .i64 0) (.int .i64 0) (.string ⟨#[]⟩) (.string ⟨#[]⟩) (.string ⟨#[]⟩) (.int .i64 0) (.int .i64 0) (.int .i64 0) (.bool false) (.string ⟨#[]⟩) (.slice none 0 0) (.int .i64 (2*(q:Int))) (.int .i64 (2*(q:Int)+1));have hb78:=Cv.next hb7 hal8;have HOW8:=hid (z2k HOW.out hb78);have HB8:=hid (HB.out.trans (hb78.mono HB.out.size));have HR8:=hid r8;have hsz8:=HB8.out.size;clear hb7 hal8 hb78 r8;go_wp2_with (at_builtin;refine z0n rfl _ _ 42 37 (.agg (opC zeroOp none 0 0).toArray) 16 176 rfl Tryz.underlying42 zgc rfl (by decide) w6.heap.size _ q ((syncs q).flatMap opL) rfl HOW8.out (some ⟨w7.heap.size,0,none⟩) 1 1 (opL (syncOp q)) rfl rfl (zok HR8.out) (fun h=>by cases h) (zph _) ?h63 ?hb ?hB ?_)
   case h63=>unfold maxLen;omega
   case hb=>omega
   case hB=>exact hsz8
   intro v' w9 hown9 hgrow9;have HO9:=hid (show w9.ownsRow w6.heap.size 37 16 v' (q+1) ((syncs (q+1)).flatMap opL) by rw[zje];exact hown9);have HB9:=hid (HB8.out.grown hgrow9 hsz8 (fun k hk=>(HOW8.out.lt k hk).1));clear hown9 hgrow9 hW8;go_wp2_with fail;go_roundw
   case rel=>exact⟨q+1,by go_num,hlt,HO9.out,HB9.out⟩
   case measure=>simp[intOf];omega
  ·have hqM:q=M:=by omega
   subst hqM;obtain⟨A9,c9,rfl,hops⟩:=OpsAt.of_own HOW.out (zln q) (zn8 q);have HB36:=hid (Cv.next HB6.out HB.out);have HOPS:=hid hops;have r0:=(HB36.out.cell (p:=⟨w1.heap.size,0,none⟩) HL1.out).trans HR.out.1;have r1:=(HB36.out.cell (p:=⟨w1.heap.size,1,none⟩) HL1.out).trans HR.out.2.1;have r2:=(HB36.out.cell (p:=⟨w1.heap.size,2,none⟩) HL1.out).trans HR.out.2.2;clear hops;go_wp2_with fail;have h1:=z3h _ (newV n) A9 q c9 (syncs q) wr (HS3.out.below HB36.out) HOPS.out ((HT.out.mono HB3.out (Nat.le_refl _)).below HB36.out) (by omega);rw[zlo n q HN.out.1 HN.out.2 hM16] at h1
   by_cases h10:q≤10
   ·rw[if_pos h10] at h1;refine h1.mono ?_;clear h1;rintro e w10 ⟨rfl,hb10⟩;have HB10:=hid (HB3.out.trans ((Cv.next HB36.out hb10).mono HB3.out.size));have k1:decide ((10:Int)<(q:Int))=false:=decide_eq_false (by omega);clear hb10 r0 r1 r2;go_wp2_with fail;refine(z8w _ _).mono ?_;rintro _ _ ⟨rfl,rfl⟩;go_wp2_with fail;refine(z8w _ _).mono ?_;rintro _ _ ⟨rfl,rfl⟩;go_wp2_with fail;refine(z8w _ _).mono ?_;rintro _ _ ⟨rfl,rfl⟩;go_wp2_with fail;refine(z8w _ _).mono ?_;rintro _ _ ⟨rfl,rfl⟩;go_wp2_with fail;go_ret;exact⟨rfl,HB10.out⟩
   ·rw[if_neg h10] at h1;refine h1.mono ?_;clear h1;rintro e w10 ⟨rfl,hb10⟩;have HB10:=hid (HB3.out.trans ((Cv.next HB36.out hb10).mono HB3.out.size));have k1:decide ((10:Int)<(q:Int))=true:=decide_eq_true (by omega);clear hb10 r0 r1 r2;go_wp2_with fail;refine(z8w _ _).mono ?_;rintro _ _ ⟨rfl,rfl⟩;go_wp2_with fail;refine(z8w _ _).mono ?_;rintro _ _ ⟨rfl,rfl⟩;go_wp2_with fail;refine(z8w _ _).mono ?_;rintro _ _ ⟨rfl,rfl⟩;go_wp2_with fail;refine(z8w _ _).mono ?_;rintro _ _ ⟨rfl,rfl⟩;go_wp2_with fail;go_ret;exact⟨rfl,HB10.out⟩
end Go.Proofs.YtkflaifopbodfaaGreatDoor
