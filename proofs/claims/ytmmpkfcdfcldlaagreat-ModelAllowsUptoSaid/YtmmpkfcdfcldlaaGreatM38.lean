/- Parts of the proof, side by side: MoRunAll, LaClone, MoCloneR, MoCloneW. -/
import Derived.Test.YtmmpkfcdfcldlaaGreatM29
import Derived.Test.YtmmpkfcdfcldlaaGreatM32
import Derived.Test.YtmmpkfcdfcldlaaGreatM34
import Derived.Test.YtmmpkfcdfcldlaaGreatM35
import Derived.Test.YtmmpkfcdfcldlaaGreatM36
import Derived.Test.YtmmpkfcdfcldlaaGreatM37
import Derived.Test.YtmmpkfcdfcldlaaGreatM07
import Derived.Test.YtmmpkfcdfcldlaaGreatM13
import Derived.Test.YtmmpkfcdfcldlaaGreatM25
import Derived.Test.YtmmpkfcdfcldlaaGreatM10
import Derived.Test.YtmmpkfcdfcldlaaGreatM26
import Derived.Deep.RegionHeld3
set_option linter.unusedVariables false
set_option linter.unusedSimpArgs false
namespace Go.Proofs.YtmmpkfcdfcldlaaGreat
open Lib (hid)
open Go.RowKit
theorem ze5 (s:St) (c:Ca) (h:(make1V s c).2.code≠0):make1V s c=(s,{ code:=(make1V s c).2.code }):=by
 unfold make1V at h ⊢
 split
 ·rfl
 ·split
  ·rfl
  ·split
   ·rfl
   ·rename_i h1 h2 h3;rw[if_neg h1,if_neg h2,if_neg h3] at h;exact absurd rfl h
theorem zcs (s:St) (c:Ca) (want:Int) (h:(openedV s c want).2.1.code≠0):((openedV s c want).1,(openedV s c want).2.1)=(s,{ code:=(openedV s c want).2.1.code }):=by
 unfold openedV at h ⊢
 split
 ·rfl
 ·rename_i h1;rw[if_neg h1] at h
  split
  ·rfl
  ·rename_i h2;rw[if_neg h2] at h
   split
   ·rfl
   ·rename_i h3;rw[if_neg h3] at h
    split
    ·rename_i h4;rw[if_pos h4] at h
     split
     ·rename_i h5;rw[if_pos h5] at h
      all_goals exact absurd rfl h
     ·rename_i h5;rw[if_neg h5] at h
      all_goals exact absurd rfl h
    ·rename_i h4;rw[if_neg h4] at h;exact absurd rfl h
theorem zgp (s:St) (c:Ca) (h:(byFdV s c).2.code≠0):byFdV s c=(s,{ code:=(byFdV s c).2.code }):=by
 obtain⟨R,hR⟩:∃R,byFdV s c=R:=⟨_,rfl⟩;rw[hR] at h ⊢;unfold byFdV at hR
 repeat' (first|(subst hR;first|rfl|exact absurd rfl h)|split at hR)
theorem zgq (s:St) (c:Ca) (h:(linkV s c).2.code≠0):linkV s c=(s,{ code:=(linkV s c).2.code }):=by
 obtain⟨R,hR⟩:∃R,linkV s c=R:=⟨_,rfl⟩;rw[hR] at h ⊢;unfold linkV at hR
 repeat' (first|(subst hR;first|rfl|exact absurd rfl h)|split at hR)
theorem zct (s:St) (c:Ca) (dir:Int) (name:ByteArray) (num:Int) (h:(renameV s c dir name num).2.code≠0):renameV s c dir name num=(s,{ code:=(renameV s c dir name num).2.code }):=by
 obtain⟨R,hR⟩:∃R,renameV s c dir name num=R:=⟨_,rfl⟩;rw[hR] at h ⊢;unfold renameV at hR;obtain⟨but,hb⟩:∃but,(if(parentV s.inos c.path2).1=dir then name else txt [])=but:=⟨_,rfl⟩;rw[hb] at hR
 repeat' (first|(subst hR;first|rfl|exact absurd rfl h)|split at hR)
theorem ze6 (s:St) (c:Ca) (h:(namesV s c).2.code≠0):namesV s c=(s,{ code:=(namesV s c).2.code }):=by
 obtain⟨R,hR⟩:∃R,namesV s c=R:=⟨_,rfl⟩;rw[hR] at h ⊢;unfold namesV at hR
 split at hR
 ·subst hR;exact zgq s c h
 ·split at hR
  ·subst hR;rfl
  ·split at hR
   ·subst hR;rfl
   ·split at hR
    ·subst hR;exact zct s c _ _ _ h
    ·repeat' (first|(subst hR;first|rfl|exact absurd rfl h)|split at hR)
theorem ze7 (s:St) (c:Ca) (h:(looksV s c).code≠0):looksV s c={ code:=(looksV s c).code }:=by
 obtain⟨R,hR⟩:∃R,looksV s c=R:=⟨_,rfl⟩;rw[hR] at h ⊢;unfold looksV at hR
 repeat' (first|(subst hR;first|rfl|exact absurd rfl h)|split at hR)
theorem zkc (s:St) (c:Ca) (want:Int) (h:(doF s c want).2.1.code≠0):((doF s c want).1,(doF s c want).2.1)=(s,{ code:=(doF s c want).2.1.code }):=by
 unfold doF at h ⊢
 split
 ·rfl
 ·rename_i h1;rw[if_neg h1] at h
  split
  ·rename_i h2;rw[if_pos h2] at h;exact ze5 s c h
  ·rename_i h2;rw[if_neg h2] at h
   split
   ·rename_i h3;rw[if_pos h3] at h;exact zcs s c want h
   ·rename_i h3;rw[if_neg h3] at h
    split
    ·rename_i h4;rw[if_pos h4] at h;exact zgp s c h
    ·rename_i h4;rw[if_neg h4] at h
     split
     ·rename_i h5;rw[if_pos h5] at h;exact ze6 s c h
     ·rename_i h5;rw[if_neg h5] at h
      split
      ·rename_i h6;rw[if_pos h6] at h;have:=ze7 s c h;exact congrArg (fun r=>(s,r)) this
      ·rename_i h6;rw[if_neg h6] at h
       all_goals exact absurd rfl h
theorem zkd (s:St) (c:Ca) (h:(doV s c).2.code≠0):doV s c=(s,{ code:=(doV s c).2.code }):=zkc s c (-1) h
theorem ze8 (s:St) (c:Ca) (hk:c.kind=8):namesV s c=linkV s c:=by unfold namesV;rw[if_pos hk]
theorem zke (B q p:Nat) (s:St) (c:Ca) (zs:List (Ino×Value)) (vI vO vM:Value) (w:World) (hN:Now B q p s c zs vI vO vM w w) (hg:Good s) (hp1:c.path.size≤140737488355328) (hp2:c.path2.size≤140737488355328) (hds:c.data.size≤140737488355328)
  (hk0:0≤c.kind) (hk1:c.kind≤16) (hc0:0≤c.core) (hc1:c.core<(s.made.length:Int)):
  Calls Tryz.prog 31 #[.pointer (some ⟨q,0,.none⟩)] w (Ran B q p c (doV s c) w):=by
 have hm:=(z1o s).2 hg
 have h0:¬(mayV s=false∨c.core<0∨(s.made.length:Int)≤c.core∨c.kind<0∨16<c.kind):=by
  rw[hm];simp;omega
 have hdo:doV s c=if c.kind≤1 then make1V s c else if c.kind=2 then((openedV s c (-1)).1,(openedV s c (-1)).2.1) else if c.kind≤7∨c.kind=15 then byFdV s c else if c.kind≤11 then namesV s c else if c.kind≤14 then(s,looksV s c) else(s,{}):=by
  unfold doV doF;rw[if_neg h0]
  repeat' (first|rfl|split)
 have hkk:c.kind=0∨c.kind=1∨c.kind=2∨c.kind=3∨c.kind=4∨c.kind=5∨c.kind=6∨c.kind=7∨c.kind=8∨c.kind=9∨c.kind=10∨c.kind=11∨c.kind=12∨c.kind=13∨c.kind=14∨c.kind=15∨c.kind=16:=by omega
 have hco:c.core=((c.core.toNat:Nat):Int):=by omega
 rcases hkk with hk|hk|hk|hk|hk|hk|hk|hk|hk|hk|hk|hk|hk|hk|hk|hk|hk
 ·rw[hdo,if_pos (by omega)];exact zli B q p s c zs vI vO vM _ w hN hk (z9j B q p s c c.core.toNat zs vI vO vM w hN hg hp1 hco (by omega) (.inl hk))
 ·rw[hdo,if_pos (by omega)];exact zlj B q p s c zs vI vO vM _ w hN hk (z9j B q p s c c.core.toNat zs vI vO vM w hN hg hp1 hco (by omega) (.inr hk))
 ·rw[hdo,if_neg (by omega),if_pos hk];exact zlk B q p s c zs vI vO vM _ w hN hk (zii B q p s c zs vI vO vM w hN hg hp1)
 ·rw[hdo,if_neg (by omega),if_neg (by omega),if_pos (by omega)];exact zlr B q p s c zs vI vO vM w hN hg hk
 ·rw[hdo,if_neg (by omega),if_neg (by omega),if_pos (by omega)];exact zll B q p s c zs vI vO vM _ w hN hk (zin B q p s c zs vI vO vM w hN hg hk)
 ·rw[hdo,if_neg (by omega),if_neg (by omega),if_pos (by omega)];exact zlm B q p s c zs vI vO vM _ w hN hk (zgm B q p s c zs vI vO vM w hN hg hk hds)
 ·rw[hdo,if_neg (by omega),if_neg (by omega),if_pos (by omega)];exact zln B q p s c zs vI vO vM _ w hN hk (zgl B q p s c zs vI vO vM w hN hg hk)
 ·rw[hdo,if_neg (by omega),if_neg (by omega),if_pos (by omega)];exact zlo B q p s c zs vI vO vM _ w hN hk (zim B q p s c zs vI vO vM w hN hg hk)
 ·rw[hdo,if_neg (by omega),if_neg (by omega),if_neg (by omega),if_pos (by omega),ze8 s c hk];exact zlp B q p s c zs vI vO vM _ w hN hk (zio B q p s c zs vI vO vM w hN hg hp1 hp2)
 ·rw[hdo,if_neg (by omega),if_neg (by omega),if_neg (by omega),if_pos (by omega),z3w s c (.inl hk)];exact zlq B q p s c zs vI vO vM _ w hN hk (z9k B q p s c zs vI vO vM w hN hg hp1 (.inl hk))
 ·rw[hdo,if_neg (by omega),if_neg (by omega),if_neg (by omega),if_pos (by omega),z3w s c (.inr hk)];exact zl0 B q p s c zs vI vO vM _ w hN hk (z9k B q p s c zs vI vO vM w hN hg hp1 (.inr hk))
 ·rw[hdo,if_neg (by omega),if_neg (by omega),if_neg (by omega),if_pos (by omega),z6f s c hk];exact zl1 B q p s c zs vI vO vM _ w hN hk (ze4 B q p s c zs vI vO vM w hN hg hp1 hp2 hk)
 ·rw[hdo,if_neg (by omega),if_neg (by omega),if_neg (by omega),if_neg (by omega),if_pos (by omega)];exact zl2 B q p s c zs vI vO vM _ w hN hk (ziq B q p s c zs vI vO vM w hN hg hp1 hk)
 ·rw[hdo,if_neg (by omega),if_neg (by omega),if_neg (by omega),if_neg (by omega),if_pos (by omega)];exact zl3 B q p s c zs vI vO vM _ w hN hk (zip B q p s c zs vI vO vM w hN hg hp1 hk)
 ·rw[hdo,if_neg (by omega),if_neg (by omega),if_neg (by omega),if_neg (by omega),if_pos (by omega)];exact zl4 B q p s c zs vI vO vM _ w hN hk (zcr B q p s c zs vI vO vM w hN hg hp1 hk)
 ·rw[hdo,if_neg (by omega),if_neg (by omega),if_pos (by omega)];exact zl6 B q p s c zs vI vO vM w hN hg hk
 ·rw[hdo,if_neg (by omega),if_neg (by omega),if_neg (by omega),if_neg (by omega),if_neg (by omega)];exact zl5 B q p s c zs vI vO vM w hN hk
theorem z2m {P:Program} (t e:TypeId) (h:P.underlying t=some (.slice e)) (a:Option Addr) (l c:Nat) (w:World):(binOp .eql t (.slice a l c) (.slice .none 0 0)).run P w=.ok (.bool a.isNone) w:=by
 simp only[binOp];simp[run_equal_slice_nil w t e a l c h]
theorem InosAt.zs {w:World} {g off n:Nat} {is:List Ino} (h:InosAt none w (some ⟨g,off,none⟩) n is) (hn:0<n):
  ∃zs:List (Ino×Value),zs.map Prod.fst=is∧(∀z∈zs,∃A m c,z.2=.slice A m c∧SlOk A m c∧EntsAt none w A m z.1.ents)∧∀j u,(zs.flatMap inoV)[j]? =some u→w.cell? ((⟨g,off,none⟩:Addr).add j)=some u:=by
 obtain⟨g',off',hA,hg,_,hc⟩:=h.2 hn;injection hA with hA
 injection hA with e1 e2
 subst e1 e2;obtain⟨zs,hzs⟩:∃zs:List (Ino×Value),zs=is.mapIdx (fun j x=>(x,(w.cell? ⟨g,off+j*4+2,none⟩).getD (.bool false))):=⟨_,rfl⟩
 have hget:∀j z,zs[j]? =some z→∃x,is[j]? =some x∧z=(x,(w.cell? ⟨g,off+j*4+2,none⟩).getD (.bool false)):=by
  intro j z hz;rw[hzs,List.getElem?_mapIdx] at hz;obtain⟨x,hx,he⟩:=Option.map_eq_some_iff.1 hz;exact⟨x,hx,he.symm⟩
 refine⟨zs,?_,?_,?_⟩
 ·apply List.ext_getElem?;intro j;rw[hzs,List.getElem?_map,List.getElem?_mapIdx];cases is[j]?<;>rfl
 ·intro z hz;obtain⟨j,hj⟩:=List.getElem?_of_mem hz;obtain⟨x,hx,rfl⟩:=hget j z hj;obtain⟨_,_,⟨B,m,c,h3,h4,h5⟩,_⟩:=hc j x hx;exact⟨B,m,c,by simp[h3],h4,h5⟩
 ·refine z4u inoV 4 (fun _=>rfl) (by decide) zs (fun j z hz i hi=>?_);obtain⟨x,hx,rfl⟩:=hget j z hz;obtain⟨h1,h2,⟨B,m,c,h3,_,_⟩,h4⟩:=hc j x hx
  rcases i with _|_|_|_|i
  ·exact h1
  ·exact h2
  ·show w.cell? ⟨g,off+j*4+2,none⟩=some ((w.cell? ⟨g,off+j*4+2,none⟩).getD (.bool false));rw[h3];rfl
  ·exact h4
  ·omega
structure Kept (W0 w:World) (g n:Nat) (zs:List (Ino×Value)):Prop where
 row:∃cur,w.heap[g]? =some (.cells cur 59 (0,0))∧∀(j:Nat) (v:Value),(zs.flatMap inoV)[j]? =some v→cur[j]? =some v
 len:zs.length=n
 ents:∀z∈zs,∃A m c,z.2=.slice A m c∧SlOk A m c∧EntsAt none W0 A m z.1.ents
theorem Kept.lt {W0 w:World} {g n:Nat} {zs:List (Ino×Value)} (h:Kept W0 w g n zs):g<w.heap.size:=by
 obtain⟨cur,h1,_⟩:=h.row;exact(Array.getElem?_eq_some_iff.1 h1).1
theorem Kept.same {W0 w w':World} {g n:Nat} {zs:List (Ino×Value)} (h:Kept W0 w g n zs) (hb:∀cur,w.heap[g]? =some (.cells cur 59 (0,0))→w'.heap[g]? =some (.cells cur 59 (0,0))):Kept W0 w' g n zs:=by
 obtain⟨cur,h1,h2⟩:=h.row;exact⟨⟨cur,hb cur h1,h2⟩,h.len,h.ents⟩
theorem Kept.below {W0 w w':World} {g n:Nat} {zs:List (Ino×Value)} (h:Kept W0 w g n zs) (hb:Below w.heap.size w w'):Kept W0 w' g n zs:=
 h.same fun cur h1=>(hb.block g (Array.getElem?_eq_some_iff.1 h1).1).trans h1
theorem Kept.wr {W0 w w':World} {B b g n:Nat} {zs:List (Ino×Value)} (h:Kept W0 w g n zs) (hb:Wr B b w w') (hne:g≠b):Kept W0 w' g n zs:=
 h.same fun cur h1=>hb.keep g _ h1 hne (by intro cs fr h9;injection h9 with _ h9;exact absurd h9 (by decide))
theorem Kept.get {W0 w:World} {g n:Nat} {zs:List (Ino×Value)} (h:Kept W0 w g n zs) (j:Nat) (hj:j<n):∃x A m c,(zs.map Prod.fst)[j]? =some x∧SlOk A m c∧EntsAt none W0 A m x.ents∧
  w.cell? ⟨g,j*4,none⟩=some (.int .i64 x.num)∧w.cell? ⟨g,j*4+1,none⟩=some (.bool x.dir)∧w.cell? ⟨g,j*4+2,none⟩=some (.slice A m c)∧w.cell? ⟨g,j*4+3,none⟩=some (.string x.data):=by
 obtain⟨cur,h1,h2⟩:=h.row;have hl:j<zs.length:=by rw[h.len];exact hj
 obtain⟨z,hz⟩:∃z,zs[j]? =some z:=⟨_,List.getElem?_eq_getElem hl⟩;have f:=z1b inoV 4 (fun x=>rfl) zs j z hz;obtain⟨A,m,c,he,hok,hE⟩:=h.ents z (List.mem_of_getElem? hz);refine⟨z.1,A,m,c,by rw[List.getElem?_map,hz];rfl,hok,hE,?_,?_,?_,?_⟩
 ·rw[cell_of_row w g _ cur _ (0,0) h1];exact h2 _ _ (f 0 (by omega))
 ·rw[cell_of_row w g _ cur _ (0,0) h1];exact h2 _ _ (f 1 (by omega))
 ·rw[cell_of_row w g _ cur _ (0,0) h1,←he];exact h2 _ _ (f 2 (by omega))
 ·rw[cell_of_row w g _ cur _ (0,0) h1];exact h2 _ _ (f 3 (by omega))
theorem Kept.cells {W0 w:World} {g n:Nat} {zs:List (Ino×Value)} (h:Kept W0 w g n zs) {j:Nat} {z:Ino×Value} {A:Option Addr} {m c:Nat} (hz:zs[j]? =some z) (he:z.2=.slice A m c):
  w.cell? ⟨g,j*4,none⟩=some (.int .i64 z.1.num)∧w.cell? ⟨g,j*4+1,none⟩=some (.bool z.1.dir)∧w.cell? ⟨g,j*4+2,none⟩=some (.slice A m c)∧w.cell? ⟨g,j*4+3,none⟩=some (.string z.1.data):=by
 obtain⟨cur,h1,h2⟩:=h.row;have f:=z1b inoV 4 (fun x=>rfl) zs j z hz;refine⟨?_,?_,?_,?_⟩
 ·rw[cell_of_row w g _ cur _ (0,0) h1];exact h2 _ _ (f 0 (by omega))
 ·rw[cell_of_row w g _ cur _ (0,0) h1];exact h2 _ _ (f 1 (by omega))
 ·rw[cell_of_row w g _ cur _ (0,0) h1,←he];exact h2 _ _ (f 2 (by omega))
 ·rw[cell_of_row w g _ cur _ (0,0) h1];exact h2 _ _ (f 3 (by omega))
theorem Kept.inos {W0 w:World} {g n:Nat} {zs:List (Ino×Value)} (h:Kept W0 w g n zs) (hb:Below W0.heap.size W0 w):InosAt none w (some ⟨g,0,none⟩) n (zs.map Prod.fst):=by
 refine⟨by rw[List.length_map,h.len],fun _=>⟨g,0,rfl,h.lt,Mine.any _ _ _,fun j x hx=>?_⟩⟩
 have hj:j<n:=by
  have:=(List.getElem?_eq_some_iff.1 hx).1;rw[List.length_map,h.len] at this;exact this
 obtain⟨y,A,m,c,h1,h2,h3,h4,h5,h6,h7⟩:=h.get j hj;have:y=x:=by rw[h1] at hx;exact Option.some.inj hx
 subst this;rw[Nat.zero_add];exact⟨h4,h5,⟨A,m,c,h6,h2,h3.below hb⟩,h7⟩
theorem Kept.of_row {W0 w:World} {B n:Nat} {v:Value} {zs:List (Ino×Value)} (h:w.ownsRow B 59 4 v n (zs.flatMap inoV)) (hn:0<n) (he:∀z∈zs,∃A m c,z.2=.slice A m c∧SlOk A m c∧EntsAt none W0 A m z.1.ents):
  ∃g c,v=.slice (some ⟨g,0,none⟩) n c∧n≤c∧B≤g∧Kept W0 w g n zs:=by
 have hl:zs.length=n:=by
  have h1:=h.1;rw[z1c inoV 4 (fun x=>rfl)] at h1;omega
 rcases h.2 with⟨_,h0⟩|⟨g,cap,cur,rfl,hb,hg,hnc,hcm,hcs,htk⟩
 ·omega
 ·refine⟨g,cap,rfl,hnc,hb,⟨cur,hg,fun j v hv=>?_⟩,hl,he⟩;rw[←htk,List.getElem?_take] at hv
  split at hv
  ·rw[←Array.getElem?_toList];exact hv
  ·cases hv
theorem zkf {w:World} (zs:List (Ino×Value)) (he:∀z∈zs,∃A m c,z.2=.slice A m c∧SlOk A m c∧EntsAt none w A m z.1.ents):∀u∈zs.flatMap inoV,u.oneCell'=true:=by
 intro u hu;obtain⟨z,hz,hu2⟩:=List.mem_flatMap.1 hu;obtain⟨A,m,c,h1,_⟩:=he z hz;simp[inoV,h1] at hu2
 rcases hu2 with rfl|rfl|rfl|rfl<;>rfl
set_option maxRecDepth 100000 in
set_option maxHeartbeats 2000000 in
theorem zgr (xs:List Value) (A:Option Addr) (n c:Nat) (w:World) (hok:SlOk A n c) (hl:xs.length=n*2) (hx:∀ad,A=some ad→∀j u,xs[j]? =some u→w.cell? (ad.add j)=some u) (h1:∀u∈xs,u.oneCell'=true) (hn:n≤1099511627776):
  Calls Tryz.prog 67 #[.slice A n c] w fun e w'=>∃v',e=.returned v'∧RowAt w.heap.size w' 73 2 v' n xs∧Below w.heap.size w w':=by
 have heq:=z2m (P:=Tryz.prog) 57 73 Tryz.underlying57
 rcases A with _|ad
 ·have hc0:=hok.2 rfl;have hn0:n=0:=by have:=hok.1;omega
  subst hn0 hc0;have hx0:xs=[]:=List.length_eq_zero_iff.1 (by omega);subst hx0;clear hx h1 hl hok
  go_enter Tryz.func67,Tryz.ntmps67
  go_wp2_with fail;go_ret;exact⟨_,rfl,⟨rfl,.inl ⟨none,rfl,rfl⟩⟩,Below.refl _ _⟩
 ·have hal:Below w.heap.size w (w.alloc (.cells #[] 73)):=(Below.refl _ _).alloc (Nat.le_refl _) _;have hown:=z2l w w.heap.size 73 2 (Nat.le_refl _)
  have hx2:∀ad',some ad=some ad'→∀j u,xs[j]? =some u→(w.alloc (.cells #[] 73)).cell? (ad'.add j)=some u:=fun ad' he j u hj=>by
   have h:=hx ad' he j u hj;exact(hal.cell (World.block_lt_of_cell? _ _ h)).trans h
  have HO:=hid hown;have HL:=hid hl;have HX:=hid hx2;have HAL:=hid hal;have H1:=hid h1;clear hok hl hx hx2 hal hown h1
  go_enter Tryz.func67,Tryz.ntmps67
  go_wp2_with (at_builtin;refine z0i rfl _ _ 57 73 (.agg #[.string ⟨#[]⟩,.int .i64 0]) 2 24 rfl Tryz.underlying57 z4b rfl (by decide) w.heap.size _ 0 [] rfl HO.out (some ad) n c xs rfl HL.out HX.out (fun e=>by cases e) H1.out ?h63 ?hb ?hB ?_)
  case h63=>unfold maxLen;omega
  case hb=>omega
  case hB=>exact HAL.out.size
  intro v' w2 hown' hgrow;have hb2:Below w.heap.size w w2:=HAL.out.grown hgrow HAL.out.size fun x hx=>(HO.out.lt x hx).1
  have hown2:w2.ownsRow w.heap.size 73 2 v' n xs:=by simpa using hown'
  have HR:=hid (RowAt.of_own hown2);have HB2:=hid hb2;clear hown' hown2 hgrow hb2;go_wp2_with fail;go_ret;exact⟨v',rfl,HR.out,HB2.out⟩
set_option maxRecDepth 100000 in
set_option maxHeartbeats 2000000 in
theorem zgs (xs:List Value) (A:Option Addr) (n c:Nat) (w:World) (hok:SlOk A n c) (hl:xs.length=n*3) (hx:∀ad,A=some ad→∀j u,xs[j]? =some u→w.cell? (ad.add j)=some u) (h1:∀u∈xs,u.oneCell'=true) (hn:n≤1099511627776):
  Calls Tryz.prog 68 #[.slice A n c] w fun e w'=>∃v',e=.returned v'∧RowAt w.heap.size w' 75 3 v' n xs∧Below w.heap.size w w':=by
 have heq:=z2m (P:=Tryz.prog) 23 75 Tryz.underlying23
 rcases A with _|ad
 ·have hc0:=hok.2 rfl;have hn0:n=0:=by have:=hok.1;omega
  subst hn0 hc0;have hx0:xs=[]:=List.length_eq_zero_iff.1 (by omega);subst hx0;clear hx h1 hl hok
  go_enter Tryz.func68,Tryz.ntmps68
  go_wp2_with fail;go_ret;exact⟨_,rfl,⟨rfl,.inl ⟨none,rfl,rfl⟩⟩,Below.refl _ _⟩
 ·have hal:Below w.heap.size w (w.alloc (.cells #[] 75)):=(Below.refl _ _).alloc (Nat.le_refl _) _;have hown:=z2l w w.heap.size 75 3 (Nat.le_refl _)
  have hx2:∀ad',some ad=some ad'→∀j u,xs[j]? =some u→(w.alloc (.cells #[] 75)).cell? (ad'.add j)=some u:=fun ad' he j u hj=>by
   have h:=hx ad' he j u hj;exact(hal.cell (World.block_lt_of_cell? _ _ h)).trans h
  have HO:=hid hown;have HL:=hid hl;have HX:=hid hx2;have HAL:=hid hal;have H1:=hid h1;clear hok hl hx hx2 hal hown h1
  go_enter Tryz.func68,Tryz.ntmps68
  go_wp2_with (at_builtin;refine z0i rfl _ _ 23 75 (.agg #[.int .i64 0,.int .i64 0,.int .i64 0]) 3 24 rfl Tryz.underlying23 z5b rfl (by decide) w.heap.size _ 0 [] rfl HO.out (some ad) n c xs rfl HL.out HX.out (fun e=>by cases e) H1.out ?h63 ?hb ?hB ?_)
  case h63=>unfold maxLen;omega
  case hb=>omega
  case hB=>exact HAL.out.size
  intro v' w2 hown' hgrow;have hb2:Below w.heap.size w w2:=HAL.out.grown hgrow HAL.out.size fun x hx=>(HO.out.lt x hx).1
  have hown2:w2.ownsRow w.heap.size 75 3 v' n xs:=by simpa using hown'
  have HR:=hid (RowAt.of_own hown2);have HB2:=hid hb2;clear hown' hown2 hgrow hb2;go_wp2_with fail;go_ret;exact⟨v',rfl,HR.out,HB2.out⟩
set_option maxRecDepth 100000 in
set_option maxHeartbeats 2000000 in
theorem zgt (xs:List Value) (A:Option Addr) (n c:Nat) (w:World) (hok:SlOk A n c) (hl:xs.length=n*1) (hx:∀ad,A=some ad→∀j u,xs[j]? =some u→w.cell? (ad.add j)=some u) (h1:∀u∈xs,u.oneCell'=true) (hn:n≤1099511627776):
  Calls Tryz.prog 69 #[.slice A n c] w fun e w'=>∃v',e=.returned v'∧RowAt w.heap.size w' 3 1 v' n xs∧Below w.heap.size w w':=by
 have heq:=z2m (P:=Tryz.prog) 24 3 Tryz.underlying24
 rcases A with _|ad
 ·have hc0:=hok.2 rfl;have hn0:n=0:=by have:=hok.1;omega
  subst hn0 hc0;have hx0:xs=[]:=List.length_eq_zero_iff.1 (by omega);subst hx0;clear hx h1 hl hok
  go_enter Tryz.func69,Tryz.ntmps69
  go_wp2_with fail;go_ret;exact⟨_,rfl,⟨rfl,.inl ⟨none,rfl,rfl⟩⟩,Below.refl _ _⟩
 ·have hal:Below w.heap.size w (w.alloc (.cells #[] 3)):=(Below.refl _ _).alloc (Nat.le_refl _) _;have hown:=z2l w w.heap.size 3 1 (Nat.le_refl _)
  have hx2:∀ad',some ad=some ad'→∀j u,xs[j]? =some u→(w.alloc (.cells #[] 3)).cell? (ad'.add j)=some u:=fun ad' he j u hj=>by
   have h:=hx ad' he j u hj;exact(hal.cell (World.block_lt_of_cell? _ _ h)).trans h
  have HO:=hid hown;have HL:=hid hl;have HX:=hid hx2;have HAL:=hid hal;have H1:=hid h1;clear hok hl hx hx2 hal hown h1
  go_enter Tryz.func69,Tryz.ntmps69
  go_wp2_with (at_builtin;refine z0i rfl _ _ 24 3 (.int .i64 0) 1 8 rfl Tryz.underlying24 z3p rfl (by decide) w.heap.size _ 0 [] rfl HO.out (some ad) n c xs rfl HL.out HX.out (fun e=>by cases e) H1.out ?h63 ?hb ?hB ?_)
  case h63=>unfold maxLen;omega
  case hb=>omega
  case hB=>exact HAL.out.size
  intro v' w2 hown' hgrow;have hb2:Below w.heap.size w w2:=HAL.out.grown hgrow HAL.out.size fun x hx=>(HO.out.lt x hx).1
  have hown2:w2.ownsRow w.heap.size 3 1 v' n xs:=by simpa using hown'
  have HR:=hid (RowAt.of_own hown2);have HB2:=hid hb2;clear hown' hown2 hgrow hb2;go_wp2_with fail;go_ret;exact⟨v',rfl,HR.out,HB2.out⟩
set_option maxRecDepth 100000 in
set_option maxHeartbeats 2000000 in
theorem zgu (xs:List Value) (A:Option Addr) (n c:Nat) (w:World) (hok:SlOk A n c) (hl:xs.length=n*4) (hx:∀ad,A=some ad→∀j u,xs[j]? =some u→w.cell? (ad.add j)=some u) (h1:∀u∈xs,u.oneCell'=true) (hn:n≤1099511627776):
  Calls Tryz.prog 66 #[.slice A n c] w fun e w'=>∃v',e=.returned v'∧RowAt w.heap.size w' 59 4 v' n xs∧Below w.heap.size w w':=by
 have heq:=z2m (P:=Tryz.prog) 22 59 Tryz.underlying22
 rcases A with _|ad
 ·have hc0:=hok.2 rfl;have hn0:n=0:=by have:=hok.1;omega
  subst hn0 hc0;have hx0:xs=[]:=List.length_eq_zero_iff.1 (by omega);subst hx0;clear hx h1 hl hok
  go_enter Tryz.func66,Tryz.ntmps66
  go_wp2_with fail;go_ret;exact⟨_,rfl,⟨rfl,.inl ⟨none,rfl,rfl⟩⟩,Below.refl _ _⟩
 ·have hal:Below w.heap.size w (w.alloc (.cells #[] 59)):=(Below.refl _ _).alloc (Nat.le_refl _) _;have hown:=z2l w w.heap.size 59 4 (Nat.le_refl _)
  have hx2:∀ad',some ad=some ad'→∀j u,xs[j]? =some u→(w.alloc (.cells #[] 59)).cell? (ad'.add j)=some u:=fun ad' he j u hj=>by
   have h:=hx ad' he j u hj;exact(hal.cell (World.block_lt_of_cell? _ _ h)).trans h
  have HO:=hid hown;have HL:=hid hl;have HX:=hid hx2;have HAL:=hid hal;have H1:=hid h1;clear hok hl hx hx2 hal hown h1
  go_enter Tryz.func66,Tryz.ntmps66
  go_wp2_with (at_builtin;refine z0i rfl _ _ 22 59 (.agg #[.int .i64 0,.bool false,.slice none 0 0,.string ⟨#[]⟩]) 4 56 rfl Tryz.underlying22 z3q rfl (by decide) w.heap.size _ 0 [] rfl HO.out (some ad) n c xs rfl HL.out HX.out (fun e=>by cases e) H1.out ?h63 ?hb ?hB ?_)
  case h63=>unfold maxLen;omega
  case hb=>omega
  case hB=>exact HAL.out.size
  intro v' w2 hown' hgrow;have hb2:Below w.heap.size w w2:=HAL.out.grown hgrow HAL.out.size fun x hx=>(HO.out.lt x hx).1
  have hown2:w2.ownsRow w.heap.size 59 4 v' n xs:=by simpa using hown'
  have HR:=hid (RowAt.of_own hown2);have HB2:=hid hb2;clear hown' hown2 hgrow hb2;go_wp2_with fail;go_ret;exact⟨v',rfl,HR.out,HB2.out⟩
structure OwnR (B:Nat) (w:World) (s:St) (zs:List (Ino×Value)) (vI vO vM:Value):Prop where
 inos:zs.map Prod.fst=s.inos
 rowI:RowAt B w 59 4 vI zs.length (zs.flatMap inoV)
 ents:∀z∈zs,RowAt B w 73 2 z.2 z.1.ents.length (z.1.ents.flatMap enV)
 apart:Apart zs
 rowO:RowAt B w 75 3 vO s.opn.length (s.opn.flatMap dsV)
 rowM:RowAt B w 3 1 vM s.made.length (s.made.map intV)
 sized:Sized s
theorem RowAt.lower {B B':Nat} {w:World} {e:TypeId} {k:Nat} {v:Value} {n:Nat} {xs:List Value} (h:RowAt B w e k v n xs) (hb:B'≤B):RowAt B' w e k v n xs:=by
 refine⟨h.1,?_⟩
 rcases h.2 with h0|⟨g,cap,cur,rfl,hc,hB,rest⟩
 ·exact .inl h0
 ·exact .inr ⟨g,cap,cur,rfl,hc,Nat.le_trans hb hB,rest⟩
theorem RowAt.fresh {B:Nat} {w w':World} {e:TypeId} {k:Nat} {v:Value} {n:Nat} {xs:List Value} (h:RowAt B w e k v n xs) (hb:Below w.heap.size w w'):RowAt B w' e k v n xs:=h.kept (r:=none) (zdy hb) (fun b _=>by simp)
theorem OwnR.below {B:Nat} {w w':World} {s:St} {zs:List (Ino×Value)} {vI vO vM:Value} (h:OwnR B w s zs vI vO vM) (hb:Below w.heap.size w w'):OwnR B w' s zs vI vO vM:=
 ⟨h.inos,h.rowI.fresh hb,fun z hz=>(h.ents z hz).fresh hb,h.apart,h.rowO.fresh hb,h.rowM.fresh hb,h.sized⟩
theorem OwnR.lower {B B':Nat} {w:World} {s:St} {zs:List (Ino×Value)} {vI vO vM:Value} (h:OwnR B w s zs vI vO vM) (hb:B'≤B):OwnR B' w s zs vI vO vM:=
 ⟨h.inos,h.rowI.lower hb,fun z hz=>(h.ents z hz).lower hb,h.apart,h.rowO.lower hb,h.rowM.lower hb,h.sized⟩
theorem OwnR.set {B:Nat} {w:World} {s:St} {zs:List (Ino×Value)} {vI vO vM:Value} (h:OwnR B w s zs vI vO vM) {b j:Nat} {u:Value} {cur:Array Value} {t:TypeId} {f:Nat×Nat} (hb:w.heap[b]? =some (.cells cur t f)) (h1:t≠59) (h2:t≠73) (h3:t≠75) (h4:t≠3):OwnR B (w.setCell ⟨b,j,none⟩ u) s zs vI vO vM:=by
 have key:∀(e:TypeId) (k:Nat) (v:Value) (n:Nat) (xs:List Value),t≠e→RowAt B w e k v n xs→RowAt B (w.setCell ⟨b,j,none⟩ u) e k v n xs:=fun e k v n xs hne hx=>hx.kept z0p (fun a ha e2=>by
  obtain⟨_,_,c1,hc⟩:=hx.blk a ha;exact z0k hb hc hne (by injection e2))
 exact⟨h.inos,key _ _ _ _ _ h1 h.rowI,fun z hz=>key _ _ _ _ _ h2 (h.ents z hz),h.apart,key _ _ _ _ _ h3 h.rowO,key _ _ _ _ _ h4 h.rowM,h.sized⟩
theorem RowAt.mine {B:Nat} {w:World} {e:TypeId} {k:Nat} {v:Value} {n:Nat} {xs:List Value} (h:RowAt B w e k v n xs) (hn:0<n):∃g c,v=.slice (some ⟨g,0,none⟩) n c∧g<w.heap.size∧Mine (some B) e w g∧∀j u,xs[j]? =some u→w.cell? ⟨g,j,none⟩=some u:=by
 obtain⟨g,c,cur,h1,_,h3,h4,h5,_,h7⟩:=h.open_ hn;exact⟨g,c,h1,h4,fun C hC=>by cases hC;exact⟨h3,cur,h5⟩,h7⟩
theorem RowAt.entsB {B:Nat} {w:World} {v:Value} {n:Nat} {es:List En} (h:RowAt B w 73 2 v n (es.flatMap enV)):∃A c,v=.slice A n c∧SlOk A n c∧EntsAt (some B) w A n es:=by
 obtain⟨A,c,hv,hok⟩:=h.slice
 have hl:es.length=n:=by
  have h1:=h.1;rw[z1c enV 2 (fun x=>rfl)] at h1;omega
 refine⟨A,c,hv,hok,hl,fun h0=>?_⟩;obtain⟨g,c',hv',hlt,hm,hc⟩:=h.mine h0;rw[hv] at hv';injection hv' with e1 _ _
 refine⟨g,0,e1,hlt,hm,fun j e he=>?_⟩;have f:=z1b enV 2 (fun x=>rfl) es j e he;rw[Nat.zero_add];exact⟨hc _ _ (f 0 (by omega)),hc _ _ (f 1 (by omega))⟩
theorem RowAt.descsB {B:Nat} {w:World} {v:Value} {n:Nat} {ds:List Ds} (h:RowAt B w 75 3 v n (ds.flatMap dsV)):∃A c,v=.slice A n c∧SlOk A n c∧DescsAt (some B) w A n ds:=by
 obtain⟨A,c,hv,hok⟩:=h.slice
 have hl:ds.length=n:=by
  have h1:=h.1;rw[z1c dsV 3 (fun x=>rfl)] at h1;omega
 refine⟨A,c,hv,hok,hl,fun h0=>?_⟩;obtain⟨g,c',hv',hlt,hm,hc⟩:=h.mine h0;rw[hv] at hv';injection hv' with e1 _ _
 refine⟨g,0,e1,hlt,hm,fun j e he=>?_⟩;have f:=z1b dsV 3 (fun x=>rfl) ds j e he;rw[Nat.zero_add];exact⟨hc _ _ (f 0 (by omega)),hc _ _ (f 1 (by omega)),hc _ _ (f 2 (by omega))⟩
theorem RowAt.intsB {B:Nat} {w:World} {v:Value} {n:Nat} {xs:List Int} (h:RowAt B w 3 1 v n (xs.map intV)):∃A c,v=.slice A n c∧SlOk A n c∧IntsAt (some B) w A n xs:=by
 obtain⟨A,c,hv,hok⟩:=h.slice;have hl:xs.length=n:=by have h1:=h.1;simpa using h1
 refine⟨A,c,hv,hok,hl,fun h0=>?_⟩;obtain⟨g,c',hv',hlt,hm,hc⟩:=h.mine h0;rw[hv] at hv';injection hv' with e1 _ _
 refine⟨g,0,e1,hlt,hm,fun j e he=>?_⟩;rw[Nat.zero_add];exact hc _ _ (by rw[List.getElem?_map,he];rfl)
theorem OwnR.st {B:Nat} {w:World} {s:St} {zs:List (Ino×Value)} {vI vO vM:Value} (h:OwnR B w s zs vI vO vM):StAt (some B) w (.agg #[vI,vO,vM]) s:=by
 have hl:s.inos.length=zs.length:=by rw[←h.inos,List.length_map]
 obtain⟨A,c,hv,hok⟩:=h.rowI.slice;obtain⟨E,d,hE,hEo,hED⟩:=h.rowO.descsB;obtain⟨M,k,hM,hMo,hMI⟩:=h.rowM.intsB;refine⟨⟨A,_,c,E,_,d,M,_,k,by rw[hv,hE,hM],⟨hl,fun h0=>?_⟩,hED,hMI,hok,hEo,hMo⟩,h.sized⟩;obtain⟨g,c',hv',hlt,hm,hc⟩:=h.rowI.mine h0;rw[hv] at hv';injection hv' with e1 _ _
 refine⟨g,0,e1,hlt,hm,fun j x hx=>?_⟩;rw[←h.inos,List.getElem?_map] at hx;obtain⟨z,hz,rfl⟩:=Option.map_eq_some_iff.1 hx;have f:=z1b inoV 4 (fun x=>rfl) zs j z hz;obtain⟨E',m,he,hmd,hE'⟩:=(h.ents z (List.mem_of_getElem? hz)).entsB;rw[Nat.zero_add];refine⟨hc _ _ (f 0 (by omega)),hc _ _ (f 1 (by omega)),⟨E',z.1.ents.length,m,?_,hmd,hE'⟩,hc _ _ (f 3 (by omega))⟩;rw[←he];exact hc _ _ (f 2 (by omega))
theorem Own2.ownR {B p:Nat} {w:World} {s:St} {zs:List (Ino×Value)} {vI vO vM:Value} (h:Own2 B w p s zs vI vO vM):OwnR B w s zs vI vO vM:=⟨h.inos,h.rowI,h.ents,h.apart,h.rowO,h.rowM,h.sized⟩
theorem OwnR.own2 {B p:Nat} {w:World} {s:St} {zs:List (Ino×Value)} {vI vO vM:Value} (h:OwnR B w s zs vI vO vM) (hp:B≤p) (hc:w.heap[p]? =some (.cells #[vI,vO,vM] 26 (0,0))):Own2 B w p s zs vI vO vM:=⟨hp,hc,h.inos,h.rowI,h.ents,h.apart,h.rowO,h.rowM,h.sized⟩
theorem InosAt.pairs {w:World} {A:Option Addr} {n:Nat} {is:List Ino} (h:InosAt none w A n is):
  ∃zs:List (Ino×Value),zs.map Prod.fst=is∧zs.length=n∧(∀z∈zs,∃A m c,z.2=.slice A m c∧SlOk A m c∧EntsAt none w A m z.1.ents)∧∀ad,A=some ad→∀j u,(zs.flatMap inoV)[j]? =some u→w.cell? (ad.add j)=some u:=by
 rcases Nat.eq_zero_or_pos n with h0|h0
 ·subst h0;have:is=[]:=List.length_eq_zero_iff.1 h.1;subst this;exact⟨[],rfl,rfl,by simp,fun ad _ j u hj=>by simp at hj⟩
 ·obtain⟨g,off,hA,_⟩:=h.2 h0;subst hA;obtain⟨zs,h1,h2,h3⟩:=h.zs h0;refine⟨zs,h1,by have:=congrArg List.length h1;rw[List.length_map] at this;have:=h.1;omega,h2,fun ad e=>?_⟩;cases e;exact h3
structure Cl (w0 w:World) (s:St) (q:Nat) (zs:List (Ino×Value)) (vI:Value):Prop where
 inos:zs.map Prod.fst=s.inos
 rowI:RowAt w0.heap.size w 59 4 vI zs.length (zs.flatMap inoV)
 done:∀(j:Nat) (z:Ino×Value),zs[j]? =some z→j<q→RowAt w0.heap.size w 73 2 z.2 z.1.ents.length (z.1.ents.flatMap enV)
 left_:∀(j:Nat) (z:Ino×Value),zs[j]? =some z→q≤j→∃A m c,z.2=.slice A m c∧SlOk A m c∧EntsAt none w0 A m z.1.ents
 apart:∀(i j:Nat) (a b:Ino×Value),i≠j→i<q→j<q→zs[i]? =some a→zs[j]? =some b→∀g,rowBlk a.2=some g→rowBlk b.2≠some g
theorem Cl.kept {w0 w w':World} {s:St} {q:Nat} {zs:List (Ino×Value)} {vI:Value} (h:Cl w0 w s q zs vI) (hb:Below w.heap.size w w'):Cl w0 w' s q zs vI:=
 ⟨h.inos,h.rowI.fresh hb,fun j z hz hj=>(h.done j z hz hj).fresh hb,h.left_,h.apart⟩
theorem Cl.set {w0 w:World} {s:St} {q:Nat} {zs:List (Ino×Value)} {vI:Value} (h:Cl w0 w s q zs vI) {b j:Nat} {u:Value} {cur:Array Value} (hb:w.heap[b]? =some (.cells cur 26 (0,0))):Cl w0 (w.setCell ⟨b,j,none⟩ u) s q zs vI:=by
 have key:∀(e:TypeId) (k:Nat) (v:Value) (n:Nat) (xs:List Value),26≠e→RowAt w0.heap.size w e k v n xs→RowAt w0.heap.size (w.setCell ⟨b,j,none⟩ u) e k v n xs:=fun e k v n xs hne hx=>hx.kept z0p (fun a ha e2=>by
  obtain⟨_,_,c1,hc⟩:=hx.blk a ha;exact z0k hb hc hne (by injection e2))
 exact⟨h.inos,key _ _ _ _ _ (by decide) h.rowI,fun i z hz hi=>key _ _ _ _ _ (by decide) (h.done i z hz hi),h.left_,h.apart⟩
theorem Cl.step {w0 w w':World} {s:St} {q:Nat} {zs:List (Ino×Value)} {g n c:Nat} (h:Cl w0 w s q zs (.slice (some ⟨g,0,none⟩) n c)) (hn:n=zs.length) {z:Ino×Value} (hz:zs[q]? =some z) {v':Value} (hb:Below w.heap.size w w') (hw:w0.heap.size≤w.heap.size) (hr:RowAt w.heap.size w' 73 2 v' z.1.ents.length (z.1.ents.flatMap enV)):
  Cl w0 (w'.setCell ⟨g,q*4+2,none⟩ v') s (q+1) (zs.set q (z.1,v')) (.slice (some ⟨g,0,none⟩) n c):=by
 have hql:=(List.getElem?_eq_some_iff.1 hz).1;have h1:=h.kept hb;obtain⟨g',c',cur,hv,hbk,hB,hlt,hgc,hsz,_⟩:=h1.rowI.open_ (by omega);have hgg:g'=g:=by injection hv with e1 _ _;injection e1 with e1;injection e1 with e1;exact e1.symm
 subst hgg
 have key:∀(v:Value) (m:Nat) (xs:List Value) (B:Nat),RowAt B w' 73 2 v m xs→RowAt B (w'.setCell ⟨g',q*4+2,none⟩ v') 73 2 v m xs:=fun v m xs B hx=>hx.kept z0p (fun b hb e=>by
  obtain⟨_,_,c1,h1⟩:=hx.blk b hb;exact z0k hgc h1 (by decide) (by injection e))
 have hset:∀(j:Nat) (y:Ino×Value),(zs.set q (z.1,v'))[j]? =some y→(j=q∧y=(z.1,v'))∨(j≠q∧zs[j]? =some y):=fun j y hy=>by
  rw[List.getElem?_set] at hy
  by_cases e:q=j
  ·subst e;rw[if_pos rfl,if_pos hql] at hy;exact .inl ⟨rfl,(Option.some.inj hy).symm⟩
  ·rw[if_neg e] at hy;exact .inr ⟨fun e2=>e e2.symm,hy⟩
 have hnew:∀b,rowBlk v'=some b→w.heap.size≤b:=fun b hb=>(hr.blk b hb).1
 refine⟨?_,?_,?_,?_,?_⟩
 ·rw[ze0,←h.inos];refine List.ext_getElem? (fun j=>?_);rw[List.getElem?_set,List.getElem?_map]
  by_cases e:q=j
  ·subst e;rw[if_pos rfl,if_pos (by simpa using hql),hz]
   rfl
  ·rw[if_neg e]
 ·rw[List.length_set,←hn];have h2:=h1.rowI;rw[←hn] at h2;have h3:=h2.set (q*4+2) v' (by omega);have h4:=z9b zs q z z.1.ents v' hz
  rwa [h4] at h3
 ·intro j y hy hj
  rcases hset j y hy with⟨rfl,rfl⟩|⟨hne,hy2⟩
  ·exact(key _ _ _ _ hr).lower hw
  ·exact key _ _ _ _ (h1.done j y hy2 (by omega))
 ·intro j y hy hj
  rcases hset j y hy with⟨rfl,rfl⟩|⟨hne,hy2⟩
  ·omega
  ·exact h.left_ j y hy2 (by omega)
 ·intro i j a b hij hi hj ha hb2 gg hga hgb
  rcases hset i a ha with⟨rfl,rfl⟩|⟨hne,ha2⟩
  ·rcases hset j b hb2 with⟨rfl,rfl⟩|⟨hne2,hb3⟩
   ·exact hij rfl
   ·have h5:=hnew gg hga;have h6:=((h.done j b hb3 (by omega)).blk gg hgb).2.1;omega
  ·rcases hset j b hb2 with⟨rfl,rfl⟩|⟨hne2,hb3⟩
   ·have h5:=hnew gg hgb;have h6:=((h.done i a ha2 (by omega)).blk gg hga).2.1;omega
   ·exact h.apart i j a b hij (by omega) (by omega) ha2 hb3 gg hga hgb
theorem Cl.all {w0 w:World} {s:St} {q:Nat} {zs:List (Ino×Value)} {vI vO vM:Value} (h:Cl w0 w s q zs vI) (hq:zs.length≤q) (hO:RowAt w0.heap.size w 75 3 vO s.opn.length (s.opn.flatMap dsV)) (hM:RowAt w0.heap.size w 3 1 vM s.made.length (s.made.map intV)) (hs:Sized s):OwnR w0.heap.size w s zs vI vO vM:=by
 refine⟨h.inos,h.rowI,fun z hz=>?_,fun i j a b hij ha hb=>?_,hO,hM,hs⟩
 ·obtain⟨j,hj⟩:=List.getElem?_of_mem hz;exact h.done j z hj (by have:=(List.getElem?_eq_some_iff.1 hj).1;omega)
 ·exact h.apart i j a b hij (by have:=(List.getElem?_eq_some_iff.1 ha).1;omega) (by have:=(List.getElem?_eq_some_iff.1 hb).1;omega) ha hb
theorem zgv {w:World} {A:Option Addr} {n c:Nat} {es:List En} (h:EntsAt none w A n es) (hok:SlOk A n c):(es.flatMap enV).length=n*2∧∀ad,A=some ad→∀j u,(es.flatMap enV)[j]? =some u→w.cell? (ad.add j)=some u:=
 ⟨(h.flat hok).1,(h.flat hok).2.1⟩
theorem ze9 {w:World} {A:Option Addr} {n c:Nat} {ds:List Ds} (h:DescsAt none w A n ds) (hok:SlOk A n c):(ds.flatMap dsV).length=n*3∧∀ad,A=some ad→∀j u,(ds.flatMap dsV)[j]? =some u→w.cell? (ad.add j)=some u:=by
 rcases Nat.eq_zero_or_pos n with h0|h0
 ·subst h0;have:ds=[]:=List.length_eq_zero_iff.1 h.1;subst this;exact⟨rfl,fun ad _ j u hj=>by simp at hj⟩
 ·obtain⟨g,off,hA,hg,_,hc⟩:=h.2 h0;refine⟨by rw[z1c dsV 3 (fun _=>rfl),h.1],fun ad e=>?_⟩;rw[hA] at e;cases e;refine z4u dsV 3 (fun _=>rfl) (by decide) ds (fun j z hz i hi=>?_);obtain⟨h1,h2,h3⟩:=hc j z hz
  rcases i with _|_|_|i
  ·exact h1
  ·exact h2
  ·exact h3
  ·omega
theorem zgw {w:World} {A:Option Addr} {n:Nat} {xs:List Int} (h:IntsAt none w A n xs):(xs.map intV).length=n*1∧∀ad,A=some ad→∀j u,(xs.map intV)[j]? =some u→w.cell? (ad.add j)=some u:=by
 refine⟨by rw[List.length_map,h.1,Nat.mul_one],fun ad e j u hj=>?_⟩;rw[List.getElem?_map] at hj;obtain⟨x,hx,rfl⟩:=Option.map_eq_some_iff.1 hj;obtain⟨g,off,hA,hg,_,hc⟩:=h.2 (by have:=(List.getElem?_eq_some_iff.1 hx).1;have:=h.1;omega);rw[hA] at e;cases e;rw[Addr.add_lit];exact hc j x hx
theorem zir (xs:List Int):∀u∈xs.map intV,u.oneCell'=true:=by
 intro u hu;obtain⟨e,_,rfl⟩:=List.mem_map.1 hu
 rfl
end Go.Proofs.YtmmpkfcdfcldlaaGreat
