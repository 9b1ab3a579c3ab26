/- Parts of the proof, side by side: DoRound, HistNext, HistKey, HistAhead. -/
import Derived.Test.YtkflaifopbodfaaGreatDoorM33
import Derived.Test.YtkflaifopbodfaaGreatDoorM09
import Derived.Test.YtkflaifopbodfaaGreatDoorM37
import Derived.Test.YtkflaifopbodfaaGreatDoorM42
import Derived.Test.YtkflaifopbodfaaGreatDoorM34
import Derived.Test.YtkflaifopbodfaaGreatDoorM40
import Derived.Test.YtkflaifopbodfaaGreatDoorM01
set_option linter.unusedVariables false
set_option linter.unusedSimpArgs false
namespace Go.Proofs.YtkflaifopbodfaaGreatDoor
open Lib (hid)
open Go.RowKit
theorem StAt.set {B:Nat} {w:World} {v:Value} {s:St} (h:StAt (some B) w v s) {g:Nat} {t:TypeId} (hg:∃cur,w.heap[g]? =some (.cells cur t (0,0))) (h1:t≠53) (h2:t≠120) (h3:t≠89) (h4:t≠3) (k:Nat) (u:Value):
  StAt (some B) (w.setCell ⟨g,k,none⟩ u) v s:=by
 obtain⟨cur,hc⟩:=hg;exact h.keep3 (KeepT.set hc h1) (KeepT.set hc h2) (KeepT.set hc h3) (KeepT.set hc h4)
theorem z0z {w:World} {g g' k:Nat} {u:Value} {t:TypeId} (h:∃cur,w.heap[g]? =some (.cells cur t (0,0))):∃cur,(w.setCell ⟨g',k,none⟩ u).heap[g]? =some (.cells cur t (0,0)):=by
 obtain⟨cur,hc⟩:=h
 by_cases e:g=g'
 ·subst e;exact⟨_,heap_setCell_same w g k _ _ u hc⟩
 ·exact⟨cur,(Below.heap_setCell w ⟨g',k,none⟩ u g e).trans hc⟩
theorem StAt.alloc {lo:Option Nat} {w:World} {v:Value} {s:St} (h:StAt lo w v s) (o:Obj):StAt lo (w.alloc o) v s:=h.below ((Below.refl _ _).alloc (Nat.le_refl _) _)
theorem StAt.set3 {B:Nat} {w:World} {v:Value} {s:St} (h:StAt (some B) w v s) {g:Nat} {cur:Array Value} (hg:w.heap[g]? =some (.cells cur 27 (0,0))) (x y z:Value):
  StAt (some B) (((w.setCell ⟨g,0,none⟩ x).setCell ⟨g,1,none⟩ y).setCell ⟨g,2,none⟩ z) v s:=
 (((h.set ⟨_,hg⟩ (by decide) (by decide) (by decide) (by decide) 0 x).set (z0z ⟨_,hg⟩) (by decide) (by decide) (by decide) (by decide) 1 y).set (z0z (z0z ⟨_,hg⟩)) (by decide) (by decide) (by decide) (by decide) 2 z)
theorem StAt.set6 {B:Nat} {w:World} {v:Value} {s:St} (h:StAt (some B) w v s) {g:Nat} {cur:Array Value} (hg:w.heap[g]? =some (.cells cur 35 (0,0))) (x y z p q r:Value):
  StAt (some B) ((((((w.setCell ⟨g,0,none⟩ x).setCell ⟨g,1,none⟩ y).setCell ⟨g,2,none⟩ z).setCell ⟨g,3,none⟩ p).setCell ⟨g,4,none⟩ q).setCell ⟨g,5,none⟩ r) v s:=
 ((((((h.set ⟨_, hg⟩ (by decide) (by decide) (by decide) (by decide) 0 x).set (z0z ⟨_, hg⟩) (by decide) (by decide) (by decide) (by decide) 1 y).set (z0z (z0z ⟨_, hg⟩)) (by decide) (by decide) (by decide) (by decide) 2 z).set (z0z (z0z (z0z ⟨_, hg⟩))) (by decide) (by decide) (by decide) (by decide) 3 p).set
  (z0z (z0z (z0z (z0z ⟨_,hg⟩)))) (by decide) (by decide) (by decide) (by decide) 4 q).set (z0z (z0z (z0z (z0z (z0z ⟨_,hg⟩))))) (by decide) (by decide) (by decide) (by decide) 5 r)
theorem z2i {B:Nat} {u w:World} (h:Below B u w) {g:Nat} (hg:B≤g) (x y z:Value):Below B u (((w.setCell ⟨g,0,none⟩ x).setCell ⟨g,1,none⟩ y).setCell ⟨g,2,none⟩ z):=
 ((h.setCell (p:=⟨g,0,none⟩) hg x).setCell (p:=⟨g,1,none⟩) hg y).setCell (p:=⟨g,2,none⟩) hg z
theorem z8g {B:Nat} {u w:World} (h:Below B u w) {g:Nat} (hg:B≤g) (x y z p q r:Value):Below B u ((((((w.setCell ⟨g,0,none⟩ x).setCell ⟨g,1,none⟩ y).setCell ⟨g,2,none⟩ z).setCell ⟨g,3,none⟩ p).setCell ⟨g,4,none⟩ q).setCell ⟨g,5,none⟩ r):=
 (((((h.setCell (p:=⟨g,0,none⟩) hg x).setCell (p:=⟨g,1,none⟩) hg y).setCell (p:=⟨g,2,none⟩) hg z).setCell (p:=⟨g,3,none⟩) hg p).setCell (p:=⟨g,4,none⟩) hg q).setCell (p:=⟨g,5,none⟩) hg r
theorem zhn {w:World} {b g:Nat} {o:Option Obj} (h:w.heap[b]? =o) (hne:b≠g) (x y z:Value):(((w.setCell ⟨g,0,none⟩ x).setCell ⟨g,1,none⟩ y).setCell ⟨g,2,none⟩ z).heap[b]? =o:=z3n (z3n (z3n h hne) hne) hne
theorem zho {w:World} {b g:Nat} {o:Option Obj} (h:w.heap[b]? =o) (hne:b≠g) (x y z p q r:Value):((((((w.setCell ⟨g,0,none⟩ x).setCell ⟨g,1,none⟩ y).setCell ⟨g,2,none⟩ z).setCell ⟨g,3,none⟩ p).setCell ⟨g,4,none⟩ q).setCell ⟨g,5,none⟩ r).heap[b]? =o:=
 z3n (z3n (z3n (z3n (z3n (z3n h hne) hne) hne) hne) hne) hne
theorem zoe (w:World) (o:Obj):w.heap.size<(w.alloc o).heap.size:=by simp
theorem zpl (w:World) (o:Obj):w.heap.size+1=(w.alloc o).heap.size:=by simp
theorem zla (w:World) (g:Nat) (x y z:Value):w.heap.size=(((w.setCell ⟨g,0,none⟩ x).setCell ⟨g,1,none⟩ y).setCell ⟨g,2,none⟩ z).heap.size:=by simp[World.setCell]
theorem zlb (w:World) (g:Nat) (x y z p q r:Value):w.heap.size=((((((w.setCell ⟨g,0,none⟩ x).setCell ⟨g,1,none⟩ y).setCell ⟨g,2,none⟩ z).setCell ⟨g,3,none⟩ p).setCell ⟨g,4,none⟩ q).setCell ⟨g,5,none⟩ r).heap.size:=by simp[World.setCell]
theorem zp5 (n:Nat):n≠n+1:=by omega
theorem zlc (n:Nat):n+1≠n:=by omega
theorem zn4 (n:Nat):n≤n+1:=by omega
theorem zp6 {wr w5:World} {a b c x y z p q r v:Value} {s:St} {B:Nat} (h:StAt (some B) w5 v s) (hb:Below wr.heap.size wr w5):
  OutAt ((w5.alloc (.cells #[a,b,c] 27)).alloc (.cells #[x,y,z,p,q,r] 35)) w5.heap.size a b c∧StAt (some B) ((w5.alloc (.cells #[a,b,c] 27)).alloc (.cells #[x,y,z,p,q,r] 35)) v s∧Below wr.heap.size wr ((w5.alloc (.cells #[a,b,c] 27)).alloc (.cells #[x,y,z,p,q,r] 35))∧wr.heap.size≤w5.heap.size:=by
 have hle:=hb.size;exact⟨zcd (zce w5 _ _ rfl) (zoe _ _),((h.alloc _).alloc _),(hb.alloc hle _).alloc (Nat.le_trans hle (Nat.le_of_lt (zoe _ _))) _,hle⟩
theorem zp7 {wr w5:World} {a b c x y z p q r v:Value} {s:St} {B:Nat} (h:StAt (some B) w5 v s) (hb:Below wr.heap.size wr w5):
  OutAt ((w5.alloc (.cells #[x,y,z,p,q,r] 35)).alloc (.cells #[a,b,c] 27)) (w5.heap.size+1) a b c∧StAt (some B) ((w5.alloc (.cells #[x,y,z,p,q,r] 35)).alloc (.cells #[a,b,c] 27)) v s∧Below wr.heap.size wr ((w5.alloc (.cells #[x,y,z,p,q,r] 35)).alloc (.cells #[a,b,c] 27))∧wr.heap.size≤(w5.heap.size+1):=by
 have hle:=hb.size;exact⟨zce (w5.alloc _) _ _ (zpl _ _),((h.alloc _).alloc _),(hb.alloc hle _).alloc (Nat.le_trans hle (Nat.le_of_lt (zoe _ _))) _,Nat.le_trans hle (zn4 _)⟩
theorem zp8 {wr w5:World} {a b c x y z p q r v:Value} {s:St} {B:Nat} (h:StAt (some B) w5 v s) (hb:Below wr.heap.size wr w5) (h0:w5.heap[wr.heap.size]? =some (.cells #[.slice none 0 0,.slice none 0 0,.slice none 0 0] 27)):
  OutAt ((((w5.setCell ⟨wr.heap.size,0,none⟩ a).setCell ⟨wr.heap.size,1,none⟩ b).setCell ⟨wr.heap.size,2,none⟩ c).alloc (.cells #[x,y,z,p,q,r] 35)) wr.heap.size a b c∧StAt (some B) ((((w5.setCell ⟨wr.heap.size,0,none⟩ a).setCell ⟨wr.heap.size,1,none⟩ b).setCell ⟨wr.heap.size,2,none⟩ c).alloc (.cells #[x,y,z,p,q,r] 35)) v s∧Below wr.heap.size wr ((((w5.setCell ⟨wr.heap.size,0,none⟩ a).setCell ⟨wr.heap.size,1,none⟩ b).setCell ⟨wr.heap.size,2,none⟩ c).alloc (.cells #[x,y,z,p,q,r] 35))∧wr.heap.size≤wr.heap.size:=by
 have hle:=hb.size;have l0:=(Array.getElem?_eq_some_iff.1 h0).1;exact⟨zcd (z3c h0 _ _ _) (Nat.lt_of_lt_of_eq l0 (zla _ _ _ _ _)),((h.set3 h0 _ _ _).alloc _),(z2i hb (Nat.le_refl _) _ _ _).alloc (Nat.le_trans hle (Nat.le_of_eq (zla _ _ _ _ _))) _,Nat.le_refl _⟩
theorem zp9 {wr w5:World} {a b c x y z p q r v:Value} {s:St} {B:Nat} (h:StAt (some B) w5 v s) (hb:Below wr.heap.size wr w5) (h0:w5.heap[wr.heap.size]? =some (.cells #[.slice none 0 0,.slice none 0 0,.slice none 0 0] 27)) (h1:w5.heap[wr.heap.size+1]? =some (.cells #[.int .i64 0,.int .i64 0,.int .i64 0,.bool false,.string ⟨#[]⟩,.slice none 0 0] 35)):
  OutAt (((((((((w5.setCell ⟨wr.heap.size,0,none⟩ a).setCell ⟨wr.heap.size,1,none⟩ b).setCell ⟨wr.heap.size,2,none⟩ c).setCell ⟨(wr.heap.size+1),0,none⟩ x).setCell ⟨(wr.heap.size+1),1,none⟩ y).setCell ⟨(wr.heap.size+1),2,none⟩ z).setCell ⟨(wr.heap.size+1),3,none⟩ p).setCell ⟨(wr.heap.size+1),4,none⟩ q).setCell ⟨(wr.heap.size+1),5,none⟩ r) wr.heap.size a b c∧StAt (some B) (((((((((w5.setCell ⟨wr.heap.size,0,none⟩ a).setCell ⟨wr.heap.size,1,none⟩ b).setCell ⟨wr.heap.size,2,none⟩ c).setCell ⟨(wr.heap.size+1),0,none⟩ x).setCell ⟨(wr.heap.size+1),1,none⟩ y).setCell ⟨(wr.heap.size+1),2,none⟩ z).setCell ⟨(wr.heap.size+1),3,none⟩ p).setCell ⟨(wr.heap.size+1),4,none⟩ q).setCell ⟨(wr.heap.size+1),5,none⟩ r) v s∧Below wr.heap.size wr (((((((((w5.setCell ⟨wr.heap.size,0,none⟩ a).setCell ⟨wr.heap.size,1,none⟩ b).setCell ⟨wr.heap.size,2,none⟩ c).setCell ⟨(wr.heap.size+1),0,none⟩ x).setCell ⟨(wr.heap.size+1),1,none⟩ y).setCell ⟨(wr.heap.size+1),2,none⟩ z).setCell ⟨(wr.heap.size+1),3,none⟩ p).setCell ⟨(wr.heap.size+1),4,none⟩ q).setCell ⟨(wr.heap.size+1),5,none⟩ r)∧wr.heap.size≤wr.heap.size:=by
 have hle:=hb.size;have l0:=(Array.getElem?_eq_some_iff.1 h0).1;exact⟨zho (z3c h0 _ _ _) (zp5 _) _ _ _ _ _ _,((h.set3 h0 _ _ _).set6 (zhn h1 (zlc _) _ _ _) _ _ _ _ _ _),z8g (z2i hb (Nat.le_refl _) _ _ _) (zn4 _) _ _ _ _ _ _,Nat.le_refl _⟩
theorem zpa {wr w5:World} {a b c x y z p q r v:Value} {s:St} {B:Nat} (h:StAt (some B) w5 v s) (hb:Below wr.heap.size wr w5) (h0:w5.heap[wr.heap.size]? =some (.cells #[.int .i64 0,.int .i64 0,.int .i64 0,.bool false,.string ⟨#[]⟩,.slice none 0 0] 35)):
  OutAt (((((((w5.setCell ⟨wr.heap.size,0,none⟩ x).setCell ⟨wr.heap.size,1,none⟩ y).setCell ⟨wr.heap.size,2,none⟩ z).setCell ⟨wr.heap.size,3,none⟩ p).setCell ⟨wr.heap.size,4,none⟩ q).setCell ⟨wr.heap.size,5,none⟩ r).alloc (.cells #[a,b,c] 27)) w5.heap.size a b c∧StAt (some B) (((((((w5.setCell ⟨wr.heap.size,0,none⟩ x).setCell ⟨wr.heap.size,1,none⟩ y).setCell ⟨wr.heap.size,2,none⟩ z).setCell ⟨wr.heap.size,3,none⟩ p).setCell ⟨wr.heap.size,4,none⟩ q).setCell ⟨wr.heap.size,5,none⟩ r).alloc (.cells #[a,b,c] 27)) v s∧Below wr.heap.size wr (((((((w5.setCell ⟨wr.heap.size,0,none⟩ x).setCell ⟨wr.heap.size,1,none⟩ y).setCell ⟨wr.heap.size,2,none⟩ z).setCell ⟨wr.heap.size,3,none⟩ p).setCell ⟨wr.heap.size,4,none⟩ q).setCell ⟨wr.heap.size,5,none⟩ r).alloc (.cells #[a,b,c] 27))∧wr.heap.size≤w5.heap.size:=by
 have hle:=hb.size;have l0:=(Array.getElem?_eq_some_iff.1 h0).1;exact⟨zce _ _ _ (zlb _ _ _ _ _ _ _ _),((h.set6 h0 _ _ _ _ _ _).alloc _),(z8g hb (Nat.le_refl _) _ _ _ _ _ _).alloc (Nat.le_trans hle (Nat.le_of_eq (zlb _ _ _ _ _ _ _ _))) _,hle⟩
theorem zpb {wr w5:World} {a b c x y z p q r v:Value} {s:St} {B:Nat} (h:StAt (some B) w5 v s) (hb:Below wr.heap.size wr w5) (h0:w5.heap[wr.heap.size]? =some (.cells #[.int .i64 0,.int .i64 0,.int .i64 0,.bool false,.string ⟨#[]⟩,.slice none 0 0] 35)) (h1:w5.heap[wr.heap.size+1]? =some (.cells #[.slice none 0 0,.slice none 0 0,.slice none 0 0] 27)):
  OutAt (((((((((w5.setCell ⟨(wr.heap.size+1),0,none⟩ a).setCell ⟨(wr.heap.size+1),1,none⟩ b).setCell ⟨(wr.heap.size+1),2,none⟩ c).setCell ⟨wr.heap.size,0,none⟩ x).setCell ⟨wr.heap.size,1,none⟩ y).setCell ⟨wr.heap.size,2,none⟩ z).setCell ⟨wr.heap.size,3,none⟩ p).setCell ⟨wr.heap.size,4,none⟩ q).setCell ⟨wr.heap.size,5,none⟩ r) (wr.heap.size+1) a b c∧StAt (some B) (((((((((w5.setCell ⟨(wr.heap.size+1),0,none⟩ a).setCell ⟨(wr.heap.size+1),1,none⟩ b).setCell ⟨(wr.heap.size+1),2,none⟩ c).setCell ⟨wr.heap.size,0,none⟩ x).setCell ⟨wr.heap.size,1,none⟩ y).setCell ⟨wr.heap.size,2,none⟩ z).setCell ⟨wr.heap.size,3,none⟩ p).setCell ⟨wr.heap.size,4,none⟩ q).setCell ⟨wr.heap.size,5,none⟩ r) v s∧Below wr.heap.size wr (((((((((w5.setCell ⟨(wr.heap.size+1),0,none⟩ a).setCell ⟨(wr.heap.size+1),1,none⟩ b).setCell ⟨(wr.heap.size+1),2,none⟩ c).setCell ⟨wr.heap.size,0,none⟩ x).setCell ⟨wr.heap.size,1,none⟩ y).setCell ⟨wr.heap.size,2,none⟩ z).setCell ⟨wr.heap.size,3,none⟩ p).setCell ⟨wr.heap.size,4,none⟩ q).setCell ⟨wr.heap.size,5,none⟩ r)∧wr.heap.size≤(wr.heap.size+1):=by
 have hle:=hb.size;have l0:=(Array.getElem?_eq_some_iff.1 h0).1;exact⟨zho (z3c h1 _ _ _) (zlc _) _ _ _ _ _ _,((h.set3 h1 _ _ _).set6 (zhn h0 (zp5 _) _ _ _) _ _ _ _ _ _),z8g (z2i hb (zn4 _) _ _ _) (Nat.le_refl _) _ _ _ _ _ _,zn4 _⟩
theorem zpp (w:World) (a b c:Value):∃V,w.alloc (.cells #[a,b,c] 27)=V∧V.heap.size=w.heap.size+1∧OutAt V w.heap.size a b c∧Below w.heap.size w V:=
 ⟨_,rfl,by simp,heap_alloc_new w _,(Below.refl _ _).alloc (Nat.le_refl _) _⟩
theorem z7f (tmps:Array Value) (g:Nat) (a b d:Value) (B:Bool) (w:World) (h6:tmps.getD 4 undef=.pointer (some ⟨g,0,none⟩)) (h7:tmps.getD 5 undef=.bool B) (hO:OutAt w g a b d):
  (results Tryz.f24 tmps).run Tryz.prog w=.ok (.tuple #[.agg #[a,b,d],.bool B]) w:=by
 rw[results_cell_tmp rfl,h6,h7];have hl1:=run_loadVar_row (P:=Tryz.prog) w g _ 27 _ (0,0) _ hO Tryz.underlying27 rfl (by kernel_rfl);simp[asAddr,hl1,Result.andThen]
set_option maxRecDepth 100000 in
set_option maxHeartbeats 8000000 in
theorem zld (v:Value) (s:St) (g i:Nat) (o:Op) (w:World) (hs:StAt none w v s) (ho:OpAt w g i o):
  Calls Tryz.prog 24 #[v,.pointer (some ⟨g,i,none⟩)] w fun e w'=>∃v',e=.returned (.tuple #[v',.bool (nextV s o).2])∧StAt (some w.heap.size) w' v' (nextV s o).1∧Below w.heap.size w w':=by
 obtain⟨A,n,c,E,m,d,D,k,k9,rfl,_⟩:=hs.at_;obtain⟨W1,hW1,hz1,ho1,hb1⟩:=zpp w (.slice A n c) (.slice E m d) (.slice D k k9);obtain⟨W2,hW2,hz2,ho2,hb2⟩:=zpp W1 (.slice none 0 0) (.slice none 0 0) (.slice none 0 0);have hal:Below w.heap.size w W2:=Cv.next hb1 hb2;have hg2':g<w.heap.size:=by obtain⟨_,_,_,_,_,_,h,_⟩:=ho;exact h
 obtain⟨F,f,f9,hok,hnm,hoo,hg2,j0,j1,j2,j3,j4,j5,j6,j7,j8,j9,j10,j11,j12,j13,j14,j15⟩:=(ho.below hal).get;obtain⟨p0,p1,p2,pf⟩:=OutAt.get ((hb2.block _ (Array.getElem?_eq_some_iff.1 ho1).1).trans ho1);obtain⟨r0,r1,r2,rf⟩:=OutAt.get ho2;have hp2:w.heap.size<W2.heap.size:=by omega
 have hr2:W1.heap.size<W2.heap.size:=by omega
 have hpr:W1.heap.size≠w.heap.size:=by omega
 have hpr':=Ne.symm hpr;have hgr:W1.heap.size≠g:=by omega
 have hgr':=Ne.symm hgr;have HS:=hid (hs.below hal);have HB:=hid hal;have HO2:=hid ho2;have HNM:=hid hnm;have HOK:=hid hok;have HOO:=hid hoo;have HZ1:=hid hz1;have HZ2:=hid hz2;have HLE:Hid (w.heap.size≤W1.heap.size):=hid (by omega);clear hs ho hb1 hb2 hal ho1 ho2 hnm hok hoo pf hz1 hz2
 go_enter Tryz.func24,Tryz.ntmps24
 by_cases h6:o.fin=-1
 ·have hnx:nextV s o=((doV s o.call).1,true):=by unfold nextV;rw[if_pos h6]
  rw[hnx];have h6':(o.fin !=-1)=false:=by rw[bne_eq_false_iff_eq];exact h6
  clear h6 hnx
  have hc:∀u:World,Below W2.heap.size W2 u→Calls Tryz.prog 48 #[.agg #[.slice A n c,.slice E m d,.slice D k k9],.agg #[.int .i64 o.call.kind,.int .i64 o.call.core,.int .i64 o.call.fd,.int .i64 o.call.off,.int .i64 o.call.num,.string o.call.path,.string o.call.path2,.string o.call.data]] u fun e w'=>∃A k c E l d D i f r0 r1 r2 r3 r4 r5 r6 r7,e=.returned (.tuple #[.agg #[.slice A k c,.slice E l d,.slice D i f],.agg #[.int .i64 r0,.int .i64 r1,.int .i64 r2,.bool r3,.string r4,.slice r5 r6 r7]])∧StAt (some W2.heap.size) w' (.agg #[.slice A k c,.slice E l d,.slice D i f]) (doV s o.call).1∧Below u.heap.size u w'∧Below W2.heap.size W2 w':=fun u hu=>by
   refine(zo8 _ s o.call u (HS.out.below hu) HOO.out.p1 HOO.out.p2 HOO.out.ds).mono ?_;rintro e w' ⟨v',rv,rfl,hst,⟨F,f,f',rfl,_⟩,hb⟩;obtain⟨A,k,c,E,l,d,D,i,g,rfl,_⟩:=hst.at_;exact⟨A,k,c,E,l,d,D,i,g,_,_,_,_,_,_,_,_,rfl,hst.lower hu.size,hb,hu.trans (hb.mono hu.size)⟩
  have HC:=hid hc;clear hc;go_upto_region 3 with fail
  go_cut [6] (fun p wx=>∃b A k c E l d D i f,p=.pointer (some ⟨b,0,.none⟩)∧OutAt wx b (.slice A k c) (.slice E l d) (.slice D i f)∧StAt (some W2.heap.size) wx (.agg #[.slice A k c,.slice E l d,.slice D i f]) (doV s o.call).1∧Below W2.heap.size W2 wx∧W2.heap.size≤b)
  case first=>
   try rw[hW1]
   try rw[hW2]
   have z1:W2.heap.size≠w.heap.size:=by omega
   have z2:W2.heap.size≠g:=by omega
   have z3:W2.heap.size+1≠w.heap.size:=by omega
   have z4:W2.heap.size+1≠g:=by omega
   go_region_held3 (fun w'=>w'.cell? ⟨w.heap.size,0,none⟩=some (.slice A n c)∧w'.cell? ⟨w.heap.size,1,none⟩=some (.slice E m d)∧w'.cell? ⟨w.heap.size,2,none⟩=some (.slice D k k9)∧w'.cell? ⟨g,i,none⟩=some (.int .i64 o.call.kind)∧w'.cell? ⟨g,i+1,none⟩=some (.int .i64 o.call.core)∧w'.cell? ⟨g,i+2,none⟩=some (.int .i64 o.call.fd)∧w'.cell? ⟨g,i+3,none⟩=some (.int .i64 o.call.off)∧w'.cell? ⟨g,i+4,none⟩=some (.int .i64 o.call.num)∧w'.cell? ⟨g,i+5,none⟩=some (.string o.call.path)∧w'.cell? ⟨g,i+6,none⟩=some (.string o.call.path2)∧w'.cell? ⟨g,i+7,none⟩=some (.string o.call.data))
    (first|go_keep|(trace_state;fail))
    ((go_at_call 48;refine(HC.out _ (by first|exact Cv.drewN_below (Below.refl _ _) 1|exact(Cv.drewN_below (Below.refl _ _) 1).alloc (by simp) _|exact((Cv.drewN_below (Below.refl _ _) 1).alloc (by simp) _).alloc (by simp) _)).mono ?_;rintro e5 w5 ⟨A5,n5,c5,E5,m5,d5,D5,i5,f5,b0,b1,b2,b3,b4,b5,b6,b7,rfl,hst5,hb5,hbw5⟩;have e0:=(hbw5.cell (p:=⟨g,i,none⟩) hg2).trans j0;have e1:=(hbw5.cell (p:=⟨g,i+1,none⟩) hg2).trans j1;have e2:=(hbw5.cell (p:=⟨g,i+2,none⟩) hg2).trans j2;have e3:=(hbw5.cell (p:=⟨g,i+3,none⟩) hg2).trans j3;have e4:=(hbw5.cell (p:=⟨g,i+4,none⟩) hg2).trans j4;have e5:=(hbw5.cell (p:=⟨g,i+5,none⟩) hg2).trans j5;have e6:=(hbw5.cell (p:=⟨g,i+6,none⟩) hg2).trans j6;have e7:=(hbw5.cell (p:=⟨g,i+7,none⟩) hg2).trans j7;have q0:=(hbw5.cell (p:=⟨w.heap.size,0,none⟩) hp2).trans p0;have q1:=(hbw5.cell (p:=⟨w.heap.size,1,none⟩) hp2).trans p1;have q2:=(hbw5.cell (p:=⟨w.heap.size,2,none⟩) hp2).trans p2;(first|(have am:=z3o hb5 (zpn W2 (.cells #[.slice none 0 0,.slice none 0 0,.slice none 0 0] 27) (.cells #[.int .i64 0,.int .i64 0,.int .i64 0,.bool false,.string ⟨#[]⟩,.slice none 0 0] 35));have an:=z3o hb5 (zpo W2 (.cells #[.slice none 0 0,.slice none 0 0,.slice none 0 0] 27) (.cells #[.int .i64 0,.int .i64 0,.int .i64 0,.bool false,.string ⟨#[]⟩,.slice none 0 0] 35));obtain⟨m0,m1,m2,mf⟩:=OutAt.get am;obtain⟨N0,N1,N2,N3,N4,N5,Nf⟩:=ResAt.get an;have lm:=(Array.getElem?_eq_some_iff.1 am).1;have ln:=(Array.getElem?_eq_some_iff.1 an).1;have nm:w5.heap.size≠W2.heap.size:=Nat.ne_of_gt lm;have HAM:=hid am;have hs5:=hbw5.size;have nm':=Ne.symm nm;have y1:w5.heap.size≠w.heap.size:=(by omega);have y2:w5.heap.size≠g:=(by omega);have y3:w5.heap.size≠W1.heap.size:=(by omega);have nn:w5.heap.size≠W2.heap.size+1:=Nat.ne_of_gt ln;have nn':=Ne.symm nn;have HAN:=hid an;clear am an)|(have am:=z3o hb5 (zpn W2 (.cells #[.int .i64 0,.int .i64 0,.int .i64 0,.bool false,.string ⟨#[]⟩,.slice none 0 0] 35) (.cells #[.slice none 0 0,.slice none 0 0,.slice none 0 0] 27));have an:=z3o hb5 (zpo W2 (.cells #[.int .i64 0,.int .i64 0,.int .i64 0,.bool false,.string ⟨#[]⟩,.slice none 0 0] 35) (.cells #[.slice none 0 0,.slice none 0 0,.slice none 0 0] 27));obtain⟨m0,m1,m2,mf⟩:=OutAt.get an;obtain⟨N0,N1,N2,N3,N4,N5,Nf⟩:=ResAt.get am;have lm:=(Array.getElem?_eq_some_iff.1 am).1;have ln:=(Array.getElem?_eq_some_iff.1 an).1;have nm:w5.heap.size≠W2.heap.size:=Nat.ne_of_gt lm;have HAM:=hid am;have hs5:=hbw5.size;have nm':=Ne.symm nm;have y1:w5.heap.size≠w.heap.size:=(by omega);have y2:w5.heap.size≠g:=(by omega);have y3:w5.heap.size≠W1.heap.size:=(by omega);have nn:w5.heap.size≠W2.heap.size+1:=Nat.ne_of_gt ln;have nn':=Ne.symm nn;have HAN:=hid an;clear am an)|(have am:=z3o hb5 (al1 W2 (.cells #[.slice none 0 0,.slice none 0 0,.slice none 0 0] 27));obtain⟨m0,m1,m2,mf⟩:=OutAt.get am;have lm:=(Array.getElem?_eq_some_iff.1 am).1;have nm:w5.heap.size≠W2.heap.size:=Nat.ne_of_gt lm;have HAM:=hid am;have hs5:=hbw5.size;have nm':=Ne.symm nm;have y1:w5.heap.size≠w.heap.size:=(by omega);have y2:w5.heap.size≠g:=(by omega);have y3:w5.heap.size≠W1.heap.size:=(by omega);clear am)|(have am:=z3o hb5 (al1 W2 (.cells #[.int .i64 0,.int .i64 0,.int .i64 0,.bool false,.string ⟨#[]⟩,.slice none 0 0] 35));obtain⟨m0,m1,m2,m3,m4,M5,mf⟩:=ResAt.get am;have lm:=(Array.getElem?_eq_some_iff.1 am).1;have nm:w5.heap.size≠W2.heap.size:=Nat.ne_of_gt lm;have HAM:=hid am;have hs5:=hbw5.size;have nm':=Ne.symm nm;have y1:w5.heap.size≠w.heap.size:=(by omega);have y2:w5.heap.size≠g:=(by omega);have y3:w5.heap.size≠W1.heap.size:=(by omega);clear am)|skip)))
   all_goals (
    go_wp2_with fail;go_meet;clear HB HS HC HO2 HNM HOK HOO
    first
     | with_reducible exact⟨_,A5,n5,c5,E5,m5,d5,D5,i5,f5,rfl,zp6 hst5 hbw5⟩
     | with_reducible exact⟨_,A5,n5,c5,E5,m5,d5,D5,i5,f5,rfl,zp7 hst5 hbw5⟩
     | with_reducible exact⟨_,A5,n5,c5,E5,m5,d5,D5,i5,f5,rfl,zp8 hst5 hbw5 HAM.out⟩
     | with_reducible exact⟨_,A5,n5,c5,E5,m5,d5,D5,i5,f5,rfl,zpa hst5 hbw5 HAM.out⟩
     | with_reducible exact⟨_,A5,n5,c5,E5,m5,d5,D5,i5,f5,rfl,zp9 hst5 hbw5 HAM.out HAN.out⟩
     | with_reducible exact⟨_,A5,n5,c5,E5,m5,d5,D5,i5,f5,rfl,zpb hst5 hbw5 HAM.out HAN.out⟩)
  case rest=>
   obtain⟨b,A5,n5,c5,E5,m5,d5,D5,i5,f5,rfl,ho5,hst5,hb5,hle⟩:=hcut;have hrow:OutAt wc W1.heap.size _ _ _:=(hb5.block W1.heap.size hr2).trans HO2.out;obtain⟨s0,s1,s2,sf⟩:=OutAt.get hrow;obtain⟨y0,y1,y2,_⟩:=OutAt.get ho5;have hne:b≠W1.heap.size:=by omega
   have hne':=Ne.symm hne;have hl:=hb5.size;have HST:=hid ((hst5.lower (B':=w.heap.size) (Nat.le_of_lt hp2)).set3 hrow (.slice A5 n5 c5) (.slice E5 m5 d5) (.slice D5 i5 f5));have HBE:=hid (z2i (HB.out.trans (hb5.mono (Nat.le_of_lt hp2))) HLE.out (.slice A5 n5 c5) (.slice E5 m5 d5) (.slice D5 i5 f5));have HT9:=hid (z3c hrow (.slice A5 n5 c5) (.slice E5 m5 d5) (.slice D5 i5 f5));clear hrow hst5 hb5 ho5;go_wp2_with fail;refine bodyPost_ret (z7f _ W1.heap.size _ _ _ _ _ rfl rfl HT9.out) rfl ?_;exact⟨_,rfl,HST.out,HBE.out⟩
 ·have hnx:nextV s o=allowsV s o.call o.res:=by unfold nextV;rw[if_neg h6]
  rw[hnx];have h6':(o.fin !=-1)=true:=by rw[bne_iff_ne];exact h6
  clear h6 hnx;obtain⟨R,hR⟩:∃R,allowsV s o.call o.res=R:=⟨_,rfl⟩;rw[hR];have HR:=hid hR;clear hR
  have hc:∀u:World,Below W2.heap.size W2 u→Calls Tryz.prog 47 #[.agg #[.slice A n c,.slice E m d,.slice D k k9],.agg #[.int .i64 o.call.kind,.int .i64 o.call.core,.int .i64 o.call.fd,.int .i64 o.call.off,.int .i64 o.call.num,.string o.call.path,.string o.call.path2,.string o.call.data],.agg #[.int .i64 o.res.code,.int .i64 o.res.fd,.int .i64 o.res.num,.bool o.res.dir,.string o.res.data,.slice F f f9]] u fun e w'=>∃A k c E l d D i f,e=.returned (.tuple #[.agg #[.slice A k c,.slice E l d,.slice D i f],.bool R.2])∧StAt (some W2.heap.size) w' (.agg #[.slice A k c,.slice E l d,.slice D i f]) R.1∧Below W2.heap.size W2 w':=fun u hu=>by
   have h1:=zg9 _ _ s o.call o.res u (HS.out.below hu) ⟨F,f,f9,rfl,HOK.out,HNM.out.below hu⟩ HOO.out.p1 HOO.out.p2 HOO.out.ds HOO.out.rn;rw[HR.out] at h1;refine h1.mono ?_;rintro e w' ⟨v',rfl,hst,hb⟩;obtain⟨A,k,c,E,l,d,D,i,g,rfl,_⟩:=hst.at_;exact⟨A,k,c,E,l,d,D,i,g,rfl,hst.lower hu.size,hu.trans (hb.mono hu.size)⟩
  have HC:=hid hc;clear hc;go_upto_region 2 with fail
  try rw[hW1]
  try rw[hW2]
  go_region_held3 (fun w'=>w'.cell? ⟨w.heap.size,0,none⟩=some (.slice A n c)∧w'.cell? ⟨w.heap.size,1,none⟩=some (.slice E m d)∧w'.cell? ⟨w.heap.size,2,none⟩=some (.slice D k k9)∧w'.cell? ⟨g,i,none⟩=some (.int .i64 o.call.kind)∧w'.cell? ⟨g,i+1,none⟩=some (.int .i64 o.call.core)∧w'.cell? ⟨g,i+2,none⟩=some (.int .i64 o.call.fd)∧w'.cell? ⟨g,i+3,none⟩=some (.int .i64 o.call.off)∧w'.cell? ⟨g,i+4,none⟩=some (.int .i64 o.call.num)∧w'.cell? ⟨g,i+5,none⟩=some (.string o.call.path)∧w'.cell? ⟨g,i+6,none⟩=some (.string o.call.path2)∧w'.cell? ⟨g,i+7,none⟩=some (.string o.call.data)∧w'.cell? ⟨g,i+8,none⟩=some (.int .i64 o.res.code)∧w'.cell? ⟨g,i+9,none⟩=some (.int .i64 o.res.fd)∧w'.cell? ⟨g,i+10,none⟩=some (.int .i64 o.res.num)∧w'.cell? ⟨g,i+11,none⟩=some (.bool o.res.dir)∧w'.cell? ⟨g,i+12,none⟩=some (.string o.res.data)∧w'.cell? ⟨g,i+13,none⟩=some (.slice F f f9))
   (first|go_keep|(trace_state;fail))
   ((go_at_call 47;refine(HC.out _ (by first|exact Below.refl _ _|exact Cv.drewN_below (Below.refl _ _) 1)).mono ?_;rintro e5 w5 ⟨A5,n5,c5,E5,m5,d5,D5,i5,f5,rfl,hst5,hbw5⟩;have e0:=(hbw5.cell (p:=⟨g,i,none⟩) hg2).trans j0;have e1:=(hbw5.cell (p:=⟨g,i+1,none⟩) hg2).trans j1;have e2:=(hbw5.cell (p:=⟨g,i+2,none⟩) hg2).trans j2;have e3:=(hbw5.cell (p:=⟨g,i+3,none⟩) hg2).trans j3;have e4:=(hbw5.cell (p:=⟨g,i+4,none⟩) hg2).trans j4;have e5:=(hbw5.cell (p:=⟨g,i+5,none⟩) hg2).trans j5;have e6:=(hbw5.cell (p:=⟨g,i+6,none⟩) hg2).trans j6;have e7:=(hbw5.cell (p:=⟨g,i+7,none⟩) hg2).trans j7;have e8:=(hbw5.cell (p:=⟨g,i+8,none⟩) hg2).trans j8;have e9:=(hbw5.cell (p:=⟨g,i+9,none⟩) hg2).trans j9;have e10:=(hbw5.cell (p:=⟨g,i+10,none⟩) hg2).trans j10;have e11:=(hbw5.cell (p:=⟨g,i+11,none⟩) hg2).trans j11;have e12:=(hbw5.cell (p:=⟨g,i+12,none⟩) hg2).trans j12;have e13:=(hbw5.cell (p:=⟨g,i+13,none⟩) hg2).trans j13;have q0:=(hbw5.cell (p:=⟨w.heap.size,0,none⟩) hp2).trans p0;have q1:=(hbw5.cell (p:=⟨w.heap.size,1,none⟩) hp2).trans p1;have q2:=(hbw5.cell (p:=⟨w.heap.size,2,none⟩) hp2).trans p2;have hrow:=(hbw5.block W1.heap.size hr2).trans HO2.out;obtain⟨s0,s1,s2,sf⟩:=OutAt.get hrow;have HROW:=hid hrow;clear hrow))
  go_wp2_with fail;have hl:=hbw5.size;have HST:=hid ((hst5.lower (B':=w.heap.size) (Nat.le_of_lt hp2)).set3 HROW.out (.slice A5 n5 c5) (.slice E5 m5 d5) (.slice D5 i5 f5));have HBE:=hid (z2i (HB.out.trans (hbw5.mono (Nat.le_of_lt hp2))) HLE.out (.slice A5 n5 c5) (.slice E5 m5 d5) (.slice D5 i5 f5));have HT9:=hid (z3c HROW.out (.slice A5 n5 c5) (.slice E5 m5 d5) (.slice D5 i5 f5));refine bodyPost_ret (z7f _ W1.heap.size _ _ _ _ _ rfl rfl HT9.out) rfl ?_;exact⟨_,rfl,HST.out,HBE.out⟩
theorem Good.of_len {s:St} (h:Good s):(ofL s).length≤17180869184:=by
 have h1:=h.files_len;have h2:(unlL s s.inos).length≤s.inos.length*600:=zav (fU s) 600 s.inos (fun a ha=>h.fU_len ha);have h3:(opnL s.opn).length≤s.opn.length*600:=zav lineO 600 s.opn (fun a ha=>h.fO_len ha);have h4:(madeSh s.made).length≤s.made.length*600:=zav (fun m:Int=>(32:UInt8)::decN m) 600 s.made (fun a ha=>h.fM_len ha);have h5:=h.len;have h6:=h.opn_len;have h7:=h.m8;unfold ofL restL;simp only[List.length_append,List.length_cons,List.length_nil];omega
theorem zn5 (W:World) (g c:Nat) (x y:UInt8) (h0:W.cell? ⟨g,0,none⟩=some (.int .u8 (x.toNat:Int))) (h1:W.cell? ⟨g,1,none⟩=some (.int .u8 (y.toNat:Int))):
  (convert 79 9 (.slice (some ⟨g,0,none⟩) 2 c)).run Tryz.prog W=.ok (.string ⟨#[x,y]⟩) W:=
 run_convert_bytes_back (P:=Tryz.prog) W 79 9 5 ⟨g,0,none⟩ c [x,y] Tryz.underlying79 Tryz.underlying5 Tryz.underlying9 (by
  intro j hj;rw[Cv.addr_add];have hj':j=0∨j=1:=by simp at hj;omega
  rcases hj' with rfl|rfl
  ·simpa using h0
  ·simpa using h1)
set_option maxRecDepth 100000 in
set_option maxHeartbeats 4000000 in
theorem zof (p:Addr) (v:Value) (s:St) (d:Nat) (w:World) (hs:StAt none w v s) (hm:mayV s=true) (hT:Tab w) (hd:d<1024):
  Calls Tryz.prog 22 #[.pointer (some p),v,.int .i64 d] w fun e w'=>∃K:ByteArray,e=.returned (.string K)∧K.data.toList=keyL s d∧K.size≤140737488355328∧Below w.heap.size w w':=by
 obtain⟨A,n',c',E,m,d',D,k,e,rfl,_⟩:=hs.at_;obtain⟨W,hW,a0,a1,a2,hal,hlt0⟩:=z0u w A n' c' E m d' D k e;have HS:=hid (hs.below hal);have HT:=hid (hT.below hal);have HB0:=hid hal;have HM:=hid hm;clear hs hm hT hal
 go_enter Tryz.func22,Tryz.ntmps22
 go_wp2_with fail;have h1:=zd3 _ s W HS.out HT.out;obtain⟨XS,hXS⟩:∃X,txt (ofO s)=X:=⟨_,rfl⟩;rw[hXS,show codeO s=0 by unfold codeO;rw[if_pos HM.out]] at h1;have HXS:=hid hXS;clear hXS;refine h1.mono ?_;clear h1;rintro e w6 ⟨rfl,hb6⟩;have HB6:=hid (Cv.next HB0.out hb6);obtain⟨V,hV⟩:∃V,w6.alloc (.cells #[.int .u8 ((d:Int)%256),.int .u8 ((d:Int) / 256)] 5)=V:=⟨_,rfl⟩
 have hV0:V.cell? ⟨w6.heap.size,0,none⟩=some (.int .u8 ((UInt8.ofNat d).toNat:Int)):=by
  rw[←hV,World.cell?_alloc_mark w6 _ _ (0,0) _,UInt8.toNat_ofNat',Int.natCast_emod]
  rfl
 have hV1:V.cell? ⟨w6.heap.size,1,none⟩=some (.int .u8 ((UInt8.ofNat (d / 256)).toNat:Int)):=by
  rw[←hV,World.cell?_alloc_mark w6 _ _ (0,0) _,UInt8.toNat_ofNat',Nat.mod_eq_of_lt (by omega),Int.natCast_ediv]
  rfl
 have hcv:=zn5 V w6.heap.size 2 _ _ hV0 hV1;have hbV:Below w6.heap.size w6 V:=by rw[←hV];exact(Below.refl _ _).alloc (Nat.le_refl _) _
 have HBV:=hid (Cv.next HB6.out hbV);have hl:=((z1b s).1 HM.out).of_len;have hxl:XS.data.toList=ofL s:=by rw[←HXS.out,z0s];unfold ofO;rw[if_pos HM.out]
 have hxs:XS.size≤17180869184:=by
  have:XS.size=XS.data.toList.length:=by rw[Array.length_toList];rfl
  rw[this,hxl];exact hl
 have HXL:=hid hxl;have HXS2:=hid hxs;have x2:¬9223372036854775807<XS.size+2:=by omega
 obtain⟨b0,hb0⟩:∃b,UInt8.ofNat d=b:=⟨_,rfl⟩;obtain⟨b1,hb1⟩:∃b,UInt8.ofNat (d / 256)=b:=⟨_,rfl⟩;rw[hb0,hb1] at hcv;have HK0:=hid hb0;have HK1:=hid hb1;rw[←hV] at hcv;have HV:=hid hV;clear hb6 a0 a1 a2 hl hxl hxs hV0 hV1 hbV hb0 hb1 hV;go_wp2_with fail;go_ret;refine⟨_,rfl,?_,?_,by rw[HV.out];exact HBV.out⟩
 ·rw[ByteArray.data_append,Array.toList_append,HXL.out,keyL,HK0.out,HK1.out]
 ·rw[ByteArray.size_append];have:=HXS2.out;have e2:(⟨#[b0,b1]⟩:ByteArray).size=2:=rfl;omega
theorem zga {d q:Nat} {b:Int} {ops:List Op} {o:Op} (h:ops[q]? =some o):aheadL d b (ops.drop q) q=((!d.testBit q&&decide (o.fin≠-1)&&decide (o.fin≤b))||aheadL d b (ops.drop (q+1)) (q+1)):=by
 rw[List.drop_eq_getElem_cons (List.getElem?_eq_some_iff.1 h).1,aheadL,(List.getElem?_eq_some_iff.1 h).2]
set_option maxRecDepth 100000 in
set_option maxHeartbeats 4000000 in
theorem zle (p:Nat) (B:Option Addr) (n cap fm:Nat) (lb:ByteArray) (d i:Nat) (ops:List Op) (oi:Op) (w:World) (hse:SeAt w p B n cap fm lb) (ho:OpsAt w B n ops) (hoi:ops[i]? =some oi) (hn9:n≤10) (hd:d<1024):
  Calls Tryz.prog 23 #[.pointer (some ⟨p,0,none⟩),.int .i64 d,.int .i64 i] w fun e w'=>e=.returned (.bool (aheadL d oi.beg ops 0))∧Below w.heap.size w w':=by
 obtain⟨p0,p1,p2⟩:=hse.get;have hlp:=hse.lt;have hil:i<n:=by rw[←ho.1];exact(List.getElem?_eq_some_iff.1 hoi).1
 obtain⟨g,off,hA,hg,hall⟩:=ho.2 (by omega);subst hA;obtain⟨_,_,_,_,_,_,_,_,_,_,_,_,_,_,_,_,_,_,_,_,_,bi,_⟩:=(hall i oi hoi).get;have HSE:=hid hse;have HO:=hid ho;have HL:=hid ho.1;clear hse ho hall;obtain⟨R,hR⟩:∃R,aheadL d oi.beg ops 0=R:=⟨_,rfl⟩;rw[hR];have HR:=hid hR;have i0:(0:Int)≤(i:Int):=by omega
 have i1:(i:Int)<(n:Int):=by omega
 have i2:(i:Int).toNat=i:=by omega
 clear hR hoi
 go_enter Tryz.func23,Tryz.ntmps23
 go_wp2_with fail
 go_loopw [14] (fun j wr=>∃q:Nat,j=.int .i64 q∧q≤n∧aheadL d oi.beg (ops.drop q) q=R∧Below w.heap.size w wr) (fun j _=>n-(intOf j).toNat)
 case atStart=>exact⟨0,rfl,by omega,HR.out,Below.refl _ _⟩
 case round =>
  obtain⟨q,rfl,hq,hrest,hb⟩:=hrel;have HREST:=hid hrest;have HB:=hid hb;clear hrest
  by_cases hlt:q<n
  ·obtain⟨g',off',o,hA2,hg',hoq,hat⟩:=(HO.out.below hb).get q hlt;injection hA2 with hA2
   injection hA2 with hA2 hA3
   subst hA2 hA3;obtain⟨F,f,f9,hok,hnm,hoo,hg2,c0,c1,c2,c3,c4,c5,c6,c7,c8,c9,c10,c11,c12,c13,c14,c15⟩:=hat.get;obtain⟨W,hW,hal,hz,d0,d1,d2,d3,d4,d5,d6,d7,d8,d9,d10,d11,d12,d13,d14,d15⟩:=zl2 wr o F f f9;have HB2:=hid (HB.out.trans (hal.mono HB.out.size));have hbx:=Cv.next HB.out hal;have x0:=(hbx.cell (p:=⟨p,0,none⟩) hlp).trans p0;have bx:=(hbx.cell (p:=⟨g,off+i*16+14,none⟩) hg).trans bi;have HOQ:=hid hoq;have q0:(0:Int)≤(q:Int):=by omega
   have q1:(q:Int)<(n:Int):=by omega
   have q2:(q:Int).toNat=q:=by omega
   have hst:=zga (d:=d) (b:=oi.beg) hoq;rw[HREST.out] at hst;have HST:=hid hst;clear hb hoq hat hok hnm hoo hst hal hbx;have hbit:=zg8 d q hd;cases htb:d.testBit q
   ·rw[htb] at hbit;have hbit0:bits .and .i64 ((d:Int) / 2^q) 1=0:=by rw[hbit];rfl
    have HTB:=hid htb;clear htb hbit
    by_cases h6:o.fin=-1
    ·have h6':(o.fin !=-1)=false:=by rw[bne_eq_false_iff_eq];exact h6
     have H6:=hid h6;clear h6;go_wp2_with fail
     try rw[hW]
     have hX:=@Ext.cell W;refine wre ?_
     repeat (go_big_quiet_step (fail))
     refine wpQuiet_nil ?_;rintro w9 ⟨X,rfl⟩;have HBX:=hid (HB2.out.trans (X.bel.mono HB2.out.size));clear hX;go_wp2_with fail;go_roundw
     case rel=>exact⟨q+1,by go_num,by omega,by have h9:=HST.out;rw[HTB.out,decide_eq_false (show ¬o.fin≠-1 from fun h=>h H6.out)] at h9;simpa using h9.symm,HBX.out⟩
     case measure=>simp[intOf];omega
    ·have h6':(o.fin !=-1)=true:=by rw[bne_iff_ne];exact h6
     have H6:=hid h6;clear h6
     by_cases h7:o.fin≤oi.beg
     ·have hr0:R=true:=by rw[HST.out,HTB.out,decide_eq_true H6.out,decide_eq_true h7];rfl
      subst hr0;go_wp2_with fail
      try rw[hW]
      have hX:=@Ext.cell W;refine wre ?_
      repeat (go_big_quiet_step (fail))
      refine wpQuiet_nil ?_;rintro w9 ⟨X,rfl⟩;have HBX:=hid (HB2.out.trans (X.bel.mono HB2.out.size));clear hX;go_wp2_with fail;go_ret;exact⟨rfl,HBX.out⟩
     ·have H7:=hid (decide_eq_false h7);go_wp2_with fail
      try rw[hW]
      have hX:=@Ext.cell W;refine wre ?_
      repeat (go_big_quiet_step (fail))
      refine wpQuiet_nil ?_;rintro w9 ⟨X,rfl⟩;have HBX:=hid (HB2.out.trans (X.bel.mono HB2.out.size));clear hX;go_wp2_with fail;go_roundw
      case rel=>exact⟨q+1,by go_num,by omega,by have h9:=HST.out;rw[H7.out] at h9;simpa using h9.symm,HBX.out⟩
      case measure=>simp[intOf];omega
   ·rw[htb] at hbit;have hbit0:bits .and .i64 ((d:Int) / 2^q) 1=1:=by rw[hbit];rfl
    have HTB:=hid htb;clear htb hbit;go_wp2_with fail
    try rw[hW]
    have hX:=@Ext.cell W;refine wre ?_
    repeat (go_big_quiet_step (fail))
    refine wpQuiet_nil ?_;rintro w9 ⟨X,rfl⟩;have HBX:=hid (HB2.out.trans (X.bel.mono HB2.out.size));clear hX;go_wp2_with fail;go_roundw
    case rel=>exact⟨q+1,by go_num,by omega,by have h9:=HST.out;rw[HTB.out] at h9;simpa using h9.symm,HBX.out⟩
    case measure=>simp[intOf];omega
  ·have hqn:q=n:=by omega
   have hr0:R=false:=by
    have h9:=HREST.out;rw[hqn,←HL.out,List.drop_length] at h9;exact h9.symm
   subst hr0;clear hb;go_wp2_with fail;go_ret;exact⟨rfl,HB.out⟩
end Go.Proofs.YtkflaifopbodfaaGreatDoor
