/- Parts of the proof, side by side: MadeW, Code13, MakeIn, ListsP, Texts, OpenTexts. -/
import Derived.Test.YtndcloohcfhejaaGreatM40
import Derived.Test.YtndcloohcfhejaaGreatDoRound
import Derived.Test.YtndcloohcfhejaaGreatFsSome
import Derived.Test.YtndcloohcfhejaaGreatM13
import Derived.Test.YtndcloohcfhejaaGreatM35
import Derived.Test.YtndcloohcfhejaaGreatM26
import Derived.Test.YtndcloohcfhejaaGreatM37
import Derived.Test.YtndcloohcfhejaaGreatM21
import Derived.Deep.QuietTactic
import Derived.BigQuiet
import Derived.ProofKit
import Derived.OpenShut
set_option linter.unusedVariables false
set_option linter.unusedSimpArgs false
namespace Go.Proofs.YtndcloohcfhejaaGreat
open Go.RowKit
theorem may_stM : ∀ q < 7,mayV (stM 1 q) = true ∧ mayV (stM 3 q) = true:=by decide +kernel
theorem kinds_M : ∀ q < 7,(callM q).kind = 0 ∨ (callM q).kind = 1 ∨ (callM q).kind = 2 ∨ (callM q).kind = 5 ∨ (callM q).kind = 8:=by decide
theorem good_M : ∀ q < 7,((doF (stM 1 q) (callM q) (-1)).2.1.code = 0 ∧ (doF (stM 1 q) (callM q) (-1)).2.2 = true) ∧ (doF (stM 3 q) (callM q) (-1)).2.1.code = 0 ∧ (doF (stM 3 q) (callM q) (-1)).2.2 = true:=by decide +kernel
theorem dos_M (n q : Nat) (hn : n = 1 ∨ n = 3) (hq : q < 7) : DoS (stM n q) (callM q) (-1):=by
 have : q = 0 ∨ q = 1 ∨ q = 2 ∨ q = 3 ∨ q = 4 ∨ q = 5 ∨ q = 6:=by omega
 rcases hn with rfl | rfl <;> rcases this with rfl | rfl | rfl | rfl | rfl | rfl | rfl
 all_goals
  refine ⟨may_whole (by decide +kernel),by decide,by decide,by decide +kernel,⟨by decide +kernel,by decide +kernel,by decide +kernel⟩,?_,by decide,by decide⟩
  first
   | exact fun h => absurd h (by decide)
   | exact fun _ => ⟨⟨by decide +kernel,by decide +kernel,by decide +kernel⟩,⟨by decide +kernel,by decide +kernel,by decide +kernel⟩,⟨by decide +kernel,by decide +kernel,by decide +kernel⟩,by decide +kernel⟩
theorem re_num {r : Re} (h1 : r.code = 0) (h2 : r.fd = 0) (h3 : r.num = 10) (h4 : r.dir = false) (h5 : r.data = ⟨#[]⟩) (h6 : r.names = []) : r = { num:=10 }:=by
 cases r
 simp_all
def xM : Ino:=⟨18,false,[],⟨#[]⟩⟩
theorem write_M (n : Nat) (hn : n = 1 ∨ n = 3) (B p : Nat) (u : World) (h : Own B u p (stM n 6)) (hB : B ≤ u.heap.size) : Calls Tryz.prog 83 #[.pointer (some ⟨p,0,.none⟩),caV (callM 6)] u fun e w' => e = .returned (resV (byFdV (stM n 6) (callM 6)).2) ∧ Own B w' p (byFdV (stM n 6) (callM 6)).1 ∧ Below B u w' ∧ Aside p u w':=by
 have e2 : (byFdV (stM n 6) (callM 6)).2 = { num:=10 }:=by rcases hn with rfl | rfl <;> exact re_num (by decide +kernel) (by decide +kernel) (by decide +kernel) (by decide +kernel) (by decide +kernel) (by decide +kernel)
 have e1 : (byFdV (stM n 6) (callM 6)).1 = { stM n 6 with inos:=(stM n 6).inos.set 3 { xM with data:=txt (layL xM.data.data.toList 0 (callM 6).data.data.toList) } }:=by rcases hn with rfl | rfl <;> decide +kernel
 rw [e1,e2]
 exact byfd_write B p (stM n 6) 0 0 0 0 ⟨#[]⟩ ⟨#[]⟩ (callM 6).data 18 3 xM u h hB (by rcases hn with rfl | rfl <;> decide) (by decide) (by rcases hn with rfl | rfl <;> decide) (by rcases hn with rfl | rfl <;> rfl) (by decide) (by decide) (by decide) (by decide)
theorem do_M (n q : Nat) (hn : n = 1 ∨ n = 3) (hq : q < 7) (v : Value) (u : World) (hu : StAt none u v (stM n q)) :
  Calls Tryz.prog 52 #[v,caV (callM q),.int .i64 (-1)] u fun e w' => ∃ v' rv,e = .returned (.tuple #[v',rv,.bool (doF (stM n q) (callM q) (-1)).2.2]) ∧ StAt (some u.heap.size) w' v' (doV (stM n q) (callM q)).1 ∧ ResIs (some u.heap.size) w' rv (doV (stM n q) (callM q)).2 ∧ Below u.heap.size u w':=by
 have hm : mayV (stM n q) = true:=by rcases hn with rfl | rfl;exact (may_stM q hq).1;exact (may_stM q hq).2
 have hg : (doF (stM n q) (callM q) (-1)).2.1.code = 0 ∧ (doF (stM n q) (callM q) (-1)).2.2 = true:=by rcases hn with rfl | rfl;exact (good_M q hq).1;exact (good_M q hq).2
 have hq7 : q = 0 ∨ q = 1 ∨ q = 2 ∨ q = 3 ∨ q = 4 ∨ q = 5 ∨ q = 6:=by omega
 have hd:=dos_M n q hn hq
 refine do_some0 v (stM n q) (callM q) (-1) u hu hm ?_ ?_ ?_ ?_ hd (kinds_M q hq) hg ?_ ?_
 ·rcases hq7 with rfl | rfl | rfl | rfl | rfl | rfl | rfl <;> decide
 ·rcases hn with rfl | rfl <;> rcases hq7 with rfl | rfl | rfl | rfl | rfl | rfl | rfl <;> decide
 ·rcases hq7 with rfl | rfl | rfl | rfl | rfl | rfl | rfl <;> decide
 ·rcases hq7 with rfl | rfl | rfl | rfl | rfl | rfl | rfl <;> decide
 ·intro hk B p u h hB
  rcases hq7 with rfl | rfl | rfl | rfl | rfl | rfl | rfl
  all_goals first
   | exact absurd hk (by decide)
   | exact write_M n hn B p u h hB
 ·intro hk B p u h hB
  rcases hq7 with rfl | rfl | rfl | rfl | rfl | rfl | rfl
  all_goals first
   | exact absurd hk (by decide)
   | exact names8_any B p _ _ u h hB hd.whole hd.pz hd.pz2 hd.ns2 (by rcases hn with rfl | rfl <;> exact ⟨by decide +kernel,by decide +kernel,by decide +kernel⟩) hk
theorem Do_roundM (n q : Nat) (hn : n = 1 ∨ n = 3) (hq : q < 7) (v : Value) (w u : World) (h : StAt none w v (stM n q)) (hu : Below w.heap.size w u) :
  Calls Tryz.prog 30 #[v,caV (callM q)] u fun e w' => ∃ A k c E l d D i f r0 r1 r2 r3 r4 r5 r6 r7,e = .returned (.tuple #[.agg #[.slice A k c,.slice E l d,.slice D i f],.agg #[.int .i64 r0,.int .i64 r1,.int .i64 r2,.bool r3,.string r4,.slice r5 r6 r7]]) ∧ StAt (some w.heap.size) w' (.agg #[.slice A k c,.slice E l d,.slice D i f]) (stM n (q + 1)) ∧ Below u.heap.size u w' ∧ Below w.heap.size w w':=by
 refine (Do_some v (stM n q) (callM q) u (h.below hu) (fun u' hu' => do_M n q hn hq v u' hu')).mono ?_
 rintro e w' ⟨v',rv,rfl,hst,⟨F,f,f',rfl,_⟩,hb⟩
 rw [stM_step n q hn hq] at hst
 obtain ⟨A,k,c,E,l,d,D,i,g,rfl,_⟩:=hst.at_
 exact ⟨A,k,c,E,l,d,D,i,g,_,_,_,_,_,_,_,_,rfl,hst.lower hu.size,hb,hu.trans (hb.mono hu.size)⟩
def cellsM : Array Value:=#[.int .i64 1,.int .i64 0,.int .i64 0,.int .i64 0,.int .i64 0,.string ⟨#[47,100]⟩,.string ⟨#[]⟩,.string ⟨#[]⟩,.int .i64 1,.int .i64 0,.int .i64 0,.int .i64 0,.int .i64 0,.string ⟨#[47,101]⟩,.string ⟨#[]⟩,.string ⟨#[]⟩,.int .i64 0,.int .i64 0,.int .i64 0,.int .i64 0,.int .i64 0,.string ⟨#[47,102]⟩,.string ⟨#[]⟩,.string ⟨#[]⟩,.int .i64 8,.int .i64 0,.int .i64 0,.int .i64 0,.int .i64 0,.string ⟨#[47,102]⟩,.string ⟨#[47,103]⟩,.string ⟨#[]⟩,.int .i64 0,.int .i64 0,.int .i64 0,.int .i64 0,.int .i64 0,.string ⟨#[47,100,47,104]⟩,.string ⟨#[]⟩,.string ⟨#[]⟩,.int .i64 2,.int .i64 0,.int .i64 0,.int .i64 0,.int .i64 0,.string ⟨#[47,102]⟩,.string ⟨#[]⟩,.string ⟨#[]⟩,.int .i64 5,.int .i64 0,.int .i64 0,.int .i64 0,.int .i64 0,.string ⟨#[]⟩,.string ⟨#[]⟩,.string ⟨#[48,49,50,51,52,53,54,55,56,57]⟩]
def CallsM (w : World) (b : Nat) : Prop:=w.heap[b]? = some (.cells cellsM 35 (0,0))
theorem CallsM.get {w : World} {b : Nat} (h : CallsM w b) (q : Nat) (hq : q < 7) : w.cell? ⟨b,q * 8,none⟩ = some (.int .i64 (callM q).kind) ∧ w.cell? ⟨b,q * 8 + 1,none⟩ = some (.int .i64 (callM q).core) ∧ w.cell? ⟨b,q * 8 + 2,none⟩ = some (.int .i64 (callM q).fd) ∧ w.cell? ⟨b,q * 8 + 3,none⟩ = some (.int .i64 (callM q).off) ∧ w.cell? ⟨b,q * 8 + 4,none⟩ = some (.int .i64 (callM q).num) ∧
  w.cell? ⟨b,q * 8 + 5,none⟩ = some (.string (callM q).path) ∧ w.cell? ⟨b,q * 8 + 6,none⟩ = some (.string (callM q).path2) ∧ w.cell? ⟨b,q * 8 + 7,none⟩ = some (.string (callM q).data):=by
 have : q = 0 ∨ q = 1 ∨ q = 2 ∨ q = 3 ∨ q = 4 ∨ q = 5 ∨ q = 6:=by omega
 rcases this with e | e | e | e | e | e | e <;> (subst e;refine ⟨?_,?_,?_,?_,?_,?_,?_,?_⟩ <;> (rw [cell_of_row w b _ _ _ (0,0) h];rfl))
set_option maxRecDepth 100000 in
set_option maxHeartbeats 4000000 in
theorem made13_any (N : Nat) (hN : N = 1 ∨ N = 3) (w : World) :
  Calls Tryz.prog 14 #[.int .i64 (N : Int)] w fun e w' => ∃ v',e = .returned v' ∧ StAt (some w.heap.size) w' v' (madeV N) ∧ Below w.heap.size w w':=by
 have hN1 : 1 ≤ N:=by omega
 have hN8 : N ≤ 8:=by omega
 have HN:=Lib.hid hN
 obtain ⟨W,hW⟩ : ∃ W,w.alloc (.cells #[.slice none 0 0,.slice none 0 0,.slice none 0 0] 27) = W:=⟨_,rfl⟩
 have ho0 : OutAt W w.heap.size (.slice none 0 0) (.slice none 0 0) (.slice none 0 0):=by rw [← hW];exact heap_alloc_new w _
 have hl0 : Below w.heap.size w W:=by rw [← hW];exact (Below.refl _ _).alloc (Nat.le_refl _) _
 have hz0 : W.heap.size = w.heap.size + 1:=by rw [← hW];simp
 have HO0:=Lib.hid ho0
 have HL0:=Lib.hid hl0
 clear hN ho0 hl0
 go_enter Tryz.func14,Tryz.ntmps14
 go_wp2_with fail
 refine (new_any N hN1 hN8 W).mono ?_
 rintro e w2 ⟨v2,rfl,hst2,hb2⟩
 obtain ⟨A2,n2,c2,E2,m2,d2,D2,k2,e2,rfl,_⟩:=hst2.at_
 have hst2' : StAt (some (w.heap.size + 1)) w2 (.agg #[.slice A2 n2 c2,.slice E2 m2 d2,.slice D2 k2 e2]) (stM N 0):=by rw [stM_first N HN.out];exact hst2.lower (by omega)
 have HB2:=Lib.hid hb2
 have HST2:=Lib.hid hst2'
 have hz2:=hb2.size
 clear hb2 hst2 hst2'
 go_wp2_with fail
 go_loopw [6] (fun j wr => ∃ (q : Nat) (v : Value),j = .int .i64 q ∧ q ≤ 7 ∧ StAt (some (w.heap.size + 1)) wr v (stM N q) ∧ CallsM wr (w2.heap.size + 1) ∧ (∃ A k c E l d D i f,v = .agg #[.slice A k c,.slice E l d,.slice D i f] ∧ OutAt wr w2.heap.size (.slice A k c) (.slice E l d) (.slice D i f)) ∧ Below w2.heap.size w2 wr) (fun j _ => 7 - (intOf j).toNat)
 case atStart =>
  refine ⟨0,_,rfl,by omega,HST2.out.below ?_,row_new (w2.alloc _) _ _ (by simp),⟨A2,n2,c2,E2,m2,d2,D2,k2,e2,rfl,?_⟩,?_⟩
  ·exact ((Below.refl _ _).alloc (Nat.le_refl _) _).alloc (by simp) _
  ·exact row_past (heap_alloc_new w2 _) (by simp)
  ·exact ((Below.refl _ _).alloc (Nat.le_refl _) _).alloc (by simp) _
 case round =>
  obtain ⟨q,v,rfl,hq,hst,hcl,⟨A,k9,c,E,l,d,D,i9,f9,rfl,hout⟩,hbel⟩:=hrel
  have HB:=Lib.hid hbel
  have HST:=Lib.hid hst
  have HOUT:=Lib.hid hout
  have HCL:=Lib.hid hcl
  have hsz:=hbel.size
  have hl6 : w2.heap.size < wr.heap.size:=(Array.getElem?_eq_some_iff.1 hout).1
  have hl7 : w2.heap.size + 1 < wr.heap.size:=(Array.getElem?_eq_some_iff.1 hcl).1
  obtain ⟨s0,s1,s2,sf⟩:=hout.get
  by_cases hlt : q < 7
  ·obtain ⟨k0,k1,k2,k3,k4,k5,k6,k7⟩:=hcl.get q hlt
   have q0 : (0 : Int) ≤ (q : Int):=by omega
   have q1 : (q : Int) < 7:=by omega
   have HC:=Lib.hid (fun u => Do_roundM N q HN.out hlt _ wr u hst.weak)
   clear hbel hst hout hcl sf
   go_upto_region 6 with fail
   go_cut [7] (fun p wx => ∃ b A k c E l d D i f,p = .pointer (some ⟨b,0,.none⟩) ∧ OutAt wx b (.slice A k c) (.slice E l d) (.slice D i f) ∧ StAt (some wr.heap.size) wx (.agg #[.slice A k c,.slice E l d,.slice D i f]) (stM N (q + 1)) ∧ Below wr.heap.size wr wx ∧ wr.heap.size ≤ b)
   case first =>
    have q2 : (q : Int).toNat = q:=by omega
    have z1 : wr.heap.size ≠ w2.heap.size:=by omega
    have z2 : wr.heap.size ≠ w2.heap.size + 1:=by omega
    have z3 : wr.heap.size + 1 ≠ w2.heap.size:=by omega
    have z4 : wr.heap.size + 1 ≠ w2.heap.size + 1:=by omega
    go_region_held3 (fun w' => w'.cell? ⟨w2.heap.size,0,none⟩ = some (.slice A k9 c) ∧ w'.cell? ⟨w2.heap.size,1,none⟩ = some (.slice E l d) ∧ w'.cell? ⟨w2.heap.size,2,none⟩ = some (.slice D i9 f9) ∧
     w'.cell? ⟨w2.heap.size + 1,q * 8,none⟩ = some (.int .i64 (callM q).kind) ∧ w'.cell? ⟨w2.heap.size + 1,q * 8 + 1,none⟩ = some (.int .i64 (callM q).core) ∧ w'.cell? ⟨w2.heap.size + 1,q * 8 + 2,none⟩ = some (.int .i64 (callM q).fd) ∧ w'.cell? ⟨w2.heap.size + 1,q * 8 + 3,none⟩ = some (.int .i64 (callM q).off) ∧
     w'.cell? ⟨w2.heap.size + 1,q * 8 + 4,none⟩ = some (.int .i64 (callM q).num) ∧ w'.cell? ⟨w2.heap.size + 1,q * 8 + 5,none⟩ = some (.string (callM q).path) ∧ w'.cell? ⟨w2.heap.size + 1,q * 8 + 6,none⟩ = some (.string (callM q).path2) ∧ w'.cell? ⟨w2.heap.size + 1,q * 8 + 7,none⟩ = some (.string (callM q).data))
     (first | go_keep | (trace_state;fail))
     ((go_at_call 30;refine (HC.out _ (by first | exact Cv.drewN_below (Below.refl _ _) 1 | exact (Cv.drewN_below (Below.refl _ _) 1).alloc (by simp) _ | exact ((Cv.drewN_below (Below.refl _ _) 1).alloc (by simp) _).alloc (by simp) _)).mono ?_;rintro e5 w5 ⟨A5,n5,c5,E5,m5,d5,D5,i5,f5,z0,z1',z2',z3',z4',z5',z6',z7',rfl,hst5,hb5,hbw5⟩;have g0:=(hbw5.cell (p:=⟨w2.heap.size,0,none⟩) hl6).trans s0;have g1:=(hbw5.cell (p:=⟨w2.heap.size,1,none⟩) hl6).trans s1;have g2:=(hbw5.cell (p:=⟨w2.heap.size,2,none⟩) hl6).trans s2;have j0:=(hbw5.cell (p:=⟨w2.heap.size + 1,q * 8,none⟩) hl7).trans k0;have j1:=(hbw5.cell (p:=⟨w2.heap.size + 1,q * 8 + 1,none⟩) hl7).trans k1;have j2:=(hbw5.cell (p:=⟨w2.heap.size + 1,q * 8 + 2,none⟩) hl7).trans k2;have j3:=(hbw5.cell (p:=⟨w2.heap.size + 1,q * 8 + 3,none⟩) hl7).trans k3;have j4:=(hbw5.cell (p:=⟨w2.heap.size + 1,q * 8 + 4,none⟩) hl7).trans k4;have j5:=(hbw5.cell (p:=⟨w2.heap.size + 1,q * 8 + 5,none⟩) hl7).trans k5;have j6:=(hbw5.cell (p:=⟨w2.heap.size + 1,q * 8 + 6,none⟩) hl7).trans k6;have j7:=(hbw5.cell (p:=⟨w2.heap.size + 1,q * 8 + 7,none⟩) hl7).trans k7;(first | (have am:=row_kept hb5 (al2a wr (.cells #[.slice none 0 0,.slice none 0 0,.slice none 0 0] 27) (.cells #[.int .i64 0,.int .i64 0,.int .i64 0,.bool false,.string ⟨#[]⟩,.slice none 0 0] 31));have an:=row_kept hb5 (al2b wr (.cells #[.slice none 0 0,.slice none 0 0,.slice none 0 0] 27) (.cells #[.int .i64 0,.int .i64 0,.int .i64 0,.bool false,.string ⟨#[]⟩,.slice none 0 0] 31));obtain ⟨m0,m1,m2',mf⟩:=OutAt.get am;obtain ⟨n0',n1',n2',n3',n4',n5',nf⟩:=ResAt.get an;have lm:=(Array.getElem?_eq_some_iff.1 am).1;have ln:=(Array.getElem?_eq_some_iff.1 an).1;have nm : w5.heap.size ≠ wr.heap.size:=Nat.ne_of_gt lm;have HAM:=Lib.hid am;have nm':=Ne.symm nm;have y1 : w5.heap.size ≠ w2.heap.size:=(by omega);have y2 : w5.heap.size ≠ w2.heap.size + 1:=(by omega);have nn : w5.heap.size ≠ wr.heap.size + 1:=Nat.ne_of_gt ln;have nn':=Ne.symm nn;have HAN:=Lib.hid an;clear am an) | (have am:=row_kept hb5 (al2a wr (.cells #[.int .i64 0,.int .i64 0,.int .i64 0,.bool false,.string ⟨#[]⟩,.slice none 0 0] 31) (.cells #[.slice none 0 0,.slice none 0 0,.slice none 0 0] 27));have an:=row_kept hb5 (al2b wr (.cells #[.int .i64 0,.int .i64 0,.int .i64 0,.bool false,.string ⟨#[]⟩,.slice none 0 0] 31) (.cells #[.slice none 0 0,.slice none 0 0,.slice none 0 0] 27));obtain ⟨m0,m1,m2',mf⟩:=OutAt.get an;obtain ⟨n0',n1',n2',n3',n4',n5',nf⟩:=ResAt.get am;have lm:=(Array.getElem?_eq_some_iff.1 am).1;have ln:=(Array.getElem?_eq_some_iff.1 an).1;have nm : w5.heap.size ≠ wr.heap.size:=Nat.ne_of_gt lm;have HAM:=Lib.hid am;have nm':=Ne.symm nm;have y1 : w5.heap.size ≠ w2.heap.size:=(by omega);have y2 : w5.heap.size ≠ w2.heap.size + 1:=(by omega);have nn : w5.heap.size ≠ wr.heap.size + 1:=Nat.ne_of_gt ln;have nn':=Ne.symm nn;have HAN:=Lib.hid an;clear am an) | (have am:=row_kept hb5 (al1 wr (.cells #[.slice none 0 0,.slice none 0 0,.slice none 0 0] 27));obtain ⟨m0,m1,m2',mf⟩:=OutAt.get am;have lm:=(Array.getElem?_eq_some_iff.1 am).1;have nm : w5.heap.size ≠ wr.heap.size:=Nat.ne_of_gt lm;have HAM:=Lib.hid am;have nm':=Ne.symm nm;have y1 : w5.heap.size ≠ w2.heap.size:=(by omega);have y2 : w5.heap.size ≠ w2.heap.size + 1:=(by omega);clear am) | (have am:=row_kept hb5 (al1 wr (.cells #[.int .i64 0,.int .i64 0,.int .i64 0,.bool false,.string ⟨#[]⟩,.slice none 0 0] 31));obtain ⟨m0,m1,m2',m3,m4,m5',mf⟩:=ResAt.get am;have lm:=(Array.getElem?_eq_some_iff.1 am).1;have nm : w5.heap.size ≠ wr.heap.size:=Nat.ne_of_gt lm;have HAM:=Lib.hid am;have nm':=Ne.symm nm;have y1 : w5.heap.size ≠ w2.heap.size:=(by omega);have y2 : w5.heap.size ≠ w2.heap.size + 1:=(by omega);clear am) | skip)))
    all_goals (
     go_wp2_with fail
     go_meet
     clear HB HST HC HCL HOUT HST2 HB2
     first
      | with_reducible exact ⟨_,A5,n5,c5,E5,m5,d5,D5,i5,f5,rfl,round1 hst5 hbw5⟩
      | with_reducible exact ⟨_,A5,n5,c5,E5,m5,d5,D5,i5,f5,rfl,round2 hst5 hbw5⟩
      | with_reducible exact ⟨_,A5,n5,c5,E5,m5,d5,D5,i5,f5,rfl,round3 hst5 hbw5 HAM.out⟩
      | with_reducible exact ⟨_,A5,n5,c5,E5,m5,d5,D5,i5,f5,rfl,round5 hst5 hbw5 HAM.out⟩
      | with_reducible exact ⟨_,A5,n5,c5,E5,m5,d5,D5,i5,f5,rfl,round4 hst5 hbw5 HAM.out HAN.out⟩
      | with_reducible exact ⟨_,A5,n5,c5,E5,m5,d5,D5,i5,f5,rfl,round6 hst5 hbw5 HAM.out HAN.out⟩)
   case rest =>
    obtain ⟨b,A5,n5,c5,E5,m5,d5,D5,i5,f5,rfl,ho5,hst5,hb5,hle⟩:=hcut
    have hrow : OutAt wc w2.heap.size _ _ _:=(hb5.block w2.heap.size hl6).trans HOUT.out
    have hcl5 : CallsM wc (w2.heap.size + 1):=(hb5.block (w2.heap.size + 1) hl7).trans HCL.out
    obtain ⟨s0',s1',s2',sf'⟩:=hrow.get
    obtain ⟨y0,y1,y2,_⟩:=ho5.get
    have hne : b ≠ w2.heap.size:=by omega
    have hne':=Ne.symm hne
    have HR:=Lib.hid hrow
    have HST5:=Lib.hid hst5
    have HB5:=Lib.hid (HB.out.trans (hb5.mono hsz))
    have HCL5:=Lib.hid hcl5
    clear hrow hst5 hb5 hcl5 ho5 s0 s1 s2
    go_wp2_with fail
    go_roundw
    case rel =>
     refine ⟨q + 1,_,by go_num,by omega,(HST5.out.set3 HR.out _ _ _).lower (by omega),row_far3 HCL5.out (ne_down _) _ _ _,⟨A5,n5,c5,E5,m5,d5,D5,i5,f5,rfl,row_three HR.out _ _ _⟩,below_set3 HB5.out (Nat.le_refl _) _ _ _⟩
    case measure => simp [intOf];omega
  ·have e3 : q = 7:=by omega
   subst e3
   have hst' : StAt (some (w.heap.size + 1)) wr (.agg #[.slice A k9 c,.slice E l d,.slice D i9 f9]) (madeV N):=HST.out
   have hR : OutAt wr w.heap.size (.slice none 0 0) (.slice none 0 0) (.slice none 0 0):=(hbel.block w.heap.size (by omega)).trans ((HB2.out.block w.heap.size (by omega)).trans HO0.out)
   obtain ⟨r0,r1,r2,rf⟩:=hR.get
   have rf0:=rf 0
   have rf1:=rf 1
   have rf2:=rf 2
   obtain ⟨W9,hW9,hR9,kC,hbC⟩:=hR.three (.slice A k9 c) (.slice E l d) (.slice D i9 f9)
   have hst9:=(hst'.keep3 (kC _ (by decide)) (kC _ (by decide)) (kC _ (by decide)) (kC _ (by decide))).lower (Nat.le_succ w.heap.size)
   have hb9 : Below w.heap.size w W9:=hbC _ _ (Nat.le_refl _) ((HL0.out.trans (HB2.out.mono (by omega))).trans (hbel.mono (by omega)))
   have HF:=Lib.hid hst9
   have HB9:=Lib.hid hb9
   have HR9:=Lib.hid hR9
   clear hst' hR kC hbC hst9 hb9 hR9 hbel hst hout hcl sf rf
   go_wp2_with fail
   (try simp only [Exit.inBlock,Exit.then])
   refine bodyPost_ret (results_cell_row rfl _ _ w.heap.size 27 _ (0,0) _ rfl HR9.out Tryz.underlying27 rfl (by kernel_rfl)) rfl ?_
   exact ⟨_,rfl,HF.out,HB9.out⟩
theorem box_ca2 (w : World) (c : Ca) : ∃ W,w.alloc (.cells #[.int .i64 c.kind,.int .i64 c.core,.int .i64 c.fd,.int .i64 c.off,.int .i64 c.num,.string c.path,.string c.path2,.string c.data] 35) = W ∧ Below w.heap.size w W ∧ W.heap.size = w.heap.size + 1 ∧
  W.cell? ⟨w.heap.size,0,none⟩ = some (.int .i64 c.kind) ∧ W.cell? ⟨w.heap.size,1,none⟩ = some (.int .i64 c.core) ∧ W.cell? ⟨w.heap.size,2,none⟩ = some (.int .i64 c.fd) ∧ W.cell? ⟨w.heap.size,3,none⟩ = some (.int .i64 c.off) ∧ W.cell? ⟨w.heap.size,4,none⟩ = some (.int .i64 c.num) ∧ W.cell? ⟨w.heap.size,5,none⟩ = some (.string c.path) ∧ W.cell? ⟨w.heap.size,6,none⟩ = some (.string c.path2) ∧ W.cell? ⟨w.heap.size,7,none⟩ = some (.string c.data):=by
 obtain ⟨W,hW,hc,hb,hz⟩:=box_ca w c
 exact ⟨W,hW,hb,hz,by rw [cell_of_row W _ _ _ _ (0,0) hc];rfl,by rw [cell_of_row W _ _ _ _ (0,0) hc];rfl,by rw [cell_of_row W _ _ _ _ (0,0) hc];rfl,by rw [cell_of_row W _ _ _ _ (0,0) hc];rfl,by rw [cell_of_row W _ _ _ _ (0,0) hc];rfl,by rw [cell_of_row W _ _ _ _ (0,0) hc];rfl,by rw [cell_of_row W _ _ _ _ (0,0) hc];rfl,by rw [cell_of_row W _ _ _ _ (0,0) hc];rfl⟩
theorem made_one (w : World) : Calls Tryz.prog 14 #[.int .i64 1] w fun e w' => ∃ v',e = .returned v' ∧ StAt (some w.heap.size) w' v' (madeV 1) ∧ Below w.heap.size w w':=made13_any 1 (.inl rfl) w
set_option maxRecDepth 100000 in
set_option maxHeartbeats 4000000 in
theorem code13_any (v : Value) (s : St) (c : Ca) (w : World) (h : StAt none w v s) (hp1 : c.path.size ≤ 140737488355328) (hp2 : c.path2.size ≤ 140737488355328) (hds : c.data.size ≤ 140737488355328) :
  Calls Tryz.prog 17 #[v,caV c] w fun e w' => e = .returned (.int .i64 (doV s c).2.code) ∧ Below w.heap.size w w':=by
 obtain ⟨A,n,c',E,m,d,D,k,e,rfl,_⟩:=h.at_
 obtain ⟨V1,hV1,hz1,ho1,hb1⟩:=box_s w (.slice A n c') (.slice E m d) (.slice D k e)
 obtain ⟨V2,hV2,hb2,hz2,k0,k1,k2,k3,k4,k5,k6,k7⟩:=box_ca2 V1 c
 rw [hz1] at k0 k1 k2 k3 k4 k5 k6 k7
 obtain ⟨o0,o1,o2,_⟩:=(ho1.mv hb2).get
 have hdo:=mDo_any (.agg #[.slice A n c',.slice E m d,.slice D k e]) s c V2 ((h.below hb1).below hb2) hp1 hp2 hds
 obtain ⟨R,hR⟩ : ∃ R,doV s c = R:=⟨_,rfl⟩
 rw [hR] at hdo ⊢
 have HDO:=Lib.hid hdo
 have HB:=Lib.hid (Cv.next hb1 hb2)
 unfold caV
 clear h hb1 hb2 ho1 hdo hR hp1 hp2 hds
 go_enter Tryz.func17,Tryz.ntmps17
 go_wp2_with fail
 refine HDO.out.mono ?_
 rintro e4 x4 ⟨v',rv,rfl,hst4,⟨F,f,f',rfl,hokF,hnF⟩,hb4⟩
 obtain ⟨A4,n4,c4,E4,m4,d4,D4,kk4,g4,rfl,-⟩:=hst4.at_
 obtain ⟨U1,V4,hU1,hU,hy1,hy,hoU,hrU,hbU⟩:=box_sr x4 (.slice A4 n4 c4) (.slice E4 m4 d4) (.slice D4 kk4 g4) R.2.code R.2.fd R.2.num R.2.dir R.2.data F f f'
 obtain ⟨r0,r1,r2,r3,r4,r5,_⟩:=hrU.get
 have HB4:=Lib.hid (Cv.next HB.out (Cv.next hb4 hbU))
 clear hst4 hokF hnF hb4 hoU hrU hbU
 go_wp2_with fail
 go_ret
 exact ⟨rfl,HB4.out⟩
end Go.Proofs.YtndcloohcfhejaaGreat
namespace Go.Proofs.YtndcloohcfhejaaGreat
theorem place_of {s : St} (h : Good s) {x : Ino} {n : Int} (hx : x ∈ s.inos) (hn : x.num = n) : inoAt s.inos (atV s.inos n) = some x:=by
 obtain ⟨i,hi⟩:=List.getElem?_of_mem hx
 rw [atV_of_rise h.riseI hi hn,inoAt_nat,hi]
theorem ents_of {s : St} (h : Good s) {x : Ino} {n : Int} (hx : x ∈ s.inos) (hn : x.num = n) : entsOf s.inos n = x.ents:=by
 unfold entsOf
 rw [place_of h hx hn]
theorem dir_of {s : St} (h : Good s) {x : Ino} {n : Int} (hx : x ∈ s.inos) (hn : x.num = n) : dirAt s.inos n = x.dir:=by
 unfold dirAt
 rw [place_of h hx hn]
theorem may_call {s : St} {c : Ca} (hm : mayV s = true) (hk0 : 0 ≤ c.kind) (hk1 : c.kind ≤ 16) (hc0 : 0 ≤ c.core) (hc1 : c.core < (s.made.length : Int)) : ¬ (mayV s = false ∨ c.core < 0 ∨ (s.made.length : Int) ≤ c.core ∨ c.kind < 0 ∨ 16 < c.kind):=by
 rw [hm]
 rintro (h | h | h | h | h)
 ·cases h
 all_goals omega
theorem doV_make {s : St} {c : Ca} (hm : mayV s = true) (hk : c.kind = 0 ∨ c.kind = 1) (hc0 : 0 ≤ c.core) (hc1 : c.core < (s.made.length : Int)) : doV s c = make1V s c:=by
 unfold doV doF
 rw [if_neg (may_call hm (by omega) (by omega) hc0 hc1),if_pos (by omega)]
theorem make_in {s : St} (h : Good s) {c : Ca} (hk : c.kind = 0) (hc0 : 0 ≤ c.core) (hc1 : c.core < (s.made.length : Int)) {x : Ino} {n : Int} {nm : ByteArray} (hx : x ∈ s.inos) (hn : x.num = n) (hd : x.dir = true) (hp : parentV s.inos c.path = (n,nm,0)) :
  ((∃ e ∈ x.ents,e.name = nm) → doV s c = (s,{ code:=2 })) ∧
  ((∀ e ∈ x.ents,e.name ≠ nm) → (4 ≤ bktE x.ents (bktB nm) ∨ 32 ≤ s.made.getD c.core.toNat 0) → doV s c = (s,{ code:=5 })) ∧
  ((∀ e ∈ x.ents,e.name ≠ nm) → bktE x.ents (bktB nm) < 4 → s.made.getD c.core.toNat 0 < 32 → ∃ k s',doV s c = (s',{}) ∧ Good s' ∧ s'.made = s.made.set c.core.toNat (s.made.getD c.core.toNat 0 + 1) ∧ s'.opn = s.opn ∧ ({ x with ents:=putE x.ents nm k } : Ino) ∈ s'.inos ∧ ∀ z ∈ s.inos,z.num ≠ n → z ∈ s'.inos):=by
 rw [doV_make ((good_iff s).2 h) (.inl hk) hc0 hc1]
 have hg:=h.make1 c hc0 hc1
 have hent:=entV_mem h hx hn nm
 have hful : fullV s.inos n nm (txt []) = decide (4 ≤ bktE x.ents (bktB nm)):=by
  unfold fullV
  rw [place_of h hx hn]
  show decide (4 ≤ fullE x.ents nm (txt [])) = _
  rw [bktE_none _ _ _ (noname h hx)]
 have hmk : make1V s c = if entV s.inos n nm ≠ 0 then (s,{ code:=2 }) else if fullV s.inos n nm (txt []) = true ∨ 32 ≤ s.made.getD c.core.toNat 0 then (s,{ code:=5 }) else ({ s with made:=s.made.set c.core.toNat (s.made.getD c.core.toNat 0 + 1),inos:=putI (setEnts s.inos n fun es => putE es nm (2 + c.core + 8 * s.made.getD c.core.toNat 0)) ⟨2 + c.core + 8 * s.made.getD c.core.toNat 0,decide (c.kind = 1),[],txt []⟩ },{}):=by
  unfold make1V
  rw [hp,if_neg (fun h9 => h9 rfl)]
 have hno : (∀ e ∈ x.ents,e.name ≠ nm) → entV s.inos n nm = 0:=fun hne => Classical.byContradiction fun h9 => by
  obtain ⟨e,he,h1,_⟩:=hent.2 h9
  exact hne e he h1
 refine ⟨?_,?_,?_⟩
 ·rintro ⟨e,he,hen⟩
  rw [hmk,if_pos (fun h0 => hent.1 h0 e he hen)]
 ·intro hne hor
  rw [hmk,if_neg (fun h0 => h0 (hno hne)),if_pos (by rw [hful];simpa using hor)]
 ·intro hne hb hm
  have he : make1V s c = ({ s with made:=s.made.set c.core.toNat (s.made.getD c.core.toNat 0 + 1),inos:=putI (setEnts s.inos n fun es => putE es nm (2 + c.core + 8 * s.made.getD c.core.toNat 0)) ⟨2 + c.core + 8 * s.made.getD c.core.toNat 0,decide (c.kind = 1),[],txt []⟩ },{}):=by
   rw [hmk,if_neg (fun h0 => h0 (hno hne)),if_neg (by rw [hful,decide_eq_true_eq];omega)]
  rw [he] at hg
  refine ⟨2 + c.core + 8 * s.made.getD c.core.toNat 0,_,he,hg,rfl,rfl,?_,?_⟩
  ·show _ ∈ putI (setEnts s.inos n fun es => putE es nm (2 + c.core + 8 * s.made.getD c.core.toNat 0)) _
   rw [mem_putI,setEnts_modN h.riseI hx hn,mem_modN]
   exact .inr ⟨x,hx,.inl ⟨hn,rfl⟩⟩
  ·intro z hz hzn
   show _ ∈ putI (setEnts s.inos n fun es => putE es nm (2 + c.core + 8 * s.made.getD c.core.toNat 0)) _
   rw [mem_putI,setEnts_modN h.riseI hx hn,mem_modN]
   exact .inr ⟨z,hz,.inr ⟨hzn,rfl⟩⟩
theorem good_no47 : ∀ (n : Nat) (l : List UInt8),l.length ≤ n → anyBad l = false → ∀ b ∈ l,¬ b = 47
 | 0,l,hn,_,b,hb => by
  have : l = []:=List.length_eq_zero_iff.1 (by omega)
  rw [this] at hb
  cases hb
 | n + 1, l, hn, ha, b, hb => by
  have hl : l ≠ []:=fun e => by rw [e] at hb;cases hb
  rw [anyBad_cons l hl,Bool.or_eq_false_iff] at ha
  obtain ⟨h1,h2⟩:=ha
  have hw:=decodeL_width l
  have hs : ¬ l.getD 0 0 = 47:=fun h47 => by
   rw [decodeL_slash l h47] at h1
   revert h1
   decide
  obtain ⟨_,ht⟩:=decodeL_noslash l hs
  rw [← List.take_append_drop (decodeL l).2 l,List.mem_append] at hb
  rcases hb with hb | hb
  ·exact ht b hb
  ·exact good_no47 n _ (by rw [List.length_drop];omega) h2 b hb
theorem check_no47 {l : List UInt8} (h : checkL l = 0) : ∀ b ∈ l,¬ b = 47:=by
 unfold checkL at h
 split at h
 ·omega
 ·split at h
  ·omega
  ·split at h
   ·omega
   ·rename_i h3
    exact good_no47 l.length l (Nat.le_refl _) (by simpa using h3)
theorem parse_e {l : List UInt8} (h : checkL l = 0) : parseL (47 :: 101 :: 47 :: l) = ([[101],l],0):=by
 have hl : l ≠ []:=fun e => by rw [e] at h;revert h;decide
 have h1 : parseL (47 :: 101 :: 47 :: l) = scanP (101 :: 47 :: (l ++ [47])) [] []:=by
  have hlen : l.length ≤ 12:=by
   unfold checkL at h
   split at h
   ·omega
   ·omega
  unfold parseL
  rw [if_neg (by simp only [List.length_cons];omega),if_neg (by simp),if_neg (by simp)]
  rfl
 rw [h1,scanP_other _ _ _ _ (by decide),scanP_ok _ _ _ (by decide),scanP_skip _ _ _ _ (check_no47 h)]
 show scanP (47 :: []) ([] ++ l) _ = _
 rw [List.nil_append,scanP_ok _ _ _ h,scanP_nil]
 rfl
def rootL : List En:=[⟨⟨#[100]⟩,2⟩,⟨⟨#[101]⟩,10⟩,⟨⟨#[102]⟩,18⟩,⟨⟨#[103]⟩,18⟩]
def pathE (nm : ByteArray) : ByteArray:=(⟨#[47,101,47]⟩ : ByteArray) ++ nm
theorem pathE_list (nm : ByteArray) : (pathE nm).data.toList = 47 :: 101 :: 47 :: nm.data.toList:=by
 unfold pathE
 rw [ByteArray.data_append,Array.toList_append]
 rfl
structure InE (s : St) (m : Nat) : Prop where
 good : Good s
 len : s.made.length = 1
 root : (⟨1,true,rootL,⟨#[]⟩⟩ : Ino) ∈ s.inos
 dirE : ∃ x ∈ s.inos,x.num = 10 ∧ x.dir = true ∧ x.ents.length = m
 fileF : ∃ y ∈ s.inos,y.num = 18 ∧ y.dir = false
theorem inE_start : InE (madeV 1) 0:=
 ⟨(good_iff _).1 (may_made 1 (.inl rfl)),rfl,List.mem_cons_self,⟨⟨10,true,[],⟨#[]⟩⟩,by simp [madeV],rfl,rfl,rfl⟩,⟨⟨18,false,[],⟨#[48,49,50,51,52,53,54,55,56,57]⟩⟩,by simp [madeV],rfl,rfl⟩⟩
theorem InE.rootEnt {s : St} {m : Nat} (h : InE s m) (nm : ByteArray) : entV s.inos 1 nm = entG rootL nm:=by
 unfold entV
 rw [place_of h.good h.root rfl]
theorem InE.walk_e {s : St} {m : Nat} (h : InE s m) (ns : List (List UInt8)) : walkG s.inos ([101] :: ns) 1 = walkG s.inos ns 10:=by
 have he : entV s.inos 1 (txt [101]) = 10:=by rw [h.rootEnt];rfl
 show (match inoAt s.inos (atV s.inos 1) with | none => (0,0) | some x => if x.dir = false then (0,7) else if entV s.inos 1 (txt [101]) = 0 then (0,1) else walkG s.inos ns (entV s.inos 1 (txt [101]))) = _
 rw [place_of h.good h.root rfl,he]
 rfl
theorem InE.parent {s : St} {m : Nat} (h : InE s m) {nm : ByteArray} (hn : chkB nm = 0) : parentV s.inos (pathE nm) = (10,nm,0):=by
 obtain ⟨x,hx,hxn,hxd,_⟩:=h.dirE
 have hp : parseL (pathE nm).data.toList = ([[101],nm.data.toList],0):=by rw [pathE_list];exact parse_e hn
 have hd : dirAt s.inos 10 = true:=by rw [dir_of h.good hx hxn];exact hxd
 have hw : walkG s.inos [[101]] 1 = (10,0):=h.walk_e []
 unfold parentV
 rw [hp]
 show (if (0 : Nat) ≠ 0 then _ else if [[101],nm.data.toList] = [] then _ else if (walkG s.inos [[101]] 1).2 ≠ 0 then _ else if dirAt s.inos (walkG s.inos [[101]] 1).1 = false then _ else ((walkG s.inos [[101]] 1).1,txt nm.data.toList,(0 : Int))) = _
 rw [if_neg (by decide),if_neg (by simp),hw,if_neg (by decide)]
 show (if dirAt s.inos 10 = false then _ else ((10 : Int),txt nm.data.toList,(0 : Int))) = _
 rw [if_neg (by rw [hd];decide)]
 rfl
theorem InE.step {s : St} {m : Nat} (h : InE s m) {nm : ByteArray} (hn : chkB nm = 0) {R : St × Re} (hR : doV s ⟨0,0,0,0,0,pathE nm,⟨#[]⟩,⟨#[]⟩⟩ = R) (hc : R.2.code = 0) : InE R.1 (m + 1):=by
 obtain ⟨x,hx,hxn,hxd,hxl⟩:=h.dirE
 obtain ⟨h1,h2,h3⟩:=make_in h.good (c:=⟨0,0,0,0,0,pathE nm,⟨#[]⟩,⟨#[]⟩⟩) rfl (Int.le_refl 0) (by rw [h.len];show (0 : Int) < ((1 : Nat) : Int);omega) hx hxn hxd (h.parent hn)
 by_cases hin : ∃ e ∈ x.ents,e.name = nm
 ·rw [← hR,h1 hin] at hc
  exact absurd (show (2 : Int) = 0 from hc) (by decide)
 ·have hno : ∀ e ∈ x.ents,e.name ≠ nm:=fun e he h9 => hin ⟨e,he,h9⟩
  by_cases hful : 4 ≤ bktE x.ents (bktB nm) ∨ 32 ≤ s.made.getD 0 0
  ·rw [← hR,h2 hno hful] at hc
   exact absurd (show (5 : Int) = 0 from hc) (by decide)
  ·obtain ⟨k,s',he,hg',hm',ho',hx',hz'⟩:=h3 hno (by omega) (by show s.made.getD 0 0 < 32;omega)
   have e1 : R.1 = s':=by rw [← hR,he]
   rw [e1]
   obtain ⟨y,hy,hyn,hyd⟩:=h.fileF
   refine ⟨hg',by rw [hm',List.length_set];exact h.len,hz' _ h.root (by decide),⟨_,hx',hxn,hxd,?_⟩,⟨y,hz' y hy (by omega),hyn,hyd⟩⟩
   show (putE x.ents nm k).length = m + 1
   rw [putE_len,hxl]
theorem InE.find {s : St} {m : Nat} (h : InE s m) {nm : ByteArray} (hn : chkB nm = 0) : findV s.inos (pathE nm) = if entV s.inos 10 nm = 0 then (0,1) else (entV s.inos 10 nm,0):=by
 obtain ⟨x,hx,hxn,hxd,_⟩:=h.dirE
 have hp : parseL (pathE nm).data.toList = ([[101],nm.data.toList],0):=by rw [pathE_list];exact parse_e hn
 unfold findV
 rw [hp]
 show (if (0 : Nat) ≠ 0 then _ else walkG s.inos [[101],nm.data.toList] 1) = _
 rw [if_neg (by decide),h.walk_e]
 show (match inoAt s.inos (atV s.inos 10) with | none => (0,0) | some x => if x.dir = false then (0,7) else if entV s.inos 10 (txt nm.data.toList) = 0 then (0,1) else walkG s.inos [] (entV s.inos 10 (txt nm.data.toList))) = _
 rw [place_of h.good hx hxn]
 show (if x.dir = false then _ else _) = _
 rw [if_neg (by rw [hxd];decide)]
 rfl
theorem doV_look {s : St} {c : Ca} (hm : mayV s = true) (hk : 12 ≤ c.kind ∧ c.kind ≤ 14) (hc0 : 0 ≤ c.core) (hc1 : c.core < (s.made.length : Int)) : doV s c = (s,looksV s c):=by
 unfold doV doF
 rw [if_neg (may_call hm (by omega) (by omega) hc0 hc1),if_neg (by omega),if_neg (by omega),if_neg (by omega),if_neg (by omega),if_pos (by omega)]
theorem InE.list {s : St} {m : Nat} (h : InE s m) : ∃ es : List En,es.length = m ∧ doV s ⟨12,0,0,0,0,⟨#[47,101]⟩,⟨#[]⟩,⟨#[]⟩⟩ = (s,{ names:=es.map (·.name) }) ∧ (∀ e ∈ es,chkB e.name = 0) ∧ es.Pairwise (fun a b => ltN a.name b.name = true) ∧ ∀ e ∈ es,(doV s ⟨13,0,0,0,0,pathE e.name,⟨#[]⟩,⟨#[]⟩⟩).2.code = 0:=by
 obtain ⟨x,hx,hxn,hxd,hxl⟩:=h.dirE
 have hm:=(good_iff s).2 h.good
 have hlen : (0 : Int) < (s.made.length : Int):=by rw [h.len];show (0 : Int) < ((1 : Nat) : Int);omega
 have hok:=entsV_iff.1 (h.good.dirs x hx hxd).2
 have hd : dirAt s.inos 10 = true:=by rw [dir_of h.good hx hxn];exact hxd
 have hf : findV s.inos ⟨#[47,101]⟩ = (10,0):=by
  show (if (0 : Nat) ≠ 0 then _ else walkG s.inos [[101]] 1) = _
  rw [if_neg (by decide),h.walk_e]
  rfl
 refine ⟨x.ents,hxl,?_,fun e he => (hok.each e he).1,riseE_iff.1 hok.rise,fun e he => ?_⟩
 ·rw [doV_look hm (by decide) (Int.le_refl 0) hlen]
  unfold looksV
  show (s,if (findV s.inos ⟨#[47,101]⟩).2 ≠ 0 then _ else if (12 : Int) = 12 then if dirAt s.inos (findV s.inos ⟨#[47,101]⟩).1 = false then _ else ({ names:=(entsOf s.inos (findV s.inos ⟨#[47,101]⟩).1).map (·.name) } : Re) else _) = _
  rw [hf]
  rw [if_neg (by decide),if_pos rfl,if_neg (by rw [hd];decide),ents_of h.good hx hxn]
 ·have hc:=(hok.each e he).1
  have hne : entV s.inos 10 e.name ≠ 0:=fun h0 => (entV_mem h.good hx hxn e.name).1 h0 e he rfl
  have hf2 : findV s.inos (pathE e.name) = (entV s.inos 10 e.name,0):=by rw [h.find hc,if_neg hne]
  rw [doV_look hm ⟨by show (12 : Int) ≤ 13;decide,by show (13 : Int) ≤ 14;decide⟩ (Int.le_refl 0) hlen]
  unfold looksV
  show (if (findV s.inos (pathE e.name)).2 ≠ 0 then ({ code:=(findV s.inos (pathE e.name)).2 } : Re) else if (13 : Int) = 12 then _ else _).code = 0
  rw [hf2,if_neg (fun h9 => h9 rfl),if_neg (by decide)]
  rfl
theorem InE.last {s : St} {m : Nat} (h : InE s m) : (doV s ⟨12,0,0,0,0,⟨#[47,102]⟩,⟨#[]⟩,⟨#[]⟩⟩).2.code = 7 ∧ (doV s ⟨12,0,0,0,0,⟨#[47,113]⟩,⟨#[]⟩,⟨#[]⟩⟩).2.code = 1:=by
 have hm:=(good_iff s).2 h.good
 have hlen : (0 : Int) < (s.made.length : Int):=by rw [h.len];show (0 : Int) < ((1 : Nat) : Int);omega
 obtain ⟨y,hy,hyn,hyd⟩:=h.fileF
 have hd : dirAt s.inos 18 = false:=by rw [dir_of h.good hy hyn];exact hyd
 have w1 : ∀ nm : List UInt8,walkG s.inos [nm] 1 = if entV s.inos 1 (txt nm) = 0 then (0,1) else (entV s.inos 1 (txt nm),0):=fun nm => by
  show (match inoAt s.inos (atV s.inos 1) with | none => (0,0) | some x => if x.dir = false then (0,7) else if entV s.inos 1 (txt nm) = 0 then (0,1) else walkG s.inos [] (entV s.inos 1 (txt nm))) = _
  rw [place_of h.good h.root rfl]
  rfl
 have f1 : findV s.inos ⟨#[47,102]⟩ = (18,0):=by
  show (if (0 : Nat) ≠ 0 then _ else walkG s.inos [[102]] 1) = _
  rw [if_neg (by decide),w1,h.rootEnt]
  rfl
 have f2 : findV s.inos ⟨#[47,113]⟩ = (0,1):=by
  show (if (0 : Nat) ≠ 0 then _ else walkG s.inos [[113]] 1) = _
  rw [if_neg (by decide),w1,h.rootEnt]
  rfl
 constructor
 ·rw [doV_look hm (by decide) (Int.le_refl 0) hlen]
  unfold looksV
  show (if (findV s.inos ⟨#[47,102]⟩).2 ≠ 0 then _ else if (12 : Int) = 12 then if dirAt s.inos (findV s.inos ⟨#[47,102]⟩).1 = false then ({ code:=7 } : Re) else _ else _).code = 7
  rw [f1,if_neg (by decide),if_pos rfl,if_pos hd]
 ·rw [doV_look hm (by decide) (Int.le_refl 0) hlen]
  unfold looksV
  show (if (findV s.inos ⟨#[47,113]⟩).2 ≠ 0 then ({ code:=(findV s.inos ⟨#[47,113]⟩).2 } : Re) else _).code = 1
  rw [f2,if_pos (by decide)]
end Go.Proofs.YtndcloohcfhejaaGreat
namespace Go.Proofs.YtndcloohcfhejaaGreat
open Go.RowKit
def Texts (w : World) (A : Option Addr) (n : Nat) (ts : List (List UInt8)) : Prop:=
 ts.length = n ∧ (0 < n → ∃ g off,A = some ⟨g,off,none⟩ ∧ g < w.heap.size ∧ ∀ j,j < n → w.cell? ⟨g,off + j,none⟩ = some (strV (ts.getD j [])))
theorem Texts.below {w w' : World} {A : Option Addr} {n : Nat} {ts : List (List UInt8)} (h : Texts w A n ts) (hb : Below w.heap.size w w') : Texts w' A n ts:=
 ⟨h.1, fun hn => by
  obtain ⟨g,off,hA,hg,hc⟩:=h.2 hn
  exact ⟨g,off,hA,Nat.lt_of_lt_of_le hg hb.size,fun j hj => (hb.cell (p:=⟨g,off + j,none⟩) hg).trans (hc j hj)⟩⟩
end Go.Proofs.YtndcloohcfhejaaGreat
namespace Go.Proofs.YtndcloohcfhejaaGreat
open Go.ChangeShapes Go.WideShapes Go.ChangeAt Go.RowKit
theorem lt_of_cell {w : World} {p : Addr} {u : Value} (h : w.cell? p = some u) : p.block < w.heap.size:=by
 rcases Nat.lt_or_ge p.block w.heap.size with hl | hl
 ·exact hl
 ·exfalso
  unfold World.cell? at h
  rw [Array.getElem?_eq_none hl] at h
  cases h
end Go.Proofs.YtndcloohcfhejaaGreat
