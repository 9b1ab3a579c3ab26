/- Parts of the proof, side by side: MoRan, MoFile, MoFile2, MoRun. -/
import Derived.Test.YtndcloohcfhejaaGreatM23
import Derived.Test.YtndcloohcfhejaaGreatM22
import Derived.Test.YtndcloohcfhejaaGreatM16
set_option linter.unusedVariables false
set_option linter.unusedSimpArgs false
namespace Go.Proofs.YtndcloohcfhejaaGreat
open Go.RowKit
def bstrV (s : ByteArray) : Value:=.string s
def Ran (B q p : Nat) (c : Ca) (R : St × Re) (w : World) (e : Ending) (w' : World) : Prop:=
 Below B w w' ∧ ((R.2.code ≠ 0 ∧ e = .panicked (faultP R.2.code)) ∨ (R.2.code = 0 ∧ e = .returned (.tuple #[]) ∧ (∃ zs vI vO vM,Own2 B w' p R.1 zs vI vO vM) ∧ ∃ nv,DoerAt w' q p c R.2.fd R.2.num R.2.dir R.2.data nv ∧ RowAt B w' 9 1 nv R.2.names.length (R.2.names.map bstrV)))
structure Now (B q p : Nat) (s : St) (c : Ca) (zs : List (Ino × Value)) (vI vO vM : Value) (w w' : World) : Prop where
 hB : B ≤ w.heap.size
 hq : B ≤ q
 bel : Below w.heap.size w w'
 own : Own2 B w' p s zs vI vO vM
 doer : DoerAt w' q p c 0 0 false ⟨#[]⟩ (.slice none 0 0)
section
variable {B q p : Nat} {s : St} {c : Ca} {zs : List (Ino × Value)} {vI vO vM : Value} {w w' w'' : World}
theorem Now.step (h : Now B q p s c zs vI vO vM w w') (hb : Below w'.heap.size w' w'') : Now B q p s c zs vI vO vM w w'':=⟨h.hB,h.hq,Cv.next h.bel hb,h.own.below hb,h.doer.below hb⟩
theorem Now.low (h : Now B q p s c zs vI vO vM w w') : Below B w w':=h.bel.mono h.hB
theorem Now.hB' (h : Now B q p s c zs vI vO vM w w') : B ≤ w'.heap.size:=Nat.le_trans h.hB h.bel.size
theorem Now.ne (h : Now B q p s c zs vI vO vM w w') : q ≠ p:=blk_ne h.doer.cell h.own.cell (by decide)
theorem Now.fail (h : Now B q p s c zs vI vO vM w w') {R : St × Re} {e : Ending} (hc : R.2.code ≠ 0) (he : e = .panicked (faultP R.2.code)) : Ran B q p c R w e w':=⟨h.low,.inl ⟨hc,he⟩⟩
theorem Now.done (h : Now B q p s c zs vI vO vM w w') {R : St × Re} {e : Ending} (hr : R.2 = {}) (he : e = .returned (.tuple #[])) (ht : Turns B p w' w'') (ho : ∃ zs vI vO vM,Own2 B w'' p R.1 zs vI vO vM) : Ran B q p c R w e w'':=by
 refine ⟨h.low.trans ht.below,.inr ⟨by rw [hr],he,ho,.slice none 0 0,?_,?_⟩⟩
 ·rw [hr];exact h.doer.turns h.ne ht
 ·rw [hr];exact ⟨rfl,.inl ⟨none,rfl,rfl⟩⟩
theorem Now.ino (h : Now B q p s c zs vI vO vM w w') {g n d i : Nat} {x : Ino} (hvI : vI = .slice (some ⟨g,0,none⟩) n d) (hx : s.inos[i]? = some x) : ∃ E m e,w'.cell? ⟨g,i * 4,none⟩ = some (.int .i64 x.num) ∧ w'.cell? ⟨g,i * 4 + 1,none⟩ = some (.bool x.dir) ∧ w'.cell? ⟨g,i * 4 + 2,none⟩ = some (.slice E m e) ∧ w'.cell? ⟨g,i * 4 + 3,none⟩ = some (.string x.data) ∧ EntsAt none w' E m x.ents ∧ g < w'.heap.size ∧ m = x.ents.length:=by
 obtain ⟨g',c',E,m,d2,hv,hz,hg,hBg,hil,x0,x1,x2,x3,hfz,hmd,hE⟩:=h.own.at_ hx
 have hgg : g' = g:=by rw [hvI] at hv;injection hv with e1 _ _;injection e1 with e1;injection e1 with e1;exact e1.symm
 subst hgg
 exact ⟨E,m,d2,x0,x1,x2,x3,hE,hg,hE.1.symm⟩
end
theorem Own2.other {B : Nat} {w w' : World} {p b : Nat} {s : St} {zs : List (Ino × Value)} {vI vO vM : Value} (h : Own2 B w p s zs vI vO vM) (hg : w.grownBy w' (some b)) {cur : Array Value} {t : TypeId} {f : Nat × Nat} (hb : w.heap[b]? = some (.cells cur t f)) (h1 : t ≠ 27) (h2 : t ≠ 75) (h3 : t ≠ 77) (h4 : t ≠ 79) (h5 : t ≠ 3) : Own2 B w' p s zs vI vO vM:=by
 have key : ∀ (e : TypeId) (k : Nat) (v : Value) (n : Nat) (xs : List Value),t ≠ e → RowAt B w e k v n xs → RowAt B w' e k v n xs:=fun e k v n xs hne hx => hx.kept hg (fun a ha e2 => by
  obtain ⟨_,_,c1,hc⟩:=hx.blk a ha
  exact blk_ne hb hc hne (by injection e2))
 refine ⟨h.hp,?_,h.inos,key _ _ _ _ _ h2 h.rowI,fun z hz => key _ _ _ _ _ h3 (h.ents z hz),h.apart,key _ _ _ _ _ h4 h.rowO,key _ _ _ _ _ h5 h.rowM,h.sized⟩
 rw [hg.block p h.lt (fun e => by injection e with e;exact blk_ne hb h.cell h1 e.symm)]
 exact h.cell
section
variable {w : World} {q p : Nat} {c : Ca} {fd num : Int} {dir : Bool} {data : ByteArray} {nv : Value}
theorem DoerAt.setFd (h : DoerAt w q p c fd num dir data nv) (x : Int) : DoerAt (w.setCell ⟨q,10,none⟩ (.int .i64 x)) q p c x num dir data nv:=⟨by rw [heap_setCell_same w q 10 _ _ _ h.cell];rfl⟩
theorem DoerAt.setNum (h : DoerAt w q p c fd num dir data nv) (x : Int) : DoerAt (w.setCell ⟨q,11,none⟩ (.int .i64 x)) q p c fd x dir data nv:=⟨by rw [heap_setCell_same w q 11 _ _ _ h.cell];rfl⟩
theorem DoerAt.setDir (h : DoerAt w q p c fd num dir data nv) (x : Bool) : DoerAt (w.setCell ⟨q,12,none⟩ (.bool x)) q p c fd num x data nv:=⟨by rw [heap_setCell_same w q 12 _ _ _ h.cell];rfl⟩
theorem DoerAt.setData (h : DoerAt w q p c fd num dir data nv) (x : ByteArray) : DoerAt (w.setCell ⟨q,13,none⟩ (.string x)) q p c fd num dir x nv:=⟨by rw [heap_setCell_same w q 13 _ _ _ h.cell];rfl⟩
theorem DoerAt.setNames (h : DoerAt w q p c fd num dir data nv) (x : Value) : DoerAt (w.setCell ⟨q,14,none⟩ x) q p c fd num dir data x:=⟨by rw [heap_setCell_same w q 14 _ _ _ h.cell];rfl⟩
theorem DoerAt.fz (h : DoerAt w q p c fd num dir data nv) (j : Nat) : w.frozen? ⟨q,j,none⟩ = false:=frozen_of_row w q j _ _ h.cell
theorem DoerAt.set_own {B j : Nat} {s : St} {zs : List (Ino × Value)} {vI vO vM u : Value} (h : DoerAt w q p c fd num dir data nv) (ho : Own2 B w p s zs vI vO vM) : Own2 B (w.setCell ⟨q,j,none⟩ u) p s zs vI vO vM:=ho.other grown_set h.cell (by decide) (by decide) (by decide) (by decide) (by decide)
theorem DoerAt.r10 (h : DoerAt w q p c fd num dir data nv) : w.cell? ⟨q,10,none⟩ = some (.int .i64 fd):=by rw [cell_of_row w q _ _ _ (0,0) h.cell];rfl
theorem DoerAt.r11 (h : DoerAt w q p c fd num dir data nv) : w.cell? ⟨q,11,none⟩ = some (.int .i64 num):=by rw [cell_of_row w q _ _ _ (0,0) h.cell];rfl
theorem DoerAt.r12 (h : DoerAt w q p c fd num dir data nv) : w.cell? ⟨q,12,none⟩ = some (.bool dir):=by rw [cell_of_row w q _ _ _ (0,0) h.cell];rfl
theorem DoerAt.r13 (h : DoerAt w q p c fd num dir data nv) : w.cell? ⟨q,13,none⟩ = some (.string data):=by rw [cell_of_row w q _ _ _ (0,0) h.cell];rfl
theorem DoerAt.r14 (h : DoerAt w q p c fd num dir data nv) : w.cell? ⟨q,14,none⟩ = some nv:=by rw [cell_of_row w q _ _ _ (0,0) h.cell];rfl
end
theorem low_set {B b j : Nat} {w : World} {u : Value} (h : B ≤ b) : Below B w (w.setCell ⟨b,j,none⟩ u):=(Below.refl _ _).setCell h _
theorem setEnts_at {is : List Ino} {t : Int} {i : Nat} {x : Ino} (ha : atV is t = (i : Int)) (hx : is[i]? = some x) (f : List En → List En) : setEnts is t f = is.set i { x with ents:=f x.ents }:=by
 unfold setEnts
 rw [ha,Int.toNat_natCast,modify_set _ _ _ _ hx]
theorem fullV_at {is : List Ino} {t : Int} {i : Nat} {x : Ino} (ha : atV is t = (i : Int)) (hx : is[i]? = some x) (a b : ByteArray) : fullV is t a b = decide (4 ≤ fullE x.ents a b):=by
 unfold fullV
 rw [ha,inoAt_nat,hx]
theorem dirAt_at {is : List Ino} {t : Int} {i : Nat} {x : Ino} (ha : atV is t = (i : Int)) (hx : is[i]? = some x) : dirAt is t = x.dir:=by
 unfold dirAt
 rw [ha,inoAt_nat,hx]
theorem entsOf_at {is : List Ino} {t : Int} {i : Nat} {x : Ino} (ha : atV is t = (i : Int)) (hx : is[i]? = some x) : entsOf is t = x.ents:=by
 unfold entsOf
 rw [ha,inoAt_nat,hx]
theorem dataAt_at {is : List Ino} {t : Int} {i : Nat} {x : Ino} (ha : atV is t = (i : Int)) (hx : is[i]? = some x) : dataAt is t = x.data:=by
 unfold dataAt
 rw [ha,inoAt_nat,hx]
theorem Good.at_ {s : St} (h : Good s) {i : Nat} {x : Ino} {t : Int} (hx : s.inos[i]? = some x) (hn : x.num = t) : atV s.inos t = (i : Int):=by rw [← hn];exact h.idx hx
theorem Good.text {s : St} (h : Good s) {x : Ino} (hx : x ∈ s.inos) : ∀ e ∈ x.ents,e.name.size ≤ 140737488355328:=fun e he => ((h.small.io x hx).2.2.2 e he).1
theorem gopens_mem (is : List Ino) (n : Nat) : ∀ (ds : List Ds) (q : Option Ds),opensG is n ds q = true → ∀ d ∈ ds,dsBad is n d = false
 | [],_,_,d,hd => by simp at hd
 | y :: ds, q, h, d, hd => by
  unfold opensG at h
  split at h
  ·cases h
  ·rename_i h1
   split at h
   ·cases h
   ·rcases List.mem_cons.1 hd with rfl | hd
    ·simpa using h1
    ·exact gopens_mem is n ds _ h d hd
theorem Good.opens {s : St} (h : Good s) : ∀ d ∈ s.opn,0 ≤ d.core ∧ d.core < (s.made.length : Int) ∧ 0 ≤ d.fd ∧ d.fd < 4 ∧ ∃ (i : Nat) (x : Ino),atV s.inos d.num = (i : Int) ∧ s.inos[i]? = some x ∧ x.num = d.num ∧ x.dir = false:=by
 intro d hd
 have h1:=gopens_mem _ _ _ _ h.opn d hd
 unfold dsBad at h1
 simp only [Bool.or_eq_false_iff,decide_eq_false_iff_not] at h1
 obtain ⟨⟨⟨⟨a1,a2⟩,a3⟩,a4⟩,a5⟩:=h1
 refine ⟨by omega,by omega,by omega,by omega,?_⟩
 rcases atV_cases s.inos d.num with ⟨h2,_⟩ | ⟨k,x,h2,h3,h4,_⟩
 ·rw [h2] at a5
  simp [inoAt] at a5
 ·rw [h2,inoAt_nat,h3] at a5
  exact ⟨k,x,h2,h3,h4,a5⟩
def fdP : List Ds → Int → Int → Option Nat
 | [],_,_ => none
 | d :: ds,core,fd => if d.core = core ∧ d.fd = fd then some 0 else (fdP ds core fd).map (· + 1)
def fdI (ds : List Ds) (core fd : Int) : Int:=match fdP ds core fd with | none => -1 | some k => (k : Int)
theorem fdP_none : ∀ (ds : List Ds) (core fd : Int),fdP ds core fd = none → fdV ds core fd = 0 ∧ dropD ds core fd = ds
 | [],_,_,_ => ⟨rfl,rfl⟩
 | d :: ds, core, fd, h => by
  unfold fdP at h
  unfold fdV dropD
  by_cases hh : d.core = core ∧ d.fd = fd
  ·rw [if_pos hh] at h;cases h
  ·rw [if_neg hh] at h ⊢
   rw [if_neg hh]
   have:=fdP_none ds core fd (by cases hf : fdP ds core fd with | none => rfl | some k => rw [hf] at h;cases h)
   exact ⟨this.1,by rw [this.2]⟩
theorem fdP_some : ∀ (ds : List Ds) (core fd : Int) (k : Nat),fdP ds core fd = some k → ∃ d,ds[k]? = some d ∧ d.core = core ∧ d.fd = fd ∧ fdV ds core fd = d.num
 | [],_,_,k,h => by cases h
 | d :: ds, core, fd, k, h => by
  unfold fdP at h
  unfold fdV
  by_cases hh : d.core = core ∧ d.fd = fd
  ·rw [if_pos hh] at h
   cases h
   exact ⟨d,rfl,hh.1,hh.2,if_pos hh⟩
  ·rw [if_neg hh] at h ⊢
   cases hf : fdP ds core fd with
   | none => rw [hf] at h;cases h
   | some j =>
    rw [hf] at h
    cases h
    obtain ⟨y,h1,h2⟩:=fdP_some ds core fd j hf
    exact ⟨y,by simpa using h1,h2⟩
theorem fdP_drop (ds : List Ds) (core fd : Int) (q : Nat) (y : Ds) (hd : ds.drop q = y :: ds.drop (q + 1)) : fdP (ds.drop q) core fd = if y.core = core ∧ y.fd = fd then some 0 else (fdP (ds.drop (q + 1)) core fd).map (· + 1):=by
 rw [hd,fdP]
theorem file1_any (q p : Nat) (c : Ca) (fd num : Int) (dir : Bool) (data : ByteArray) (nv : Value) (a b k : Int) (bx : Nat) (w : World) (hb : w.cell? ⟨bx,0,.none⟩ = some (.pointer (some ⟨q,0,none⟩))) (hlt : bx < w.heap.size) (hD : DoerAt w q p c fd num dir data nv) :
  Calls Tryz.prog 95 #[.agg #[.int .i64 a,.int .i64 b,.int .i64 k],.pointer (some ⟨bx,0,.none⟩)] w fun e w' => e = .returned (.bool (a == c.core && b == c.fd)) ∧ Below w.heap.size w w':=by
 obtain ⟨V2,hV2,v0,v1,v2,hal4,hlt4⟩:=box_ds w a b k
 have z:=(hal4.cell (p:=⟨bx,0,.none⟩) hlt).trans hb
 have hD2:=hD.below hal4
 have d2:=hD2.c2
 have d3:=hD2.c3
 have HAL:=Lib.hid hal4
 clear hal4 hD hD2
 obtain ⟨X,hX⟩ : ∃ X,(a == c.core) = X:=⟨_,rfl⟩
 obtain ⟨Y,hY⟩ : ∃ Y,(b == c.fd) = Y:=⟨_,rfl⟩
 rw [hX,hY]
 go_enter Tryz.func95,Tryz.ntmps95
 cases X
 ·go_wp2_with fail
  go_quiet (fail)
  go_wp2_with fail
  go_ret
  exact ⟨by first | rfl | simp,Cv.next HAL.out (Cv.drewN_below (Below.refl _ _) _)⟩
 ·go_wp2_with fail
  go_quiet (fail)
  go_wp2_with fail
  go_ret
  exact ⟨by first | rfl | simp,Cv.next HAL.out (Cv.drewN_below (Below.refl _ _) _)⟩
set_option maxRecDepth 100000 in
set_option maxHeartbeats 4000000 in
theorem indexfile_any (q p : Nat) (c : Ca) (fd num : Int) (dir : Bool) (data : ByteArray) (nv : Value) (xs : List Ds) (A : Option Addr) (n cp : Nat) (bx : Nat) (w : World) (hI : DescsAt none w A n xs) (hn : n ≤ 1099511627776) (hb : w.cell? ⟨bx,0,.none⟩ = some (.pointer (some ⟨q,0,none⟩))) (hblt : bx < w.heap.size) (hD : DoerAt w q p c fd num dir data nv) :
  Calls Tryz.prog 48 #[.slice A n cp,.func (.func 95) #[] #[.pointer (some ⟨bx,0,.none⟩)]] w fun e w' => e = .returned (.int .i64 (fdI xs c.core c.fd)) ∧ Below w.heap.size w w':=by
 obtain ⟨R,hR⟩ : ∃ R,fdP xs c.core c.fd = R:=⟨_,rfl⟩
 unfold fdI
 rw [hR]
 have HI:=Lib.hid hI
 have HR:=Lib.hid hR
 have HD:=Lib.hid hD
 clear hI hR hD
 go_enter Tryz.func48,Tryz.ntmps48
 go_wp2_with fail
 go_loopw [8] (fun j wr => ∃ r : Nat,j = .int .i64 r ∧ r ≤ n ∧ Below w.heap.size w wr ∧ (fdP (xs.drop r) c.core c.fd).map (· + r) = R) (fun j _ => n - (intOf j).toNat)
 case atStart => exact ⟨0,rfl,by omega,Below.refl _ _,by rw [List.drop_zero,HR.out];cases R <;> rfl⟩
 case round =>
  obtain ⟨r,rfl,hq,hbel,hc⟩:=hrel
  have HB:=Lib.hid hbel
  have HIr:=Lib.hid (HI.out.below hbel)
  have hbr:=(hbel.cell (p:=⟨bx,0,.none⟩) hblt).trans hb
  have hbl : bx < wr.heap.size:=Nat.lt_of_lt_of_le hblt hbel.size
  have HBR:=Lib.hid hbr
  have HDR:=Lib.hid (HD.out.below hbel)
  clear hbel hbr
  by_cases hlt : r < n
  ·obtain ⟨g,off,y,rfl,hg,hy,hd,hmem,e0,e1,e2⟩:=HIr.out.get r hlt
   rw [fdP_drop xs _ _ r y hd] at hc
   have HC:=Lib.hid hc
   have k0 : (0 : Int) ≤ (r : Int):=by omega
   clear hc hd hmem hy
   go_wp2_with fail
   refine (file1_any q p c fd num dir data nv y.core y.fd y.num bx _ HBR.out hbl HDR.out).mono ?_
   rintro e5 w5 ⟨rfl,hb5⟩
   have HB5:=Lib.hid (HB.out.trans (hb5.mono HB.out.size))
   clear hb5 e0 e1 e2
   obtain ⟨bb,hbb⟩ : ∃ bb,(y.core == c.core && y.fd == c.fd) = bb:=⟨_,rfl⟩
   rw [hbb]
   have hc:=HC.out
   cases bb
   ·have hnx : ¬ (y.core = c.core ∧ y.fd = c.fd):=fun h => by rw [h.1,h.2] at hbb;simp at hbb
    rw [if_neg hnx] at hc
    have HC2:=Lib.hid hc
    clear hc hbb hnx
    go_wp2_with fail
    go_roundw
    case rel => exact ⟨r + 1,by go_num,by omega,HB5.out,by
     rw [← HC2.out]
     cases fdP (xs.drop (r + 1)) c.core c.fd
     ·rfl
     ·simp;omega⟩
    case measure => simp [intOf];omega
   ·have hnx : y.core = c.core ∧ y.fd = c.fd:=by simpa using hbb
    rw [if_pos hnx] at hc
    have HC2:=Lib.hid hc
    clear hc hbb hnx
    go_wp2_with fail
    go_ret
    have h:=HC2.out
    simp at h
    subst h
    exact ⟨rfl,HB5.out⟩
  ·have hnil : xs.drop r = []:=List.drop_eq_nil_of_le (by have:=HI.out.1;omega)
   rw [hnil,fdP] at hc
   have HC:=Lib.hid hc
   clear hc hnil
   go_wp2_with fail
   go_ret
   exact ⟨by rw [← HC.out];rfl,HB.out⟩
set_option maxRecDepth 100000 in
set_option maxHeartbeats 8000000 in
theorem mfile_any (B q p : Nat) (s : St) (c : Ca) (fd num : Int) (dir : Bool) (data : ByteArray) (nv : Value) (zs : List (Ino × Value)) (vI vO vM : Value) (w : World) (hD : DoerAt w q p c fd num dir data nv) (hO : Own2 B w p s zs vI vO vM) (hg : Good s) :
  Calls Tryz.prog 59 #[.pointer (some ⟨q,0,.none⟩)] w fun e w' => Below w.heap.size w w' ∧ ((fdV s.opn c.core c.fd = 0 ∧ e = .panicked (faultP 4)) ∨ (fdV s.opn c.core c.fd ≠ 0 ∧ ∃ g n d i x k,vI = .slice (some ⟨g,0,none⟩) n d ∧ s.inos[i]? = some x ∧ x.num = fdV s.opn c.core c.fd ∧ x.dir = false ∧ fdP s.opn c.core c.fd = some k ∧ e = .returned (.tuple #[.pointer (some ⟨g,i * 4,none⟩),.int .i64 (k : Nat)]))):=by
 obtain ⟨W,hW⟩ : ∃ W,w.alloc (.cells #[.pointer (some ⟨q,0,none⟩)] 70) = W:=⟨_,rfl⟩
 have hal : Below w.heap.size w W:=by rw [← hW];exact (Below.refl _ _).alloc (Nat.le_refl _) _
 have hsz : W.heap.size = w.heap.size + 1:=by rw [← hW];simp
 have bc : W.cell? ⟨w.heap.size,0,.none⟩ = some (.pointer (some ⟨q,0,none⟩)):=by rw [← hW];exact World.cell?_alloc_mark w _ _ (0,0) _
 have hlt : w.heap.size < W.heap.size:=by omega
 have hOW:=hO.below hal
 have hDW:=hD.below hal
 have d0:=hDW.c0
 have s1:=hOW.s1
 obtain ⟨E,cE,hvO,hEok,hED⟩:=hOW.rowO.descs
 rw [hvO] at s1
 have hol : s.opn.length ≤ 32:=hg.opn_len
 have HO:=Lib.hid hOW
 have HD:=Lib.hid hDW
 have HG:=Lib.hid hg
 have HED:=Lib.hid hED
 have HAL:=Lib.hid hal
 obtain ⟨m,hm⟩ : ∃ m,s.opn.length = m:=⟨_,rfl⟩
 rw [hm] at s1 hED hol
 have HMM:=Lib.hid hm
 have HED:=Lib.hid hED
 obtain ⟨NU,hNU⟩ : ∃ NU,fdV s.opn c.core c.fd = NU:=⟨_,rfl⟩
 rw [hNU]
 have HNU:=Lib.hid hNU
 have hq:=hDW.lt
 have hp:=hOW.lt
 clear hO hD hg hal hsz hOW hDW hED hEok hvO hm hNU
 go_enter Tryz.func59,Tryz.ntmps59
 go_wp2_with fail
 refine (indexfile_any q p c fd num dir data nv s.opn E m cE w.heap.size W HED.out (by omega) bc hlt HD.out).mono ?_
 rintro e1 w1 ⟨rfl,hb1⟩
 have HB1:=Lib.hid hb1
 have bc1:=(hb1.cell (p:=⟨w.heap.size,0,.none⟩) hlt).trans bc
 have d1:=(hb1.cell (p:=⟨q,0,.none⟩) hq).trans d0
 have s11:=(hb1.cell (p:=⟨p,1,.none⟩) hp).trans s1
 have HO1:=Lib.hid (HO.out.below hb1)
 have HED1:=Lib.hid (HED.out.below hb1)
 clear hb1 bc d0 s1 hW
 unfold fdI
 cases hP : fdP s.opn c.core c.fd with
 | none =>
  have h0:=(fdP_none _ _ _ hP).1
  rw [HNU.out] at h0
  subst h0
  have HPP:=Lib.hid hP
  clear hP
  go_wp2_with fail
  refine (throw_yes _ _).mono ?_
  rintro e3 w3 ⟨rfl,rfl⟩
  go_wp2_with fail
  first | exact panic_end rfl ⟨Cv.next HAL.out HB1.out,.inl ⟨rfl,rfl⟩⟩ | exact panic_end rfl ⟨Cv.next HAL.out HB1.out,rfl⟩
 | some k =>
  obtain ⟨y,hy,_,_,hyn⟩:=fdP_some _ _ _ _ hP
  rw [HNU.out] at hyn
  obtain ⟨_,_,_,_,i,x,hat,hx,hxn,hxd⟩:=HG.out.opens y (List.mem_of_getElem? hy)
  have hkm : k < m:=by have:=(List.getElem?_eq_some_iff.1 hy).1;have:=HMM.out;omega
  obtain ⟨ge,oe,y',hEE,hge,hy',_,_,f0,f1,f2⟩:=HED1.out.get k hkm
  have ex : y = y':=by rw [hy] at hy';exact Option.some.inj hy'
  subst ex
  subst hEE
  obtain ⟨g,cc,E2,m2,d2,hv,_,hgl,_,hil,_⟩:=HO1.out.at_ hx
  have p1:=HO1.out.s0
  rw [hv] at p1
  have hne : NU ≠ 0:=by
   have:=(HG.out.num_range (num:=y.num) (by omega)).1
   omega
  have HAT:=Lib.hid hat
  have HX:=Lib.hid hx
  have HXN:=Lib.hid (hxn.trans hyn.symm)
  have HPP:=Lib.hid hP
  have k0 : (0 : Int) ≤ (k : Int):=by omega
  have k1 : (k : Int) < (m : Int):=by omega
  have k2 : decide ((k : Int) < 0) = false:=by rw [decide_eq_false_iff_not];omega
  have i0 : (0 : Int) ≤ (i : Int):=by omega
  have i1 : (i : Int) < (s.inos.length : Int):=by omega
  have HV:=Lib.hid hv
  have HXD:=Lib.hid hxd
  have HNE:=Lib.hid hne
  obtain ⟨yn,hynn⟩ : ∃ yn,y.num = yn:=⟨_,rfl⟩
  rw [hynn] at f2
  have HATN : Hid (atV s.inos yn = (i : Int)):=by rw [← hynn];exact hat
  clear hat hx hxn hyn hP hy hy' hv hne hynn hxd
  go_wp2_with fail
  refine (throw_no _ _).mono ?_
  rintro e3 w3 ⟨rfl,rfl⟩
  have hX2 : ∀ (Y : Ext w1) (p : Addr),(w1.cell? p).isSome = true → Y.w.cell? p = w1.cell? p:=fun Y p h => Y.cell p h
  have hfind : ∀ Y : Ext w1,Calls Tryz.prog 68 #[.pointer (some ⟨p,0,.none⟩),.int .i64 yn] Y.w fun e w' => e = .returned (.int .i64 (i : Int)) ∧ Below Y.w.heap.size Y.w w':=fun Y => by
   have h:=mfind_any p s yn Y.w (HO1.out.ptr.below Y.bel) HG.out.riseI
   rw [HATN.out] at h
   exact h
  have HF:=Lib.hid hfind
  clear hfind
  go_wp2_with fail
  refine wp_region_ext (by kernel_rfl) (by kernel_rfl) ?_
  repeat (go_big_quiet_step (first | (go_at_call 68;rename_i Y;exact Calls.ext_of (HF.out Y))))
  refine wpQuiet_nil ?_
  rintro w7 ⟨Y,rfl⟩
  have HBY:=Lib.hid (Cv.next HAL.out (Cv.next HB1.out Y.bel))
  generalize hZe : Y.w = Z at *
  clear hX2
  go_wp2_with fail
  go_ret2
  first | exact ⟨HBY.out,.inr ⟨HNE.out,g,_,cc,i,x,k,HV.out,HX.out,HXN.out,HXD.out,HPP.out,rfl⟩⟩ | trace_state
set_option maxRecDepth 100000 in
set_option maxHeartbeats 4000000 in
theorem mrun_0 (B q p : Nat) (s : St) (c : Ca) (zs : List (Ino × Value)) (vI vO vM : Value) (R : St × Re) (w : World) (hN : Now B q p s c zs vI vO vM w w) (hk : c.kind = 0) (h : Calls Tryz.prog 57 #[.pointer (some ⟨q,0,.none⟩)] w (Ran B q p c R w)) :
  Calls Tryz.prog 34 #[.pointer (some ⟨q,0,.none⟩)] w (Ran B q p c R w):=by
 have d1:=hN.doer.c1
 rw [hk] at d1
 clear hN hk
 go_enter Tryz.func34,Tryz.ntmps34
 go_wp2_with fail
 refine h.mono ?_
 rintro e1 w1 ⟨hb,⟨hc,rfl⟩ | ⟨hc,rfl,ho,hd⟩⟩
 ·go_simp
  exact panic_end rfl ⟨hb,.inl ⟨hc,rfl⟩⟩
 ·have HX:=Lib.hid (And.intro hb (And.intro hc (And.intro ho hd)))
  clear hb hc ho hd
  go_wp2_with fail
  go_returns
  exact ⟨HX.out.1,.inr ⟨HX.out.2.1,rfl,HX.out.2.2.1,HX.out.2.2.2⟩⟩
set_option maxRecDepth 100000 in
set_option maxHeartbeats 4000000 in
theorem mrun_1 (B q p : Nat) (s : St) (c : Ca) (zs : List (Ino × Value)) (vI vO vM : Value) (R : St × Re) (w : World) (hN : Now B q p s c zs vI vO vM w w) (hk : c.kind = 1) (h : Calls Tryz.prog 57 #[.pointer (some ⟨q,0,.none⟩)] w (Ran B q p c R w)) :
  Calls Tryz.prog 34 #[.pointer (some ⟨q,0,.none⟩)] w (Ran B q p c R w):=by
 have d1:=hN.doer.c1
 rw [hk] at d1
 clear hN hk
 go_enter Tryz.func34,Tryz.ntmps34
 go_wp2_with fail
 refine h.mono ?_
 rintro e1 w1 ⟨hb,⟨hc,rfl⟩ | ⟨hc,rfl,ho,hd⟩⟩
 ·go_simp
  exact panic_end rfl ⟨hb,.inl ⟨hc,rfl⟩⟩
 ·have HX:=Lib.hid (And.intro hb (And.intro hc (And.intro ho hd)))
  clear hb hc ho hd
  go_wp2_with fail
  go_returns
  exact ⟨HX.out.1,.inr ⟨HX.out.2.1,rfl,HX.out.2.2.1,HX.out.2.2.2⟩⟩
set_option maxRecDepth 100000 in
set_option maxHeartbeats 4000000 in
theorem mrun_2 (B q p : Nat) (s : St) (c : Ca) (zs : List (Ino × Value)) (vI vO vM : Value) (R : St × Re) (w : World) (hN : Now B q p s c zs vI vO vM w w) (hk : c.kind = 2) (h : Calls Tryz.prog 58 #[.pointer (some ⟨q,0,.none⟩)] w (Ran B q p c R w)) :
  Calls Tryz.prog 34 #[.pointer (some ⟨q,0,.none⟩)] w (Ran B q p c R w):=by
 have d1:=hN.doer.c1
 rw [hk] at d1
 clear hN hk
 go_enter Tryz.func34,Tryz.ntmps34
 go_wp2_with fail
 refine h.mono ?_
 rintro e1 w1 ⟨hb,⟨hc,rfl⟩ | ⟨hc,rfl,ho,hd⟩⟩
 ·go_simp
  exact panic_end rfl ⟨hb,.inl ⟨hc,rfl⟩⟩
 ·have HX:=Lib.hid (And.intro hb (And.intro hc (And.intro ho hd)))
  clear hb hc ho hd
  go_wp2_with fail
  go_returns
  exact ⟨HX.out.1,.inr ⟨HX.out.2.1,rfl,HX.out.2.2.1,HX.out.2.2.2⟩⟩
set_option maxRecDepth 100000 in
set_option maxHeartbeats 4000000 in
theorem mrun_4 (B q p : Nat) (s : St) (c : Ca) (zs : List (Ino × Value)) (vI vO vM : Value) (R : St × Re) (w : World) (hN : Now B q p s c zs vI vO vM w w) (hk : c.kind = 4) (h : Calls Tryz.prog 61 #[.pointer (some ⟨q,0,.none⟩)] w (Ran B q p c R w)) :
  Calls Tryz.prog 34 #[.pointer (some ⟨q,0,.none⟩)] w (Ran B q p c R w):=by
 have d1:=hN.doer.c1
 rw [hk] at d1
 clear hN hk
 go_enter Tryz.func34,Tryz.ntmps34
 go_wp2_with fail
 refine h.mono ?_
 rintro e1 w1 ⟨hb,⟨hc,rfl⟩ | ⟨hc,rfl,ho,hd⟩⟩
 ·go_simp
  exact panic_end rfl ⟨hb,.inl ⟨hc,rfl⟩⟩
 ·have HX:=Lib.hid (And.intro hb (And.intro hc (And.intro ho hd)))
  clear hb hc ho hd
  go_wp2_with fail
  go_returns
  exact ⟨HX.out.1,.inr ⟨HX.out.2.1,rfl,HX.out.2.2.1,HX.out.2.2.2⟩⟩
set_option maxRecDepth 100000 in
set_option maxHeartbeats 4000000 in
theorem mrun_5 (B q p : Nat) (s : St) (c : Ca) (zs : List (Ino × Value)) (vI vO vM : Value) (R : St × Re) (w : World) (hN : Now B q p s c zs vI vO vM w w) (hk : c.kind = 5) (h : Calls Tryz.prog 61 #[.pointer (some ⟨q,0,.none⟩)] w (Ran B q p c R w)) :
  Calls Tryz.prog 34 #[.pointer (some ⟨q,0,.none⟩)] w (Ran B q p c R w):=by
 have d1:=hN.doer.c1
 rw [hk] at d1
 clear hN hk
 go_enter Tryz.func34,Tryz.ntmps34
 go_wp2_with fail
 refine h.mono ?_
 rintro e1 w1 ⟨hb,⟨hc,rfl⟩ | ⟨hc,rfl,ho,hd⟩⟩
 ·go_simp
  exact panic_end rfl ⟨hb,.inl ⟨hc,rfl⟩⟩
 ·have HX:=Lib.hid (And.intro hb (And.intro hc (And.intro ho hd)))
  clear hb hc ho hd
  go_wp2_with fail
  go_returns
  exact ⟨HX.out.1,.inr ⟨HX.out.2.1,rfl,HX.out.2.2.1,HX.out.2.2.2⟩⟩
set_option maxRecDepth 100000 in
set_option maxHeartbeats 4000000 in
theorem mrun_6 (B q p : Nat) (s : St) (c : Ca) (zs : List (Ino × Value)) (vI vO vM : Value) (R : St × Re) (w : World) (hN : Now B q p s c zs vI vO vM w w) (hk : c.kind = 6) (h : Calls Tryz.prog 61 #[.pointer (some ⟨q,0,.none⟩)] w (Ran B q p c R w)) :
  Calls Tryz.prog 34 #[.pointer (some ⟨q,0,.none⟩)] w (Ran B q p c R w):=by
 have d1:=hN.doer.c1
 rw [hk] at d1
 clear hN hk
 go_enter Tryz.func34,Tryz.ntmps34
 go_wp2_with fail
 refine h.mono ?_
 rintro e1 w1 ⟨hb,⟨hc,rfl⟩ | ⟨hc,rfl,ho,hd⟩⟩
 ·go_simp
  exact panic_end rfl ⟨hb,.inl ⟨hc,rfl⟩⟩
 ·have HX:=Lib.hid (And.intro hb (And.intro hc (And.intro ho hd)))
  clear hb hc ho hd
  go_wp2_with fail
  go_returns
  exact ⟨HX.out.1,.inr ⟨HX.out.2.1,rfl,HX.out.2.2.1,HX.out.2.2.2⟩⟩
set_option maxRecDepth 100000 in
set_option maxHeartbeats 4000000 in
theorem mrun_7 (B q p : Nat) (s : St) (c : Ca) (zs : List (Ino × Value)) (vI vO vM : Value) (R : St × Re) (w : World) (hN : Now B q p s c zs vI vO vM w w) (hk : c.kind = 7) (h : Calls Tryz.prog 61 #[.pointer (some ⟨q,0,.none⟩)] w (Ran B q p c R w)) :
  Calls Tryz.prog 34 #[.pointer (some ⟨q,0,.none⟩)] w (Ran B q p c R w):=by
 have d1:=hN.doer.c1
 rw [hk] at d1
 clear hN hk
 go_enter Tryz.func34,Tryz.ntmps34
 go_wp2_with fail
 refine h.mono ?_
 rintro e1 w1 ⟨hb,⟨hc,rfl⟩ | ⟨hc,rfl,ho,hd⟩⟩
 ·go_simp
  exact panic_end rfl ⟨hb,.inl ⟨hc,rfl⟩⟩
 ·have HX:=Lib.hid (And.intro hb (And.intro hc (And.intro ho hd)))
  clear hb hc ho hd
  go_wp2_with fail
  go_returns
  exact ⟨HX.out.1,.inr ⟨HX.out.2.1,rfl,HX.out.2.2.1,HX.out.2.2.2⟩⟩
set_option maxRecDepth 100000 in
set_option maxHeartbeats 4000000 in
theorem mrun_8 (B q p : Nat) (s : St) (c : Ca) (zs : List (Ino × Value)) (vI vO vM : Value) (R : St × Re) (w : World) (hN : Now B q p s c zs vI vO vM w w) (hk : c.kind = 8) (h : Calls Tryz.prog 62 #[.pointer (some ⟨q,0,.none⟩)] w (Ran B q p c R w)) :
  Calls Tryz.prog 34 #[.pointer (some ⟨q,0,.none⟩)] w (Ran B q p c R w):=by
 have d1:=hN.doer.c1
 rw [hk] at d1
 clear hN hk
 go_enter Tryz.func34,Tryz.ntmps34
 go_wp2_with fail
 refine h.mono ?_
 rintro e1 w1 ⟨hb,⟨hc,rfl⟩ | ⟨hc,rfl,ho,hd⟩⟩
 ·go_simp
  exact panic_end rfl ⟨hb,.inl ⟨hc,rfl⟩⟩
 ·have HX:=Lib.hid (And.intro hb (And.intro hc (And.intro ho hd)))
  clear hb hc ho hd
  go_wp2_with fail
  go_returns
  exact ⟨HX.out.1,.inr ⟨HX.out.2.1,rfl,HX.out.2.2.1,HX.out.2.2.2⟩⟩
set_option maxRecDepth 100000 in
set_option maxHeartbeats 4000000 in
theorem mrun_9 (B q p : Nat) (s : St) (c : Ca) (zs : List (Ino × Value)) (vI vO vM : Value) (R : St × Re) (w : World) (hN : Now B q p s c zs vI vO vM w w) (hk : c.kind = 9) (h : Calls Tryz.prog 63 #[.pointer (some ⟨q,0,.none⟩)] w (Ran B q p c R w)) :
  Calls Tryz.prog 34 #[.pointer (some ⟨q,0,.none⟩)] w (Ran B q p c R w):=by
 have d1:=hN.doer.c1
 rw [hk] at d1
 clear hN hk
 go_enter Tryz.func34,Tryz.ntmps34
 go_wp2_with fail
 refine h.mono ?_
 rintro e1 w1 ⟨hb,⟨hc,rfl⟩ | ⟨hc,rfl,ho,hd⟩⟩
 ·go_simp
  exact panic_end rfl ⟨hb,.inl ⟨hc,rfl⟩⟩
 ·have HX:=Lib.hid (And.intro hb (And.intro hc (And.intro ho hd)))
  clear hb hc ho hd
  go_wp2_with fail
  go_returns
  exact ⟨HX.out.1,.inr ⟨HX.out.2.1,rfl,HX.out.2.2.1,HX.out.2.2.2⟩⟩
set_option maxRecDepth 100000 in
set_option maxHeartbeats 4000000 in
theorem mrun_10 (B q p : Nat) (s : St) (c : Ca) (zs : List (Ino × Value)) (vI vO vM : Value) (R : St × Re) (w : World) (hN : Now B q p s c zs vI vO vM w w) (hk : c.kind = 10) (h : Calls Tryz.prog 63 #[.pointer (some ⟨q,0,.none⟩)] w (Ran B q p c R w)) :
  Calls Tryz.prog 34 #[.pointer (some ⟨q,0,.none⟩)] w (Ran B q p c R w):=by
 have d1:=hN.doer.c1
 rw [hk] at d1
 clear hN hk
 go_enter Tryz.func34,Tryz.ntmps34
 go_wp2_with fail
 refine h.mono ?_
 rintro e1 w1 ⟨hb,⟨hc,rfl⟩ | ⟨hc,rfl,ho,hd⟩⟩
 ·go_simp
  exact panic_end rfl ⟨hb,.inl ⟨hc,rfl⟩⟩
 ·have HX:=Lib.hid (And.intro hb (And.intro hc (And.intro ho hd)))
  clear hb hc ho hd
  go_wp2_with fail
  go_returns
  exact ⟨HX.out.1,.inr ⟨HX.out.2.1,rfl,HX.out.2.2.1,HX.out.2.2.2⟩⟩
set_option maxRecDepth 100000 in
set_option maxHeartbeats 4000000 in
theorem mrun_11 (B q p : Nat) (s : St) (c : Ca) (zs : List (Ino × Value)) (vI vO vM : Value) (R : St × Re) (w : World) (hN : Now B q p s c zs vI vO vM w w) (hk : c.kind = 11) (h : Calls Tryz.prog 64 #[.pointer (some ⟨q,0,.none⟩)] w (Ran B q p c R w)) :
  Calls Tryz.prog 34 #[.pointer (some ⟨q,0,.none⟩)] w (Ran B q p c R w):=by
 have d1:=hN.doer.c1
 rw [hk] at d1
 clear hN hk
 go_enter Tryz.func34,Tryz.ntmps34
 go_wp2_with fail
 refine h.mono ?_
 rintro e1 w1 ⟨hb,⟨hc,rfl⟩ | ⟨hc,rfl,ho,hd⟩⟩
 ·go_simp
  exact panic_end rfl ⟨hb,.inl ⟨hc,rfl⟩⟩
 ·have HX:=Lib.hid (And.intro hb (And.intro hc (And.intro ho hd)))
  clear hb hc ho hd
  go_wp2_with fail
  go_returns
  exact ⟨HX.out.1,.inr ⟨HX.out.2.1,rfl,HX.out.2.2.1,HX.out.2.2.2⟩⟩
set_option maxRecDepth 100000 in
set_option maxHeartbeats 4000000 in
theorem mrun_12 (B q p : Nat) (s : St) (c : Ca) (zs : List (Ino × Value)) (vI vO vM : Value) (R : St × Re) (w : World) (hN : Now B q p s c zs vI vO vM w w) (hk : c.kind = 12) (h : Calls Tryz.prog 65 #[.pointer (some ⟨q,0,.none⟩)] w (Ran B q p c R w)) :
  Calls Tryz.prog 34 #[.pointer (some ⟨q,0,.none⟩)] w (Ran B q p c R w):=by
 have d1:=hN.doer.c1
 rw [hk] at d1
 clear hN hk
 go_enter Tryz.func34,Tryz.ntmps34
 go_wp2_with fail
 refine h.mono ?_
 rintro e1 w1 ⟨hb,⟨hc,rfl⟩ | ⟨hc,rfl,ho,hd⟩⟩
 ·go_simp
  exact panic_end rfl ⟨hb,.inl ⟨hc,rfl⟩⟩
 ·have HX:=Lib.hid (And.intro hb (And.intro hc (And.intro ho hd)))
  clear hb hc ho hd
  go_wp2_with fail
  go_returns
  exact ⟨HX.out.1,.inr ⟨HX.out.2.1,rfl,HX.out.2.2.1,HX.out.2.2.2⟩⟩
set_option maxRecDepth 100000 in
set_option maxHeartbeats 4000000 in
theorem mrun_13 (B q p : Nat) (s : St) (c : Ca) (zs : List (Ino × Value)) (vI vO vM : Value) (R : St × Re) (w : World) (hN : Now B q p s c zs vI vO vM w w) (hk : c.kind = 13) (h : Calls Tryz.prog 65 #[.pointer (some ⟨q,0,.none⟩)] w (Ran B q p c R w)) :
  Calls Tryz.prog 34 #[.pointer (some ⟨q,0,.none⟩)] w (Ran B q p c R w):=by
 have d1:=hN.doer.c1
 rw [hk] at d1
 clear hN hk
 go_enter Tryz.func34,Tryz.ntmps34
 go_wp2_with fail
 refine h.mono ?_
 rintro e1 w1 ⟨hb,⟨hc,rfl⟩ | ⟨hc,rfl,ho,hd⟩⟩
 ·go_simp
  exact panic_end rfl ⟨hb,.inl ⟨hc,rfl⟩⟩
 ·have HX:=Lib.hid (And.intro hb (And.intro hc (And.intro ho hd)))
  clear hb hc ho hd
  go_wp2_with fail
  go_returns
  exact ⟨HX.out.1,.inr ⟨HX.out.2.1,rfl,HX.out.2.2.1,HX.out.2.2.2⟩⟩
set_option maxRecDepth 100000 in
set_option maxHeartbeats 4000000 in
theorem mrun_14 (B q p : Nat) (s : St) (c : Ca) (zs : List (Ino × Value)) (vI vO vM : Value) (R : St × Re) (w : World) (hN : Now B q p s c zs vI vO vM w w) (hk : c.kind = 14) (h : Calls Tryz.prog 65 #[.pointer (some ⟨q,0,.none⟩)] w (Ran B q p c R w)) :
  Calls Tryz.prog 34 #[.pointer (some ⟨q,0,.none⟩)] w (Ran B q p c R w):=by
 have d1:=hN.doer.c1
 rw [hk] at d1
 clear hN hk
 go_enter Tryz.func34,Tryz.ntmps34
 go_wp2_with fail
 refine h.mono ?_
 rintro e1 w1 ⟨hb,⟨hc,rfl⟩ | ⟨hc,rfl,ho,hd⟩⟩
 ·go_simp
  exact panic_end rfl ⟨hb,.inl ⟨hc,rfl⟩⟩
 ·have HX:=Lib.hid (And.intro hb (And.intro hc (And.intro ho hd)))
  clear hb hc ho hd
  go_wp2_with fail
  go_returns
  exact ⟨HX.out.1,.inr ⟨HX.out.2.1,rfl,HX.out.2.2.1,HX.out.2.2.2⟩⟩
set_option maxRecDepth 100000 in
set_option maxHeartbeats 4000000 in
theorem mrun_16 (B q p : Nat) (s : St) (c : Ca) (zs : List (Ino × Value)) (vI vO vM : Value) (w : World) (hN : Now B q p s c zs vI vO vM w w) (hk : c.kind = 16) :
  Calls Tryz.prog 34 #[.pointer (some ⟨q,0,.none⟩)] w (Ran B q p c (s,{}) w):=by
 have d1:=hN.doer.c1
 rw [hk] at d1
 have HN:=Lib.hid hN
 clear hN hk
 go_enter Tryz.func34,Tryz.ntmps34
 go_wp2_with fail
 go_returns
 exact ⟨HN.out.low,.inr ⟨rfl,rfl,⟨zs,vI,vO,vM,HN.out.own⟩,.slice none 0 0,HN.out.doer,⟨rfl,.inl ⟨none,rfl,rfl⟩⟩⟩⟩
set_option maxRecDepth 100000 in
set_option maxHeartbeats 4000000 in
theorem mrun_15 (B q p : Nat) (s : St) (c : Ca) (zs : List (Ino × Value)) (vI vO vM : Value) (w : World) (hN : Now B q p s c zs vI vO vM w w) (hg : Good s) (hk : c.kind = 15) :
  Calls Tryz.prog 34 #[.pointer (some ⟨q,0,.none⟩)] w (Ran B q p c (byFdV s c) w):=by
 obtain ⟨R,hR⟩ : ∃ R,byFdV s c = R:=⟨_,rfl⟩
 rw [hR]
 unfold byFdV at hR
 have d1:=hN.doer.c1
 rw [hk] at d1
 have HN:=Lib.hid hN
 have HR:=Lib.hid hR
 have HG:=Lib.hid hg
 have HK:=Lib.hid hk
 clear hN hk hR hg
 go_enter Tryz.func34,Tryz.ntmps34
 go_wp2_with fail
 refine (mfile_any B q p s c 0 0 false ⟨#[]⟩ (.slice none 0 0) zs vI vO vM w HN.out.doer HN.out.own HG.out).mono ?_
 rintro e1 w1 ⟨hb1,⟨h0,rfl⟩ | ⟨h0,g,n,d,i,x,k,hvI,hx,hxn,hxd,hfp,rfl⟩⟩
 ·have hr:=HR.out
  rw [if_pos h0] at hr
  go_simp
  exact panic_end rfl ((HN.out.step hb1).fail (by rw [← hr];simp) (by rw [← hr]))
 have hr:=HR.out
 have hk:=HK.out
 rw [if_neg h0,if_neg (by omega),if_neg (by omega),if_neg (by omega),if_neg (by omega),if_neg (by omega)] at hr
 have HN1:=Lib.hid (HN.out.step hb1)
 have HRF:=Lib.hid hr
 clear hr hb1 hvI hx hxn hfp h0 hk
 go_wp2_with fail
 go_returns
 exact ⟨HN1.out.low,.inr ⟨by rw [← HRF.out],rfl,⟨zs,vI,vO,vM,by rw [← HRF.out];exact HN1.out.own⟩,.slice none 0 0,by rw [← HRF.out];exact HN1.out.doer,by rw [← HRF.out];exact ⟨rfl,.inl ⟨none,rfl,rfl⟩⟩⟩⟩
end Go.Proofs.YtndcloohcfhejaaGreat
