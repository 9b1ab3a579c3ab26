/- Parts of the proof, side by side: FsByFdW, FsMay. -/
import Derived.Test.YtndcloohcfhejaaGreatM10
import Derived.Test.YtndcloohcfhejaaGreatM12
import Derived.Lib.MinMax
import Derived.Lib.LazyBuf
import Derived.Test.YtndcloohcfhejaaGreatM00
set_option linter.unusedVariables false
set_option linter.unusedSimpArgs false
namespace Go.Proofs.YtndcloohcfhejaaGreat
open Go.RowKit
theorem size_byte (w : World) : (Go.sizeOf 5).run Tryz.prog w = .ok 1 w:=by
 obtain ⟨ib,hib,hz0,hz1,hz2⟩:=info_parts infoByte
 simp [Go.sizeOf,typeInfo,hib,hz1]
theorem size_setC (g : Nat) : ∀ (vs : List Value) (o : Nat) (w : World),(w.setCells g o vs).heap.size = w.heap.size
 | [],_,_ => rfl
 | v :: r,o,w => by rw [World.setCells,size_setC g r];simp [World.setCell]
theorem lay_get (l d : List UInt8) (o j : Nat) (ho : o + d.length ≤ l.length) : (l.take o ++ d ++ l.drop (o + d.length))[j]? = if o ≤ j ∧ j < o + d.length then d[j - o]? else l[j]?:=by
 have htl : (l.take o).length = o:=by rw [List.length_take];omega
 rw [List.append_assoc]
 by_cases h1 : j < o
 ·rw [if_neg (by omega),List.getElem?_append_left (by omega),List.getElem?_take,if_pos h1]
 ·rw [List.getElem?_append_right (by omega),htl]
  by_cases h2 : j < o + d.length
  ·rw [if_pos (by omega),List.getElem?_append_left (by omega)]
  ·rw [if_neg (by omega),List.getElem?_append_right (by omega),List.getElem?_drop]
   congr 1
   omega
theorem byterow_lay {w : World} {g : Nat} {l : List UInt8} (h : Cv.ByteRow w g l) (o : Nat) (d : List UInt8) (ho : o + d.length ≤ l.length) :
  Cv.ByteRow (w.setCells g o (d.map fun x => Value.int .u8 (x.toNat : Int))) g (l.take o ++ d ++ l.drop (o + d.length)):=by
 have hlen : (l.take o ++ d ++ l.drop (o + d.length)).length = l.length:=by
  rw [List.length_append,List.length_append,List.length_take,List.length_drop]
  omega
 have hml : (d.map fun x => Value.int .u8 (x.toNat : Int)).length = d.length:=List.length_map _
 refine ⟨by rw [size_setC];exact h.1,fun j hj => ⟨?_,?_⟩⟩
 ·rw [hlen] at hj
  rw [List.getD_eq_getElem?_getD,lay_get l d o j ho]
  by_cases h1 : o ≤ j ∧ j < o + d.length
  ·have h2:=World.cell?_setCells_in g (d.map fun x => Value.int .u8 (x.toNat : Int)) o w (fun k hk => by
    rw [hml] at hk
    rw [(h.2 (o + k) (by omega)).1]
    rfl) (j - o) (by rw [hml];omega)
   rw [show o + (j - o) = j by omega] at h2
   rw [h2,if_pos h1,List.getElem_map,List.getElem?_eq_getElem (show j - o < d.length by omega)]
   rfl
  ·rw [World.cell?_setCells_out g _ o w ⟨g,j,none⟩ (fun _ _ => by rw [hml];show j < o ∨ _ ≤ j;omega),(h.2 j hj).1,if_neg h1,List.getD_eq_getElem?_getD]
 ·rw [World.frozen?_setCells]
  rw [hlen] at hj
  exact (h.2 j hj).2
set_option maxRecDepth 100000 in
set_option maxHeartbeats 16000000 in
theorem byfd_write (B p : Nat) (s : St) (core fd : Int) (o : Nat) (num : Int) (path path2 data : ByteArray) (NU : Int) (i : Nat) (x : Ino) (w : World) (h : Own B w p s) (hB : B ≤ w.heap.size) (hfd : fdV s.opn core fd = NU) (hnu : NU ≠ 0) (hat : atV s.inos NU = (i : Int)) (hx : s.inos[i]? = some x) (hxs : x.data.size ≤ 256) (ho : o ≤ 256) (hod : o + data.size ≤ 256) (hd0 : data.size ≠ 0) :
  Calls Tryz.prog 83 #[.pointer (some ⟨p,0,.none⟩),caV ⟨5,core,fd,(o : Int),num,path,path2,data⟩] w fun e w' => e = .returned (resV { num:=data.size }) ∧ Own B w' p { s with inos:=s.inos.set i { x with data:=txt (layL x.data.data.toList o data.data.toList) } } ∧ Below B w w' ∧ Aside p w w':=by
 have hds : data.size ≤ 256:=by omega
 obtain ⟨A,n,cp,E,m,d,D,k,e,hBp,hp,c0,c1,c2,fz,hst,hI,hD,hM⟩:=h.val
 obtain ⟨W,hW,hbc,hal,hsz1⟩:=box_ca w ⟨5,core,fd,(o : Int),num,path,path2,data⟩
 obtain ⟨W2,hW2⟩ : ∃ W2,W.alloc (.cells #[.int .i64 0,.int .i64 0,.int .i64 0,.bool false,.string ⟨#[]⟩,.slice none 0 0] 31) = W2:=⟨_,rfl⟩
 have hr2 : ResAt W2 W.heap.size (.int .i64 0) (.int .i64 0) (.int .i64 0) (.bool false) (.string ⟨#[]⟩) (.slice none 0 0):=by rw [← hW2];exact heap_alloc_new W _
 have hal2 : Below W.heap.size W W2:=by rw [← hW2];exact (Below.refl _ _).alloc (Nat.le_refl _) _
 have hsz2 : W2.heap.size = W.heap.size + 1:=by rw [← hW2];simp
 have hb2 : Below w.heap.size w W2:=Cv.next hal hal2
 have hbc2:=(hal2.block w.heap.size (by omega)).trans hbc
 have h2:=h.below hb2
 have x0:=(hb2.cell (p:=⟨p,0,.none⟩) hp).trans c0
 have x1:=(hb2.cell (p:=⟨p,1,.none⟩) hp).trans c1
 have x2:=(hb2.cell (p:=⟨p,2,.none⟩) hp).trans c2
 have k0 : W2.cell? ⟨w.heap.size,0,none⟩ = some (.int .i64 5):=by rw [cell_of_row W2 w.heap.size _ _ _ (0,0) hbc2];rfl
 have k1 : W2.cell? ⟨w.heap.size,1,none⟩ = some (.int .i64 core):=by rw [cell_of_row W2 w.heap.size _ _ _ (0,0) hbc2];rfl
 have k2 : W2.cell? ⟨w.heap.size,2,none⟩ = some (.int .i64 fd):=by rw [cell_of_row W2 w.heap.size _ _ _ (0,0) hbc2];rfl
 have k3 : W2.cell? ⟨w.heap.size,3,none⟩ = some (.int .i64 (o : Int)):=by rw [cell_of_row W2 w.heap.size _ _ _ (0,0) hbc2];rfl
 have k4 : W2.cell? ⟨w.heap.size,4,none⟩ = some (.int .i64 num):=by rw [cell_of_row W2 w.heap.size _ _ _ (0,0) hbc2];rfl
 have k7 : W2.cell? ⟨w.heap.size,7,none⟩ = some (.string data):=by rw [cell_of_row W2 w.heap.size _ _ _ (0,0) hbc2];rfl
 have HST:=Lib.hid (hst.below hb2).weak
 have HI:=Lib.hid (hI.below hb2)
 have HOW:=Lib.hid h2
 have HRES:=Lib.hid hr2
 have HBC:=Lib.hid hbc2
 have HB2:=Lib.hid hb2
 have HFD:=Lib.hid hfd
 have hps : p < w.heap.size:=hp
 have HAT:=Lib.hid hat
 have HX:=Lib.hid hx
 clear hat hx
 clear h h2 hst hI hD hM hfd hbc hbc2 hal hal2 hr2 hb2 c0 c1 c2 fz
 unfold caV
 go_enter Tryz.func83,Tryz.ntmps83
 go_wp2_with fail
 clear hW hW2
 have hX : ∀ (X : Ext W2) (p : Addr),(W2.cell? p).isSome = true → X.w.cell? p = W2.cell? p:=fun X p h => X.cell p h
 refine wp_region_ext (by kernel_rfl) (by kernel_rfl) ?_
 repeat (go_big_quiet_step (first | (go_at_call 125;rename_i X;exact Calls.ext_of (by have:=fd_any _ s core fd _ (HST.out.below X.bel);rw [HFD.out] at this;exact this))))
 refine wpQuiet_nil ?_
 rintro w7 ⟨X,rfl⟩
 generalize hZe : X.w = Z1
 have hZ1 : Below W2.heap.size W2 Z1:=by rw [← hZe];exact X.bel
 have y0:=(hZ1.cell (p:=⟨p,0,.none⟩) (by show p < _;omega)).trans x0
 have y1:=(hZ1.cell (p:=⟨p,1,.none⟩) (by show p < _;omega)).trans x1
 have y2:=(hZ1.cell (p:=⟨p,2,.none⟩) (by show p < _;omega)).trans x2
 have hbcz:=(hZ1.block w.heap.size (by omega)).trans HBC.out
 have l0 : Z1.cell? ⟨w.heap.size,0,none⟩ = some (.int .i64 5):=by rw [cell_of_row Z1 w.heap.size _ _ _ (0,0) hbcz];rfl
 have l1 : Z1.cell? ⟨w.heap.size,1,none⟩ = some (.int .i64 core):=by rw [cell_of_row Z1 w.heap.size _ _ _ (0,0) hbcz];rfl
 have l2 : Z1.cell? ⟨w.heap.size,2,none⟩ = some (.int .i64 fd):=by rw [cell_of_row Z1 w.heap.size _ _ _ (0,0) hbcz];rfl
 have l3 : Z1.cell? ⟨w.heap.size,3,none⟩ = some (.int .i64 (o : Int)):=by rw [cell_of_row Z1 w.heap.size _ _ _ (0,0) hbcz];rfl
 have l4 : Z1.cell? ⟨w.heap.size,4,none⟩ = some (.int .i64 num):=by rw [cell_of_row Z1 w.heap.size _ _ _ (0,0) hbcz];rfl
 have l7 : Z1.cell? ⟨w.heap.size,7,none⟩ = some (.string data):=by rw [cell_of_row Z1 w.heap.size _ _ _ (0,0) hbcz];rfl
 have HBC1:=Lib.hid hbcz
 have HB3:=Lib.hid (Cv.next HB2.out hZ1)
 have HO1:=Lib.hid (HOW.out.below hZ1)
 have hs1 : W2.heap.size ≤ Z1.heap.size:=hZ1.size
 have HR1 : Hid (ResAt Z1 W.heap.size (.int .i64 0) (.int .i64 0) (.int .i64 0) (.bool false) (.string ⟨#[]⟩) (.slice none 0 0)):=Lib.hid ((hZ1.block W.heap.size (by omega)).trans HRES.out)
 have HS1:=Lib.hid (HST.out.below hZ1)
 have HI1:=Lib.hid (HI.out.below hZ1)
 clear hZe X hX hZ1 hbcz x0 x1 x2 k0 k1 k2 k3 k4 k7
 have q0 : (NU == 0) = false:=by rw [beq_eq_false_iff_ne];exact hnu
 go_wp2_with fail
 have hin : i < n:=by have:=(List.getElem?_eq_some_iff.1 HX.out).1;have:=HI1.out.1;omega
 obtain ⟨g,og,x',E3,m3,d3,rfl,hg,hx',_,hmem,e0,e1,e2,_,_,e3⟩:=HI1.out.get i hin
 have ex : x' = x:=by have h1:=HX.out;rw [hx'] at h1;exact Option.some.inj h1
 subst ex
 have i0 : (0 : Int) ≤ (i : Int):=by omega
 have i1 : (i : Int) < (n : Int):=by omega
 have hX : ∀ (X : Ext Z1) (p : Addr),(Z1.cell? p).isSome = true → X.w.cell? p = Z1.cell? p:=fun X p h => X.cell p h
 clear hx' hmem
 refine wp_region_ext (by kernel_rfl) (by kernel_rfl) ?_
 repeat (go_big_quiet_step (first | (go_at_call 124;rename_i X;exact Calls.ext_of (by have:=at_any _ s NU _ (HS1.out.below X.bel);rw [HAT.out] at this;exact this))))
 refine wpQuiet_nil ?_
 rintro w8 ⟨X,rfl⟩
 generalize hZe : X.w = Z2
 have hZ2 : Below Z1.heap.size Z1 Z2:=by rw [← hZe];exact X.bel
 have z0:=(hZ2.cell (p:=⟨p,0,.none⟩) (by show p < _;omega)).trans y0
 have z1:=(hZ2.cell (p:=⟨p,1,.none⟩) (by show p < _;omega)).trans y1
 have z2:=(hZ2.cell (p:=⟨p,2,.none⟩) (by show p < _;omega)).trans y2
 have hbcz:=(hZ2.block w.heap.size (by omega)).trans HBC1.out
 have j0 : Z2.cell? ⟨w.heap.size,0,none⟩ = some (.int .i64 5):=by rw [cell_of_row Z2 w.heap.size _ _ _ (0,0) hbcz];rfl
 have j1 : Z2.cell? ⟨w.heap.size,1,none⟩ = some (.int .i64 core):=by rw [cell_of_row Z2 w.heap.size _ _ _ (0,0) hbcz];rfl
 have j2 : Z2.cell? ⟨w.heap.size,2,none⟩ = some (.int .i64 fd):=by rw [cell_of_row Z2 w.heap.size _ _ _ (0,0) hbcz];rfl
 have j3 : Z2.cell? ⟨w.heap.size,3,none⟩ = some (.int .i64 (o : Int)):=by rw [cell_of_row Z2 w.heap.size _ _ _ (0,0) hbcz];rfl
 have j4 : Z2.cell? ⟨w.heap.size,4,none⟩ = some (.int .i64 num):=by rw [cell_of_row Z2 w.heap.size _ _ _ (0,0) hbcz];rfl
 have j7 : Z2.cell? ⟨w.heap.size,7,none⟩ = some (.string data):=by rw [cell_of_row Z2 w.heap.size _ _ _ (0,0) hbcz];rfl
 have f0:=(hZ2.cell (p:=⟨g,og + i * 4,.none⟩) hg).trans e0
 have f3:=(hZ2.cell (p:=⟨g,og + i * 4 + 3,.none⟩) hg).trans e3
 have HBC2:=Lib.hid hbcz
 have HB4:=Lib.hid (Cv.next HB3.out hZ2)
 have HI2:=Lib.hid (HI1.out.below hZ2)
 have HO2:=Lib.hid (HO1.out.below hZ2)
 have hs2 : Z1.heap.size ≤ Z2.heap.size:=hZ2.size
 have hr22 : ResAt Z2 W.heap.size (.int .i64 0) (.int .i64 0) (.int .i64 0) (.bool false) (.string ⟨#[]⟩) (.slice none 0 0):=(hZ2.block W.heap.size (by omega)).trans HR1.out
 have HR2:=Lib.hid hr22
 have hgl : g < Z2.heap.size:=by omega
 clear hZe X hX hZ2 hbcz y0 y1 y2 l0 l1 l2 l3 l4 l7 e0 e1 e2 e3
 have HBM:=Lib.hid (HB4.out.mono hB)
 have HASM : Hid (Aside p w Z2):=Lib.hid (Aside.below HB4.out)
 have b1 : decide ((o : Int) < 0) = false:=by rw [decide_eq_false_iff_not];omega
 have b2 : decide ((256 : Int) < (o : Int)) = false:=by rw [decide_eq_false_iff_not];omega
 have b3 : decide ((256 : Int) < (data.size : Int)) = false:=by rw [decide_eq_false_iff_not];omega
 have b4 : decide (256 < data.size) = false:=by rw [decide_eq_false_iff_not];omega
 have b6 : decide (256 < o) = false:=by rw [decide_eq_false_iff_not];omega
 have b5 : IntKind.i64.wrap ((o : Int) + (data.size : Int)) = (o : Int) + (data.size : Int):=IntWalk.i64_in _ (by omega)
 have b7 : decide ((256 : Int) < (o : Int) + (data.size : Int)) = false:=by rw [decide_eq_false_iff_not];omega
 have hne : data.toList ≠ []:=by
  intro e9
  rw [ByteArray.toList_eq] at e9
  have h9 : data.data.toList.length = data.size:=Array.length_toList
  rw [e9] at h9
  exact hd0 h9.symm
 have b8 : (data.toList != []) = true:=by rw [bne_iff_ne];exact hne
 have b8' : data.toList.isEmpty = false:=by cases h9 : data.toList <;> simp_all
 have b8'' : (data.toList == []) = false:=by rw [beq_eq_false_iff_ne];exact hne
 obtain ⟨SX,hSX⟩ : ∃ SX,x'.data.size = SX:=⟨_,rfl⟩
 obtain ⟨M,hM⟩ : ∃ M,max SX (o + data.size) = M:=⟨_,rfl⟩
 have m1 : max (SX : Int) ((o : Int) + (data.size : Int)) = (M : Int):=by omega
 have hM2 : M ≤ 256:=by omega
 have hSX2 : x'.data.size = SX:=hSX
 have hxl : x'.data.data.toList.length = SX:=by rw [← hSX];exact Array.length_toList
 have hdl : data.data.toList.length = data.size:=Array.length_toList
 have hlay : (sizedL x'.data.data.toList M).take o ++ data.data.toList ++ (sizedL x'.data.data.toList M).drop (o + data.data.toList.length) = layL x'.data.data.toList o data.data.toList:=by
  unfold layL
  rw [hxl,hdl,hM]
 have HLAY:=Lib.hid hlay
 have HDL:=Lib.hid hdl
 have HD0:=Lib.hid hd0
 have HMM:=Lib.hid hM
 have hoM : o + data.size ≤ M:=by omega
 have hoM2 : ¬ M = o:=by omega
 obtain ⟨NT,hNT⟩ : ∃ NT : ByteArray,txt (layL x'.data.data.toList o data.data.toList) = NT:=⟨_,rfl⟩
 have hlen9 : (layL x'.data.data.toList o data.data.toList).length = M:=by
  rw [← hlay,List.length_append,List.length_append,List.length_take,List.length_drop,sizedL_len,hdl]
  omega
 have hzn : (txt (layL x'.data.data.toList o data.data.toList)).size ≤ 140737488355328:=by
  show (layL x'.data.data.toList o data.data.toList).toArray.size ≤ _
  rw [List.size_toArray,hlen9]
  omega
 have HNT:=Lib.hid hNT
 have HZN:=Lib.hid hzn
 have HLN:=Lib.hid hlen9
 have hdr : Below Z2.heap.size Z2 Z2.drew:=Below.drew (Below.refl _ _)
 clear hne hSX hxl hdl hlay hd0 hM hxs hNT hzn hlen9
 go_wp2_with fail
 refine wp_region_quiet_tail 16 (by kernel_rfl) (by kernel_rfl) ?_
 simp only [List.take_succ_cons,List.take_zero,List.drop_succ_cons,List.drop_zero]
 repeat (go_big_quiet_step (fail))
 refine wpQuiet_nil ?_
 go_wp2_with fail
 (with_reducible refine (sized_all x'.data M _ (by omega)).mono ?_)
 rintro e9 w9 ⟨gs,rfl,hrow9,hgs9,hb9⟩
 all_goals
  have hb9' : Below Z2.heap.size Z2 w9:=hdr.trans hb9
  have hg9 : Z2.heap.size ≤ gs:=hgs9
  have a0:=(hb9'.cell (p:=⟨p,0,.none⟩) (by show p < _;omega)).trans z0
  have a3:=(hb9'.cell (p:=⟨w.heap.size,3,.none⟩) (by show w.heap.size < _;omega)).trans j3
  have a7:=(hb9'.cell (p:=⟨w.heap.size,7,.none⟩) (by show w.heap.size < _;omega)).trans j7
  have hcp : ∀ ty,(Builtin.copy_ #[85,9] ty #[.slice (some ⟨gs,o,none⟩) (M - o) (M - o),.string data]).run Tryz.prog w9.drew = .ok (goInt data.size) (w9.drew.setCells gs o (data.data.toList.map fun x => Value.int .u8 (x.toNat : Int))):=fun ty =>
   run_copy_string w9.drew 85 9 ty 5 gs o (M - o) (M - o) data Tryz.underlying85 size_byte (by omega)
    (fun jj hjj => by rw [(hrow9.drew.2 (o + jj) (by rw [sizedL_len];omega)).1];rfl) (fun jj hjj => (hrow9.drew.2 (o + jj) (by rw [sizedL_len];omega)).2)
  have hrowB:=byterow_lay hrow9.drew o data.data.toList (by rw [sizedL_len,HDL.out];omega)
  rw [HLAY.out] at hrowB
  obtain ⟨WC,hWC⟩ : ∃ WC,w9.drew.setCells gs o (data.data.toList.map fun x => Value.int .u8 (x.toNat : Int)) = WC:=⟨_,rfl⟩
  rw [hWC] at hrowB hcp
  have hbC : Below Z2.heap.size Z2 WC:=by rw [← hWC];exact below_setCells hg9 _ _ _ (Below.drew hb9')
  have HB9':=Lib.hid hb9'
  have HBC:=Lib.hid hbC
  have HRB:=Lib.hid hrowB
  have HZ0:=Lib.hid z0
  have HF3:=Lib.hid f3
  have HJ7:=Lib.hid j7
  have HJ0:=Lib.hid j0
  clear hdr hb9 hrow9 hb9' hWC hbC hrowB f3 z0 z1 z2 j0 j1 j2 j3 j4 j7 f0
  go_wp2_with fail
  refine wp_region_quiet_tail 6 (by kernel_rfl) (by kernel_rfl) ?_
  simp only [List.take_succ_cons,List.take_zero,List.drop_succ_cons,List.drop_zero]
  repeat (go_big_quiet_step (fail))
  refine wpQuiet_nil ?_
  have hconv : (convert 85 9 (.slice (some ⟨gs,0,none⟩) M M)).run Tryz.prog WC = .ok (.string NT) WC:=by
   rw [← HNT.out]
   exact Cv.back_of HRB.out M M HLN.out
  have hbw:=HBC.out
  have z9:=(hbw.cell (p:=⟨p,0,.none⟩) (by show p < _;omega)).trans HZ0.out
  have d9:=(hbw.cell (p:=⟨g,og + i * 4 + 3,.none⟩) hgl).trans HF3.out
  have k7:=(hbw.cell (p:=⟨w.heap.size,7,.none⟩) (by show w.heap.size < _;omega)).trans HJ7.out
  have k0:=(hbw.cell (p:=⟨w.heap.size,0,.none⟩) (by show w.heap.size < _;omega)).trans HJ0.out
  have HO9:=Lib.hid (HO2.out.below hbw)
  have HB9:=Lib.hid (Cv.next HB4.out hbw)
  have HR9 : Hid (ResAt WC W.heap.size (.int .i64 0) (.int .i64 0) (.int .i64 0) (.bool false) (.string ⟨#[]⟩) (.slice none 0 0)):=Lib.hid ((hbw.block W.heap.size HR2.out.lt).trans HR2.out)
  have hs9 : Z2.heap.size ≤ WC.heap.size:=hbw.size
  have hi9:=HI2.out.below hbw
  have ff9:=(hi9.free (by omega)).2 (og + i * 4 + 3)
  obtain ⟨hBg,hfree⟩:=hi9.free (by omega)
  obtain ⟨cur9,hcur9⟩:=hi9.tag (by omega)
  obtain ⟨V,hV⟩ : ∃ V,WC.setCell ⟨g,og + i * 4 + 3,.none⟩ (.string NT) = V:=⟨_,rfl⟩
  have hov : Own B V p { s with inos:=s.inos.set i { x' with data:=txt (layL x'.data.data.toList o data.data.toList) } }:=by
   rw [← hV]
   refine HO9.out.setIno i 3 x' { x' with data:=txt (layL x'.data.data.toList o data.data.toList) } (.string NT) HX.out (.inr rfl) rfl rfl (by intro h;omega) (fun _ => ⟨by rw [← HNT.out],rfl⟩) (HO9.out.sized.setData HX.out _ HZN.out) g og n cp z9
  have hbv : Below B w V:=by rw [← hV];exact (HB9.out.mono hB).setCell (p:=⟨g,og + i * 4 + 3,.none⟩) hBg _
  have hav : Aside p w V:=by rw [← hV];exact (Aside.below HB9.out).trans (Aside.set (w:=WC) hcur9 (.inl rfl))
  have hrv : ResAt V W.heap.size (.int .i64 0) (.int .i64 0) (.int .i64 0) (.bool false) (.string ⟨#[]⟩) (.slice none 0 0):=by
   have hne : W.heap.size ≠ g:=by
    intro e9
    have h5:=HR9.out
    rw [e9] at h5
    unfold ResAt at h5
    rw [hcur9] at h5
    injection h5 with h5
    injection h5 with _ h6
    exact absurd h6 (by decide)
   rw [← hV]
   exact (Below.heap_setCell WC ⟨g,og + i * 4 + 3,.none⟩ _ _ hne).trans HR9.out
  have hsv : V.heap.size = WC.heap.size:=by rw [← hV];simp [World.setCell]
  have HOV:=Lib.hid hov
  have HBV:=Lib.hid hbv
  have HAV:=Lib.hid hav
  have HRV:=Lib.hid hrv
  have hne2 : g ≠ w.heap.size:=by
   intro e9
   have h5:=hbw.block w.heap.size (by omega)
   rw [HBC2.out] at h5
   rw [e9,h5] at hcur9
   injection hcur9 with hcur9
   injection hcur9 with _ h6
   exact absurd h6 (by decide)
  have k7' : V.cell? ⟨w.heap.size,7,.none⟩ = some (.string data):=by
   rw [← hV]
   refine (World.cell?_setCell_other _ _ _ _ (fun e9 => ?_)).trans k7
   injection e9 with e9
   first | exact hne2 e9 | exact hne2 e9.symm
  have hr10:=HRV.out
  rw [hsz1] at hr10
  obtain ⟨g0,g1',g2',g3,g4,g5,gf⟩:=hr10.get
  clear hbw hi9 hfree hcur9 hov hbv hav hrv hr10
  have hr10:=HRV.out
  rw [hsz1] at hr10
  obtain ⟨g0,g1',g2',g3,g4,g5,gf⟩:=hr10.get
  obtain ⟨W9,hW9,hr9,k9,b9,a9,_⟩:=hr10.six (.int .i64 0) (.int .i64 0) (.int .i64 (data.size : Nat)) (.bool false) (.string ⟨#[]⟩) (.slice none 0 0)
  have HR5:=Lib.hid hr9
  have HOF:=Lib.hid (HOV.out.keep k9)
  have HBF:=Lib.hid (b9 B w (by omega) HBV.out)
  have HAS : Hid (Aside p w W9):=Lib.hid ⟨by have:=HBF.out.size;omega,fun b cur t hb h1 h2 h3 => by
   have hlt : b < w.heap.size:=(Array.getElem?_eq_some_iff.1 hb).1
   exact (a9 b (by omega)).trans (HAV.out.same b cur t hb h1 h2 h3)⟩
  clear hr10 hr9 k9 b9 a9
  go_wp2_with fail
  (try simp only [Exit.inBlock,Exit.then])
  refine bodyPost_ret (results_cell_row rfl _ _ (w.heap.size + 1) 31 _ (0,0) _ rfl HR5.out Tryz.underlying31 rfl (by kernel_rfl)) rfl ?_
  exact ⟨rfl,HOF.out,HBF.out,HAS.out⟩
end Go.Proofs.YtndcloohcfhejaaGreat
namespace Go.Proofs.YtndcloohcfhejaaGreat
def numsM (made : List Int) : List Ino → Int → Bool
 | [],_ => true
 | x :: xs,p => if x.num ≤ p ∨ givenV made x.num = false then false else numsM made xs x.num
def shapesM (is : List Ino) : List Ino → Bool
 | [] => true
 | x :: xs => if x.dir = true then (if x.data.size ≠ 0 ∨ entsV is x.ents = false then false else shapesM is xs) else if x.ents ≠ [] ∨ 256 < x.data.size then false else shapesM is xs
def finalR (s : St) : List Ino → Bool → List Bool → Bool
 | [],_,_ => true
 | x :: xs,first,f => if (first = false ∧ x.dir = true ∧ (linkI s.inos x.num ≠ 1 ∨ f.headD false = false)) ∨ (x.dir = false ∧ f.headD false = false ∧ openB s.opn x.num = false) then false else finalR s xs false f.tail
def finalM (s : St) : List Ino → Bool → List Nat → List Bool → Bool
 | [],_,_,_ => true
 | x :: xs,first,many,f =>
  if first = true then finalM s xs false many.tail f.tail
  else if x.dir = true ∧ (many.headD 0 ≠ 1 ∨ f.headD false = false) then false
  else if x.dir = false ∧ f.headD false = false ∧ (0 < many.headD 0 ∨ openB s.opn x.num = false) then false
  else finalM s xs false many.tail f.tail
def numsP (made : List Int) (p : Option Int) (xs : List Ino) : Bool:=
 match p,xs with
 | some q,xs => numsM made xs q
 | none,[] => true
 | none,x :: xs => numsM made xs x.num
theorem numsP_cons (made : List Int) (p : Option Int) (x : Ino) (xs : List Ino) : numsP made p (x :: xs) = (!badNum made p x.num && numsM made xs x.num):=by
 cases p with
 | none => simp [numsP,badNum]
 | some q =>
  simp only [numsP,numsM,badNum]
  by_cases h1 : x.num ≤ q <;> cases h2 : givenV made x.num <;> simp [h1]
theorem inosG_split (s : St) : ∀ (xs : List Ino) (p : Option Int) (f : List Bool),inosG s xs p f = (numsP s.made p xs && (shapesM s.inos xs && finalR s xs p.isNone f))
 | [],none,f => rfl
 | [],some q,f => rfl
 | x :: xs, p, f => by
  unfold inosG shapesM finalR
  rw [inosG_split s xs (some x.num) f.tail,numsP_cons]
  simp only [numsP,Option.isNone_some]
  unfold inoBad inoLost
  generalize p.isNone = first
  generalize badNum s.made p x.num = A
  generalize numsM s.made xs x.num = N
  generalize shapesM s.inos xs = S
  generalize finalR s xs false f.tail = F
  have hE : x.ents = [] → entsV s.inos x.ents = true:=fun h => by rw [h];rfl
  generalize entsV s.inos x.ents = E at hE ⊢
  generalize f.headD false = H
  generalize openB s.opn x.num = O
  cases hd : x.dir
  ·by_cases h1 : x.ents = []
   ·have:=hE h1
    subst this
    by_cases h2 : 256 < x.data.size <;> cases A <;> cases N <;> cases S <;> cases F <;> cases H <;> cases O <;> simp [h1,h2]
   ·have h3 : x.ents.isEmpty = false:=by simpa using h1
    cases A <;> cases N <;> cases S <;> simp [h1,h3]
  ·by_cases h1 : x.data.size = 0
   ·by_cases h2 : linkI s.inos x.num = 1 <;> cases A <;> cases N <;> cases S <;> cases F <;> cases H <;> cases E <;> cases first <;> simp [h1,h2]
   ·cases A <;> cases N <;> cases S <;> simp [h1]
theorem finalR_iff (s : St) : ∀ (xs : List Ino) (first : Bool) (f : List Bool),finalR s xs first f = true ↔ ∀ (i : Nat) (x : Ino),xs[i]? = some x → ((first = false ∨ 0 < i) → x.dir = true → linkI s.inos x.num = 1 ∧ f.getD i false = true) ∧ (x.dir = false → f.getD i false = true ∨ openB s.opn x.num = true)
 | [],first,f => by simp [finalR]
 | x :: xs, first, f => by
  unfold finalR
  have hh : f.headD false = f.getD 0 false:=by cases f <;> rfl
  have ht : ∀ i,f.tail.getD i false = f.getD (i + 1) false:=fun i => by cases f <;> rfl
  constructor
  ·intro h
   split at h
   ·cases h
   ·rename_i hc
    have ih:=(finalR_iff s xs false f.tail).1 h
    intro i y hy
    cases i with
    | zero =>
     have e : x = y:=by simpa using hy
     subst e
     rw [← hh]
     refine ⟨fun h1 h2 => ?_,fun h2 => ?_⟩
     ·have hf : first = false:=by rcases h1 with h1 | h1;exact h1;omega
      refine ⟨?_,?_⟩
      ·apply Classical.byContradiction
       intro hn
       exact hc (.inl ⟨hf,h2,.inl hn⟩)
      ·cases hb : f.headD false
       ·exact absurd (.inl ⟨hf,h2,.inr hb⟩) hc
       ·rfl
     ·cases hb : f.headD false
      ·right
       cases ho : openB s.opn x.num
       ·exact absurd (.inr ⟨h2,hb,ho⟩) hc
       ·rfl
      ·exact .inl rfl
    | succ i =>
     have:=ih i y (by simpa using hy)
     rw [ht] at this
     exact ⟨fun _ => this.1 (.inl rfl),this.2⟩
  ·intro h
   rw [if_neg,finalR_iff s xs false f.tail]
   ·intro i y hy
    have:=h (i + 1) y (by simpa using hy)
    rw [ht]
    exact ⟨fun _ => this.1 (.inr (by omega)),this.2⟩
   ·have h0:=h 0 x rfl
    rw [← hh] at h0
    rintro (⟨h1,h2,h3⟩ | ⟨h1,h2,h3⟩)
    ·have:=h0.1 (.inl h1) h2
     rcases h3 with h3 | h3
     ·exact h3 this.1
     ·rw [this.2] at h3;cases h3
    ·rcases h0.2 h1 with h4 | h4
     ·rw [h2] at h4;cases h4
     ·rw [h3] at h4;cases h4
theorem finalM_iff (s : St) : ∀ (xs : List Ino) (first : Bool) (many : List Nat) (f : List Bool),finalM s xs first many f = true ↔ ∀ (i : Nat) (x : Ino),xs[i]? = some x → (first = false ∨ 0 < i) → (x.dir = true → many.getD i 0 = 1 ∧ f.getD i false = true) ∧ (x.dir = false → f.getD i false = true ∨ (many.getD i 0 = 0 ∧ openB s.opn x.num = true))
 | [],first,many,f => by simp [finalM]
 | x :: xs, first, many, f => by
  unfold finalM
  have hh : f.headD false = f.getD 0 false:=by cases f <;> rfl
  have ht : ∀ i,f.tail.getD i false = f.getD (i + 1) false:=fun i => by cases f <;> rfl
  have mh : many.headD 0 = many.getD 0 0:=by cases many <;> rfl
  have mt : ∀ i,many.tail.getD i 0 = many.getD (i + 1) 0:=fun i => by cases many <;> rfl
  rw [hh,mh]
  have ih:=finalM_iff s xs false many.tail f.tail
  have tail_ : (∀ (i : Nat) (x : Ino),xs[i]? = some x → (false = false ∨ 0 < i) → (x.dir = true → many.tail.getD i 0 = 1 ∧ f.tail.getD i false = true) ∧ (x.dir = false → f.tail.getD i false = true ∨ (many.tail.getD i 0 = 0 ∧ openB s.opn x.num = true))) ↔
    (∀ (i : Nat) (y : Ino),xs[i]? = some y → (y.dir = true → many.getD (i + 1) 0 = 1 ∧ f.getD (i + 1) false = true) ∧ (y.dir = false → f.getD (i + 1) false = true ∨ (many.getD (i + 1) 0 = 0 ∧ openB s.opn y.num = true))):=by
   constructor
   ·intro h i y hy
    have:=h i y hy (.inl rfl)
    rwa [ht,mt] at this
   ·intro h i y hy _
    have:=h i y hy
    rwa [ht,mt]
  rw [tail_] at ih
  have whole : (∀ (i : Nat) (y : Ino),(x :: xs)[i]? = some y → (first = false ∨ 0 < i) → (y.dir = true → many.getD i 0 = 1 ∧ f.getD i false = true) ∧ (y.dir = false → f.getD i false = true ∨ (many.getD i 0 = 0 ∧ openB s.opn y.num = true))) ↔
    (first = false → (x.dir = true → many.getD 0 0 = 1 ∧ f.getD 0 false = true) ∧ (x.dir = false → f.getD 0 false = true ∨ (many.getD 0 0 = 0 ∧ openB s.opn x.num = true))) ∧ (∀ (i : Nat) (y : Ino),xs[i]? = some y → (y.dir = true → many.getD (i + 1) 0 = 1 ∧ f.getD (i + 1) false = true) ∧ (y.dir = false → f.getD (i + 1) false = true ∨ (many.getD (i + 1) 0 = 0 ∧ openB s.opn y.num = true))):=by
   constructor
   ·intro h
    exact ⟨fun h1 => h 0 x rfl (.inl h1),fun i y hy => h (i + 1) y (by simpa using hy) (.inr (by omega))⟩
   ·rintro ⟨h1,h2⟩ i y hy hq
    cases i with
    | zero =>
     have e : x = y:=by simpa using hy
     subst e
     rcases hq with hq | hq
     ·exact h1 hq
     ·omega
    | succ i => exact h2 i y (by simpa using hy)
  rw [whole,← ih]
  clear ih whole tail_ ht mt hh mh
  generalize finalM s xs false many.tail f.tail = F
  generalize many.getD 0 0 = m
  generalize f.getD 0 false = b
  generalize openB s.opn x.num = o
  by_cases h1 : m = 1
  ·cases first <;> cases x.dir <;> cases b <;> cases o <;> simp [h1]
  ·by_cases h0 : m = 0
   ·cases first <;> cases x.dir <;> cases b <;> cases o <;> simp [h0]
   ·have : 0 < m:=by omega
    cases first <;> cases x.dir <;> cases b <;> cases o <;> simp [h1,h0,this]
theorem linkE_pos : ∀ (es : List En) (num : Int),0 < linkE es num → ∃ e ∈ es,e.num = num
 | [],num,h => absurd h (by simp [linkE])
 | e :: es, num, h => by
  unfold linkE at h
  by_cases hq : e.num = num
  ·exact ⟨e,by simp,hq⟩
  ·rw [if_neg hq] at h
   obtain ⟨y,hy,hn⟩:=linkE_pos es num (by omega)
   exact ⟨y,by simp [hy],hn⟩
theorem linkI_pos : ∀ (is : List Ino) (num : Int),0 < linkI is num → ∃ (k : Nat) (y : Ino) (e : En),is[k]? = some y ∧ y.dir = true ∧ e ∈ y.ents ∧ e.num = num
 | [],num,h => absurd h (by simp [linkI])
 | x :: xs, num, h => by
  unfold linkI at h
  by_cases hd : x.dir = true ∧ 0 < linkE x.ents num
  ·obtain ⟨e,he,hn⟩:=linkE_pos _ _ hd.2
   exact ⟨0,x,e,rfl,hd.1,he,hn⟩
  ·have : 0 < linkI xs num:=by
    split at h
    ·rename_i h1
     have : ¬ 0 < linkE x.ents num:=fun h2 => hd ⟨h1,h2⟩
     omega
    ·omega
   obtain ⟨k,y,e,h1,h2⟩:=linkI_pos xs num this
   exact ⟨k + 1,y,e,by simpa using h1,h2⟩
theorem nums_pair : ∀ (made : List Int) (xs : List Ino) (p : Int),numsM made xs p = true → (∀ x ∈ xs,p < x.num) ∧ xs.Pairwise (fun a b => a.num < b.num) ∧ ∀ x ∈ xs,givenV made x.num = true
 | made,[],p,h => by simp
 | made, x :: xs, p, h => by
  unfold numsM at h
  split at h
  ·cases h
  ·rename_i hc
   obtain ⟨h1,h2,h3⟩:=nums_pair made xs x.num h
   have hg : givenV made x.num = true:=by cases hg : givenV made x.num;exact absurd (.inr hg) hc;rfl
   have hp : p < x.num:=by
    rcases Int.lt_or_le p x.num with h | h
    ·exact h
    ·exact absurd (.inl h) hc
   refine ⟨?_,List.pairwise_cons.2 ⟨h1,h2⟩,?_⟩
   ·intro y hy
    rcases List.mem_cons.1 hy with rfl | hy
    ·exact hp
    ·have:=h1 y hy;omega
   ·intro y hy
    rcases List.mem_cons.1 hy with rfl | hy
    ·exact hg
    ·exact h3 y hy
theorem numsP_pair {made : List Int} {is : List Ino} (h : numsP made none is = true) : is.Pairwise (fun a b => a.num < b.num):=by
 cases is with
 | nil => exact List.Pairwise.nil
 | cons x xs =>
  obtain ⟨h1,h2,_⟩:=nums_pair made xs x.num h
  exact List.pairwise_cons.2 ⟨h1,h2⟩
theorem atV_of {is : List Ino} (hp : is.Pairwise (fun a b => a.num < b.num)) {i : Nat} {x : Ino} (hx : is[i]? = some x) : atV is x.num = (i : Int):=by
 obtain ⟨hi,hxe⟩:=List.getElem?_eq_some_iff.1 hx
 rcases atV_cases is x.num with ⟨_,h2⟩ | ⟨k,y,h1,h2,h3,h4⟩
 ·exact absurd rfl (h2 x (List.mem_of_getElem? hx))
 ·rw [h1]
  obtain ⟨hk,hye⟩:=List.getElem?_eq_some_iff.1 h2
  rcases Nat.lt_trichotomy k i with h | h | h
  ·have:=List.pairwise_iff_getElem.1 hp k i hk hi h
   rw [hye,hxe] at this
   omega
  ·rw [h]
  ·exact absurd rfl (h4 i x h hx)
theorem given_le {made : List Int} (hm : madeG made = true) {n : Int} (h : givenV made n = true) : n ≤ 257:=by
 have all : ∀ (l : List Int),madeG l = true → ∀ k,l.getD k 0 ≤ 32:=by
  intro l
  induction l with
  | nil => intro _ k;simp
  | cons x l ih =>
   intro h k
   unfold madeG at h
   split at h
   ·cases h
   ·rename_i hc
    cases k with
    | zero => simp;omega
    | succ k => simpa using ih h k
 unfold givenV at h
 split at h
 ·cases h
 ·rw [Bool.and_eq_true,decide_eq_true_eq,decide_eq_true_eq] at h
  have:=all made hm ((n - 2) % 8).toNat
  omega
theorem nums_len : ∀ (made : List Int) (xs : List Ino) (p : Int),madeG made = true → numsM made xs p = true → p ≤ 257 → (xs.length : Int) + p ≤ 257
 | made,[],p,_,_,hp => by simpa using hp
 | made, x :: xs, p, hm, h, hp => by
  obtain ⟨h1,_,h3⟩:=nums_pair made (x :: xs) p h
  unfold numsM at h
  split at h
  ·cases h
  ·have:=nums_len made xs x.num hm h (given_le hm (h3 x (by simp)))
   have:=h1 x (by simp)
   rw [List.length_cons]
   omega
def manyV (is : List Ino) : List Nat:=is.map fun x => linkI is x.num
theorem final_same (s : St) (h0 : rootB s.inos = true) (hn : numsP s.made none s.inos = true) : finalR s s.inos true (reachV s.inos) = finalM s s.inos true (manyV s.inos) (reachV s.inos):=by
 have hp:=numsP_pair hn
 have hroot : ∃ x xs,s.inos = x :: xs ∧ x.num = 1 ∧ x.dir = true:=by
  cases e : s.inos with
  | nil => rw [e] at h0;cases h0
  | cons x xs =>
   rw [e] at h0
   unfold rootB at h0
   rw [Bool.and_eq_true,decide_eq_true_eq] at h0
   exact ⟨x,xs,rfl,h0⟩
 obtain ⟨r,rs,he,hr1,hrd⟩:=hroot
 have hmany : ∀ (i : Nat) (x : Ino),s.inos[i]? = some x → (manyV s.inos).getD i 0 = linkI s.inos x.num:=by
  intro i x hx
  unfold manyV
  rw [List.getD_eq_getElem?_getD,List.getElem?_map,hx]
  rfl
 apply Bool.eq_iff_iff.2
 rw [finalR_iff,finalM_iff]
 constructor
 ·intro h i x hx hq
  have hi:=h i x hx
  rw [hmany i x hx]
  refine ⟨fun hd => hi.1 hq hd,fun hd => ?_⟩
  cases hb : (reachV s.inos).getD i false
  ·right
   rcases hi.2 hd with h1 | h1
   ·rw [hb] at h1;cases h1
   ·refine ⟨?_,h1⟩
    apply Classical.byContradiction
    intro hl
    obtain ⟨k,y,e,hy,hyd,hey,hen⟩:=linkI_pos s.inos x.num (by omega)
    have hry : Reach s.inos k:=by
     rcases Nat.eq_zero_or_pos k with h2 | h2
     ·subst h2
      have : r = y:=by rw [he] at hy;simpa using hy
      subst this
      refine .root 0 ?_
      rw [← hr1]
      exact atV_of hp hy
     ·exact (reachV_iff _ _).1 ((h k y hy).1 (.inr h2) hyd).2
    have hrx : Reach s.inos i:=.step k i y e hry hy hyd hey (by rw [hen];exact atV_of hp hx)
    rw [(reachV_iff _ _).2 hrx] at hb
    cases hb
  ·exact .inl rfl
 ·intro h i x hx
  refine ⟨fun hq hd => ?_,fun hd => ?_⟩
  ·have:=(h i x hx (by rcases hq with h1 | h1;cases h1;exact .inr h1)).1 hd
   rwa [hmany i x hx] at this
  ·have hi : 0 < i:=by
    rcases Nat.eq_zero_or_pos i with h2 | h2
    ·subst h2
     have : r = x:=by rw [he] at hx;simpa using hx
     subst this
     rw [hd] at hrd
     cases hrd
    ·exact h2
   rcases (h i x hx (.inr hi)).2 hd with h1 | h1
   ·exact .inl h1
   ·exact .inr h1.2
theorem mayV_eq (s : St) : mayV s = ((decide (1 ≤ s.made.length) && decide (s.made.length ≤ 8) && madeG s.made) && (rootB s.inos && numsP s.made none s.inos && shapesM s.inos s.inos) && opensV s && finalM s s.inos true (manyV s.inos) (reachV s.inos)):=by
 unfold mayV
 rw [inosG_split]
 simp only [Option.isNone_none]
 cases h0 : rootB s.inos
 ·simp
 cases hn : numsP s.made none s.inos
 ·simp
 rw [final_same s h0 hn]
 cases hm : madeG s.made
 ·simp
 have hlen : s.inos.length ≤ 257:=by
  cases e : s.inos with
  | nil => simp
  | cons x xs =>
   rw [e] at h0 hn
   unfold rootB at h0
   rw [Bool.and_eq_true,decide_eq_true_eq] at h0
   have:=nums_len s.made xs x.num hm hn (by omega)
   rw [List.length_cons]
   omega
 generalize finalM s s.inos true (manyV s.inos) (reachV s.inos) = F
 generalize shapesM s.inos s.inos = S
 generalize opensV s = O
 cases F <;> cases S <;> cases O <;> simp [hlen]
end Go.Proofs.YtndcloohcfhejaaGreat
