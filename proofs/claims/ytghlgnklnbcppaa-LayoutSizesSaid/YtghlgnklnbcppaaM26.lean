/- Parts of the proof, side by side: LaPutP, MoLinks, LaClone. -/
import Derived.Test.YtghlgnklnbcppaaM15
import Derived.Test.YtghlgnklnbcppaaM25
import Derived.Test.YtghlgnklnbcppaaMoReached
import Derived.Test.YtghlgnklnbcppaaFsCopy
import Derived.Test.YtghlgnklnbcppaaM13
set_option linter.unusedVariables false
set_option linter.unusedSimpArgs false
/- What the layout writes of a state. No program in sight. -/
namespace Go.Proofs.Ytghlgnklnbcppaa
set_option linter.unusedVariables false
def magicL : List UInt8 := [67, 78, 67, 49]
def madeL : List Int → List UInt8
  | [] => []
  | x :: xs => numL x.toNat ++ madeL xs
def inosL : List Ino → List UInt8
  | [] => []
  | x :: xs => inodeL x ++ inosL xs
def headL (made : List Int) (kept : List Ino) : List UInt8 := magicL ++ numL made.length ++ madeL made ++ numL kept.length ++ inosL kept
def eightL (h : Nat) : List UInt8 := (List.range 8).map fun i => (h / 2 ^ (56 - 8 * i)).toUInt8
def sealL (l : List UInt8) : List UInt8 := l ++ eightL (sumN l)
def keptV (s : St) : List Ino := s.inos.filter fun x => x.dir || decide (linkI s.inos x.num ≠ 0)
def putL (s : St) : List UInt8 := sealL (headL s.made (keptV s))
theorem madeG_all : ∀ (l : List Int), madeG l = true → ∀ x ∈ l, 0 ≤ x ∧ x ≤ 32
  | [], _, x, hx => by simp at hx
  | y :: l, h, x, hx => by
    unfold madeG at h
    split at h
    · cases h
    · rcases List.mem_cons.1 hx with h1 | h1
      · subst h1; omega
      · exact madeG_all l h x h1
theorem entsG_names (is : List Ino) : ∀ (es : List En) (p : Option ByteArray) (many : Nat → Nat), entsG is es p many = true → ∀ e ∈ es, e.name.size ≤ 12
  | [], _, _, _, e, he => by simp at he
  | y :: es, p, many, h, e, he => by
    unfold entsG at h
    split at h
    · cases h
    · rename_i hb
      split at h
      · cases h
      · rcases List.mem_cons.1 he with h1 | h1
        · subst h1
          apply Classical.byContradiction
          intro hn
          apply hb
          have hs : e.name.data.toList.length = e.name.size := Array.length_toList
          have hc : chkB e.name = 801 := by
            unfold chkB checkL
            rw [if_pos (by omega)]
          unfold entBad
          rw [hc]
          simp
        · exact entsG_names is es _ _ h e h1
theorem shapes_more (is : List Ino) : ∀ (xs : List Ino), shapesM is xs = true → ∀ x ∈ xs, x.data.size ≤ 256 ∧ ∀ e ∈ x.ents, e.name.size ≤ 12
  | [], _, x, hx => by simp at hx
  | y :: xs, h, x, hx => by
    unfold shapesM at h
    by_cases hd : y.dir = true
    · rw [if_pos hd] at h
      split at h
      · cases h
      · rename_i hc
        rcases List.mem_cons.1 hx with h1 | h1
        · subst h1
          have : entsV is x.ents = true := by
            cases hv : entsV is x.ents
            · exact absurd (.inr hv) hc
            · rfl
          refine ⟨?_, entsG_names is _ _ _ this⟩
          have : x.data.size = 0 := by
            apply Classical.byContradiction
            intro hn
            exact hc (.inl hn)
          omega
        · exact shapes_more is xs h x h1
    · rw [if_neg hd] at h
      split at h
      · cases h
      · rename_i hc
        rcases List.mem_cons.1 hx with h1 | h1
        · subst h1
          have he : x.ents = [] := by
            apply Classical.byContradiction
            intro hn
            exact hc (.inl hn)
          refine ⟨?_, by rw [he]; simp⟩
          apply Classical.byContradiction
          intro hn
          exact hc (.inr (by omega))
        · exact shapes_more is xs h x h1
theorem mem_bulk : ∀ (is : List Ino) (x : Ino), x ∈ is → x.ents.length ≤ bulkE is
  | [], x, h => by simp at h
  | y :: is, x, h => by
    have h3 : bulkE (y :: is) = y.ents.length + bulkE is := rfl
    rcases List.mem_cons.1 h with h1 | h1
    · subst h1; omega
    · have := mem_bulk is x h1; omega
theorem entsL_len : ∀ (es : List En), (∀ e ∈ es, e.name.size ≤ 12) → (entsL es).length ≤ 40 * es.length
  | [], _ => by simp [entsL]
  | e :: es, h => by
    have h1 := entsL_len es (fun x hx => h x (by simp [hx]))
    have h2 := textL_len e.name
    have h3 := h e (by simp)
    have h4 := numL_len e.num.toNat
    unfold entsL entL
    rw [List.length_append, List.length_append, List.length_cons]
    omega
theorem inodeL_len (x : Ino) (hd : x.data.size ≤ 256) (hn : ∀ e ∈ x.ents, e.name.size ≤ 12) : (inodeL x).length ≤ 300 + 40 * x.ents.length := by
  unfold inodeL
  have h1 := numL_len x.num.toNat
  obtain ⟨FL, hFL⟩ : ∃ FL : Nat, (if x.dir then 1 else 0) = FL := ⟨_, rfl⟩
  rw [hFL, List.length_append, List.length_append]
  have h2 := numL_len FL
  clear hFL
  split
  · have h3 := entsL_len x.ents hn
    have h4 := numL_len x.ents.length
    rw [List.length_append]
    omega
  · have h3 := textL_len x.data
    omega
structure MayOk (s : St) : Prop where
  made : 1 ≤ s.made.length ∧ s.made.length ≤ 8 ∧ ∀ m ∈ s.made, 0 ≤ m ∧ m ≤ 32
  inos : 1 ≤ s.inos.length ∧ s.inos.length ≤ 257
  nums : ∀ x ∈ s.inos, 1 ≤ x.num ∧ x.num ≤ 257
  data : ∀ x ∈ s.inos, x.data.size ≤ 256 ∧ ∀ e ∈ x.ents, e.name.size ≤ 12
  linked : Linked s.inos
  rise : RiseI s.inos
theorem may_facts {s : St} (h : mayV s = true) : MayOk s := by
  rw [mayV_eq, Bool.and_eq_true, Bool.and_eq_true, Bool.and_eq_true] at h
  obtain ⟨⟨⟨h1, h2⟩, _⟩, _⟩ := h
  have hm : mMadeV s = true := h1
  have hi : mInosV s = true := h2
  obtain ⟨f1, f2, f3, x0, f4, f5⟩ := mInos_facts hm hi
  rw [Bool.and_eq_true, Bool.and_eq_true, decide_eq_true_eq, decide_eq_true_eq] at h1
  rw [Bool.and_eq_true, Bool.and_eq_true] at h2
  refine ⟨⟨h1.1.1, h1.1.2, madeG_all _ h1.2⟩, ⟨?_, f3⟩, ?_, shapes_more _ _ h2.2, f2, f1⟩
  · have := (List.getElem?_eq_some_iff.1 f4).1
    omega
  · cases e : s.inos with
    | nil => intro x hx; simp at hx
    | cons y ys =>
      rw [e] at f4 h2
      have hy : y = x0 := by simpa using f4
      subst hy
      obtain ⟨p1, _, p3⟩ := nums_pair s.made ys y.num h2.1.2
      intro x hx
      rcases List.mem_cons.1 hx with h3 | h3
      · subst h3; omega
      · have := p1 x h3
        have := given_le h1.2 (p3 x h3)
        omega
theorem MayOk.ino {s : St} (h : MayOk s) (hb : bulkE s.inos ≤ 1099511627776) (x : Ino) (hx : x ∈ s.inos) : InoOk x := by
  have h1 := h.nums x hx
  have h2 := h.data x hx
  refine ⟨by omega, by omega, by have := mem_bulk _ _ hx; omega, fun e he => ?_⟩
  have h3 := (h.linked x hx).2 e he
  have h4 := h2.2 e he
  obtain ⟨y, hy, hn⟩ := atV_lt (is := s.inos) (t := e.num) (k := (atV s.inos e.num).toNat) (by omega)
  have h5 := h.nums y (List.mem_of_getElem? hy)
  omega
theorem inosL_len : ∀ (is : List Ino), (∀ x ∈ is, x.data.size ≤ 256 ∧ ∀ e ∈ x.ents, e.name.size ≤ 12) → (inosL is).length ≤ 300 * is.length + 40 * bulkE is
  | [], _ => by simp [inosL]
  | x :: is, h => by
    have h1 := inosL_len is (fun y hy => h y (by simp [hy]))
    obtain ⟨h2, h3⟩ := h x (by simp)
    have h4 := inodeL_len x h2 h3
    have h5 : bulkE (x :: is) = x.ents.length + bulkE is := rfl
    unfold inosL
    rw [List.length_append, List.length_cons, h5]
    omega
theorem madeL_len : ∀ (l : List Int), (madeL l).length ≤ 11 * l.length
  | [] => by simp [madeL]
  | x :: l => by
    have h1 := madeL_len l
    have h2 := numL_len x.toNat
    unfold madeL
    rw [List.length_append, List.length_cons]
    omega
theorem bulk_filter (p : Ino → Bool) : ∀ (is : List Ino), bulkE (is.filter p) ≤ bulkE is
  | [] => Nat.le_refl _
  | x :: is => by
    have h1 := bulk_filter p is
    have h5 : bulkE (x :: is) = x.ents.length + bulkE is := rfl
    rw [List.filter_cons]
    split
    · have h6 : bulkE (x :: is.filter p) = x.ents.length + bulkE (is.filter p) := rfl
      omega
    · omega
end Go.Proofs.Ytghlgnklnbcppaa

/- The model's Links: how many entries have an inode. -/
namespace Go.Proofs.Ytghlgnklnbcppaa
open Go.RowKit
set_option linter.unusedVariables false
set_option linter.unusedSimpArgs false
/-- How many entries lead to a number, of the inodes from one on. -/
theorem linkE_drop (es : List En) (q : Nat) (e : En) (num : Int) (h : es[q]? = some e) : linkE (es.drop q) num = (if e.num = num then 1 else 0) + linkE (es.drop (q + 1)) num := by
  obtain ⟨h1, h2⟩ := List.getElem?_eq_some_iff.1 h
  rw [List.drop_eq_getElem_cons h1, h2, linkE]
theorem linkI_drop (is : List Ino) (q : Nat) (x : Ino) (num : Int) (h : is[q]? = some x) : linkI (is.drop q) num = (if x.dir then linkE x.ents num else 0) + linkI (is.drop (q + 1)) num := by
  obtain ⟨h1, h2⟩ := List.getElem?_eq_some_iff.1 h
  rw [List.drop_eq_getElem_cons h1, h2, linkI]
set_option maxRecDepth 100000 in
set_option maxHeartbeats 8000000 in
theorem mlinks_any (v : Value) (s : St) (num : Int) (w : World) (h : StAt none w v s) :
    Calls Try.prog 28 #[v, .int .i64 num] w fun e w' => e = .returned (.int .i64 (linkI s.inos num : Nat)) ∧ Below w.heap.size w w' := by
  obtain ⟨⟨A, n, c, B, m, d, D, k, e, rfl, hI, hD, hM, h5, h6, h7⟩, hz⟩ := h
  obtain ⟨W, hW, b0, b1, b2, hal, hlt0⟩ := box_st w A n c B m d D k e
  have hbig := hz.big
  obtain ⟨R, hR⟩ : ∃ R, linkI s.inos num = R := ⟨_, rfl⟩
  have hRb : R ≤ 1099511627776 := by
    have := linkI_le s.inos num
    omega
  have hn : n ≤ 1099511627776 := by have := hI.1; omega
  have hbe : bulkE s.inos ≤ 1099511627776 := by omega
  rw [hR]
  have HR := Lib.hid hR
  have HI := Lib.hid hI
  have HAL := Lib.hid hal
  clear hI hD hM hz hbig hR hal h5 h6 h7
  go_enter Try.func28, Try.ntmps28
  go_wp2_with fail
  clear hW
  go_loopw [5, 13] (fun v3 i wr => ∃ q cnt : Nat, i = .int .i64 q ∧ v3 = .int .i64 cnt ∧ q ≤ n ∧ Below w.heap.size w wr ∧ cnt + linkI (s.inos.drop q) num = R) (fun _ i _ => n - (intOf i).toNat)
  case atStart => exact ⟨0, 0, rfl, rfl, by omega, HAL.out, by have := HR.out; simpa using this⟩
  case round =>
    obtain ⟨q, cnt, rfl, rfl, hq, hbel, hc⟩ := hrel
    have HB := Lib.hid hbel
    have hcb : cnt ≤ R := by omega
    have HIr := Lib.hid (HI.out.below hbel)
    clear hbel
    by_cases hlt : q < n
    · obtain ⟨g, off, x, E3, m3, d3, rfl, hg, hx, hd, hmem, e0, e1, e2, hok, hE, e3⟩ := HIr.out.get q hlt
      have k0 : (0 : Int) ≤ (q : Int) := by omega
      have k1 : (q : Int) < (n : Int) := by omega
      obtain ⟨V1, hV1, u0, u1, u2, u3, hal, hlt1⟩ := box_ino wr x.num x.dir E3 m3 d3 x.data
      rw [linkI_drop _ _ _ _ hx] at hc
      have HC := Lib.hid hc
      have HEV := Lib.hid (hE.below hal)
      have HBV := Lib.hid (Cv.next HB.out hal)
      have hm3 : m3 ≤ 1099511627776 := by have := hE.1; have := bulkE_le hx; omega
      obtain ⟨DX, hDX⟩ : ∃ DX, x.dir = DX := ⟨_, rfl⟩
      have HDX := Lib.hid hDX
      rw [hDX] at e1 u1 hV1
      have hcell : ∀ wz, Below V1.heap.size V1 wz → wz.cell? ⟨wr.heap.size, 1, .none⟩ = some (.bool DX) := fun wz h => (h.cell (p := ⟨wr.heap.size, 1, .none⟩) hlt1).trans u1
      have HCE := Lib.hid hcell
      clear hd hmem hE hx hal hc hDX hcell
      go_wp2_with fail
      clear hV1 e0 e1 e2 e3
      go_loopw [5, 20] (fun v3 i wz => ∃ r c2 : Nat, i = .int .i64 r ∧ v3 = .int .i64 c2 ∧ r ≤ m3 ∧ Below V1.heap.size V1 wz ∧ c2 + ((if DX then linkE (x.ents.drop r) num else 0) + linkI (s.inos.drop (q + 1)) num) = R) (fun _ i _ => m3 - (intOf i).toNat)
      case atStart => exact ⟨0, cnt, rfl, rfl, by omega, Below.refl _ _, by have := HC.out; rw [HDX.out] at this; simpa using this⟩
      case round =>
        obtain ⟨r, c2, rfl, rfl, hr, hbel, hc⟩ := hrel
        have HBz := Lib.hid hbel
        have HEz := Lib.hid (HEV.out.below hbel)
        have z1 := HCE.out _ hbel
        have hcb2 : c2 ≤ R := by omega
        clear hbel
        by_cases hlt2 : r < m3
        · obtain ⟨g3, off3, e, rfl, hg3, he, hd3, hmem3, f0, f1⟩ := HEz.out.get r hlt2
          have r0 : (0 : Int) ≤ (r : Int) := by omega
          have r1 : (r : Int) < (m3 : Int) := by omega
          obtain ⟨V2, hV2, v0, v1, hal, hlt3⟩ := box_en wr e.name e.num
          have z2 := HCE.out _ (Cv.next HBz.out hal)
          have HB4 := Lib.hid (Cv.next HBz.out hal)
          rw [linkE_drop _ _ _ _ he] at hc
          obtain ⟨NX, hNX⟩ : ∃ NX, (e.num == num) = NX := ⟨_, rfl⟩
          have hif : (if e.num = num then 1 else 0) = (if NX then 1 else 0) := by
            rw [← hNX]
            by_cases h : e.num = num <;> simp [h]
          rw [hif] at hc
          have HC2 := Lib.hid hc
          have cw : IntKind.i64.wrap ((c2 : Int) + 1) = (c2 : Int) + 1 := by rw [IntKind.wrap_i64]; omega
          clear hc hd3 hmem3 he hal hif
          cases DX
          · go_wp2_with fail
            go_roundw
            case rel => exact ⟨r + 1, c2, by go_num, rfl, by omega, HB4.out, by have := HC2.out; simpa using this⟩
            case measure => simp [intOf]; omega
          · cases NX
            · go_wp2_with fail
              go_roundw
              case rel => exact ⟨r + 1, c2, by go_num, rfl, by omega, HB4.out, by have := HC2.out; simp at this ⊢; omega⟩
              case measure => simp [intOf]; omega
            · go_wp2_with fail
              go_roundw
              case rel => exact ⟨r + 1, c2 + 1, by go_num, by go_num, by omega, HB4.out, by have := HC2.out; simp at this ⊢; omega⟩
              case measure => simp [intOf]; omega
        · have q9 : decide ((r : Int) < (m3 : Int)) = false := by rw [decide_eq_false_iff_not]; omega
          have hnil : x.ents.drop r = [] := List.drop_eq_nil_of_le (by have := HEz.out.1; omega)
          rw [hnil] at hc
          have HC2 := Lib.hid hc
          clear hc hnil
          go_wp2_with fail
          go_roundw
          case rel => exact ⟨q + 1, c2, by go_num, rfl, by omega, Cv.next HBV.out HBz.out, by have := HC2.out; simpa [linkE] using this⟩
          case measure => simp [intOf]; omega
    · have hnil : s.inos.drop q = [] := List.drop_eq_nil_of_le (by have := HIr.out.1; omega)
      rw [hnil, linkI] at hc
      have hcr : cnt = R := by omega
      have HC := Lib.hid hcr
      have q9 : decide ((q : Int) < (n : Int)) = false := by rw [decide_eq_false_iff_not]; omega
      clear hc hnil hcr
      go_wp2_with fail
      go_ret
      exact ⟨by have h := HC.out; rw [h]; rfl, HB.out⟩
end Go.Proofs.Ytghlgnklnbcppaa

/- slices.Clone of inodes: by its contract. -/
namespace Go.Proofs.Ytghlgnklnbcppaa
open Go.RowKit
set_option linter.unusedVariables false
set_option linter.unusedSimpArgs false
theorem eql_slice_nil {P : Program} (t e : TypeId) (h : P.underlying t = some (.slice e)) (a : Option Addr) (l c : Nat) (w : World) : (binOp .eql t (.slice a l c) (.slice .none 0 0)).run P w = .ok (.bool a.isNone) w := by
  simp only [binOp]
  simp [run_equal_slice_nil w t e a l c h]
theorem InosAt.of_row0 {B : Nat} {w : World} {v : Value} {n : Nat} {zs : List (Ino × Value)} (h : w.ownsRow B 72 4 v n (zs.flatMap inoV)) (he : ∀ z ∈ zs, ∃ A m c, z.2 = .slice A m c ∧ SlOk A m c ∧ EntsAt none w A m z.1.ents) :
    ∃ A c, v = .slice A n c ∧ SlOk A n c ∧ InosAt none w A n (zs.map Prod.fst) := by
  obtain ⟨A, c, hv, hc, hn, hg⟩ := row_any h (by decide)
  have hl : zs.length = n := by
    have h1 := h.1
    rw [flat_len inoV 4 (fun x => rfl)] at h1
    omega
  refine ⟨A, c, hv, ⟨hc, fun e => (hn e).2⟩, by simpa using hl, fun h0 => ?_⟩
  obtain ⟨g, hA, hlt, hm, hcell⟩ := hg h0
  refine ⟨g, 0, hA, hlt, Mine.any _ _ _, fun j x hx => ?_⟩
  rw [List.getElem?_map] at hx
  obtain ⟨z, hz, rfl⟩ := Option.map_eq_some_iff.1 hx
  have hj : j < zs.length := (List.getElem?_eq_some_iff.1 hz).1
  have f := flat_get inoV 4 (fun x => rfl) zs j z hz
  obtain ⟨E, m, d, he, hmd, hents⟩ := he z (List.mem_of_getElem? hz)
  refine ⟨?_, ?_, ⟨E, m, d, ?_, hmd, hents⟩, ?_⟩
  · rw [Nat.zero_add, hcell (j * 4) (by omega)]
    exact f 0 (by omega)
  · rw [Nat.zero_add, hcell (j * 4 + 1) (by omega)]
    exact f 1 (by omega)
  · rw [Nat.zero_add, hcell (j * 4 + 2) (by omega), ← he]
    exact f 2 (by omega)
  · rw [Nat.zero_add, hcell (j * 4 + 3) (by omega)]
    exact f 3 (by omega)
theorem InosAt.zs {w : World} {g off n : Nat} {is : List Ino} (h : InosAt none w (some ⟨g, off, none⟩) n is) (hn : 0 < n) :
    ∃ zs : List (Ino × Value), zs.map Prod.fst = is ∧ (∀ z ∈ zs, ∃ A m c, z.2 = .slice A m c ∧ SlOk A m c ∧ EntsAt none w A m z.1.ents) ∧ ∀ j u, (zs.flatMap inoV)[j]? = some u → w.cell? ((⟨g, off, none⟩ : Addr).add j) = some u := by
  obtain ⟨g', off', hA, hg, _, hc⟩ := h.2 hn
  injection hA with hA
  injection hA with e1 e2
  subst e1 e2
  obtain ⟨zs, hzs⟩ : ∃ zs : List (Ino × Value), zs = is.mapIdx (fun j x => (x, (w.cell? ⟨g, off + j * 4 + 2, none⟩).getD (.bool false))) := ⟨_, rfl⟩
  have hget : ∀ j z, zs[j]? = some z → ∃ x, is[j]? = some x ∧ z = (x, (w.cell? ⟨g, off + j * 4 + 2, none⟩).getD (.bool false)) := by
    intro j z hz
    rw [hzs, List.getElem?_mapIdx] at hz
    obtain ⟨x, hx, he⟩ := Option.map_eq_some_iff.1 hz
    exact ⟨x, hx, he.symm⟩
  refine ⟨zs, ?_, ?_, ?_⟩
  · apply List.ext_getElem?
    intro j
    rw [hzs, List.getElem?_map, List.getElem?_mapIdx]
    cases is[j]? <;> rfl
  · intro z hz
    obtain ⟨j, hj⟩ := List.getElem?_of_mem hz
    obtain ⟨x, hx, rfl⟩ := hget j z hj
    obtain ⟨_, _, ⟨B, m, c, h3, h4, h5⟩, _⟩ := hc j x hx
    exact ⟨B, m, c, by simp [h3], h4, h5⟩
  · refine flat_cells inoV 4 (fun _ => rfl) (by decide) zs (fun j z hz i hi => ?_)
    obtain ⟨x, hx, rfl⟩ := hget j z hz
    obtain ⟨h1, h2, ⟨B, m, c, h3, _, _⟩, h4⟩ := hc j x hx
    rcases i with _ | _ | _ | _ | i
    · exact h1
    · exact h2
    · show w.cell? ⟨g, off + j * 4 + 2, none⟩ = some ((w.cell? ⟨g, off + j * 4 + 2, none⟩).getD (.bool false))
      rw [h3]; rfl
    · exact h4
    · omega
/-- A row of inodes of one's own (block g), their entries as they lay in a world. -/
structure Kept (W0 w : World) (g n : Nat) (zs : List (Ino × Value)) : Prop where
  row : ∃ cur, w.heap[g]? = some (.cells cur 72 (0, 0)) ∧ ∀ (j : Nat) (v : Value), (zs.flatMap inoV)[j]? = some v → cur[j]? = some v
  len : zs.length = n
  ents : ∀ z ∈ zs, ∃ A m c, z.2 = .slice A m c ∧ SlOk A m c ∧ EntsAt none W0 A m z.1.ents
theorem Kept.lt {W0 w : World} {g n : Nat} {zs : List (Ino × Value)} (h : Kept W0 w g n zs) : g < w.heap.size := by
  obtain ⟨cur, h1, _⟩ := h.row
  exact (Array.getElem?_eq_some_iff.1 h1).1
theorem Kept.same {W0 w w' : World} {g n : Nat} {zs : List (Ino × Value)} (h : Kept W0 w g n zs) (hb : ∀ cur, w.heap[g]? = some (.cells cur 72 (0, 0)) → w'.heap[g]? = some (.cells cur 72 (0, 0))) : Kept W0 w' g n zs := by
  obtain ⟨cur, h1, h2⟩ := h.row
  exact ⟨⟨cur, hb cur h1, h2⟩, h.len, h.ents⟩
theorem Kept.below {W0 w w' : World} {g n : Nat} {zs : List (Ino × Value)} (h : Kept W0 w g n zs) (hb : Below w.heap.size w w') : Kept W0 w' g n zs :=
  h.same fun cur h1 => (hb.block g (Array.getElem?_eq_some_iff.1 h1).1).trans h1
theorem Kept.wr {W0 w w' : World} {B b g n : Nat} {zs : List (Ino × Value)} (h : Kept W0 w g n zs) (hb : Wr B b w w') (hne : g ≠ b) : Kept W0 w' g n zs :=
  h.same fun cur h1 => hb.keep g _ h1 hne (by intro cs fr h9; injection h9 with _ h9; exact absurd h9 (by decide))
theorem Kept.get {W0 w : World} {g n : Nat} {zs : List (Ino × Value)} (h : Kept W0 w g n zs) (j : Nat) (hj : j < n) : ∃ x A m c, (zs.map Prod.fst)[j]? = some x ∧ SlOk A m c ∧ EntsAt none W0 A m x.ents ∧
    w.cell? ⟨g, j * 4, none⟩ = some (.int .i64 x.num) ∧ w.cell? ⟨g, j * 4 + 1, none⟩ = some (.bool x.dir) ∧ w.cell? ⟨g, j * 4 + 2, none⟩ = some (.slice A m c) ∧ w.cell? ⟨g, j * 4 + 3, none⟩ = some (.string x.data) := by
  obtain ⟨cur, h1, h2⟩ := h.row
  have hl : j < zs.length := by rw [h.len]; exact hj
  obtain ⟨z, hz⟩ : ∃ z, zs[j]? = some z := ⟨_, List.getElem?_eq_getElem hl⟩
  have f := flat_get inoV 4 (fun x => rfl) zs j z hz
  obtain ⟨A, m, c, he, hok, hE⟩ := h.ents z (List.mem_of_getElem? hz)
  refine ⟨z.1, A, m, c, by rw [List.getElem?_map, hz]; rfl, hok, hE, ?_, ?_, ?_, ?_⟩
  · rw [cell_of_row w g _ cur _ (0, 0) h1]; exact h2 _ _ (f 0 (by omega))
  · rw [cell_of_row w g _ cur _ (0, 0) h1]; exact h2 _ _ (f 1 (by omega))
  · rw [cell_of_row w g _ cur _ (0, 0) h1, ← he]; exact h2 _ _ (f 2 (by omega))
  · rw [cell_of_row w g _ cur _ (0, 0) h1]; exact h2 _ _ (f 3 (by omega))
theorem Kept.cells {W0 w : World} {g n : Nat} {zs : List (Ino × Value)} (h : Kept W0 w g n zs) {j : Nat} {z : Ino × Value} {A : Option Addr} {m c : Nat} (hz : zs[j]? = some z) (he : z.2 = .slice A m c) :
    w.cell? ⟨g, j * 4, none⟩ = some (.int .i64 z.1.num) ∧ w.cell? ⟨g, j * 4 + 1, none⟩ = some (.bool z.1.dir) ∧ w.cell? ⟨g, j * 4 + 2, none⟩ = some (.slice A m c) ∧ w.cell? ⟨g, j * 4 + 3, none⟩ = some (.string z.1.data) := by
  obtain ⟨cur, h1, h2⟩ := h.row
  have f := flat_get inoV 4 (fun x => rfl) zs j z hz
  refine ⟨?_, ?_, ?_, ?_⟩
  · rw [cell_of_row w g _ cur _ (0, 0) h1]; exact h2 _ _ (f 0 (by omega))
  · rw [cell_of_row w g _ cur _ (0, 0) h1]; exact h2 _ _ (f 1 (by omega))
  · rw [cell_of_row w g _ cur _ (0, 0) h1, ← he]; exact h2 _ _ (f 2 (by omega))
  · rw [cell_of_row w g _ cur _ (0, 0) h1]; exact h2 _ _ (f 3 (by omega))
theorem Kept.inos {W0 w : World} {g n : Nat} {zs : List (Ino × Value)} (h : Kept W0 w g n zs) (hb : Below W0.heap.size W0 w) : InosAt none w (some ⟨g, 0, none⟩) n (zs.map Prod.fst) := by
  refine ⟨by rw [List.length_map, h.len], fun _ => ⟨g, 0, rfl, h.lt, Mine.any _ _ _, fun j x hx => ?_⟩⟩
  have hj : j < n := by
    have := (List.getElem?_eq_some_iff.1 hx).1
    rw [List.length_map, h.len] at this
    exact this
  obtain ⟨y, A, m, c, h1, h2, h3, h4, h5, h6, h7⟩ := h.get j hj
  have : y = x := by rw [h1] at hx; exact Option.some.inj hx
  subst this
  rw [Nat.zero_add]
  exact ⟨h4, h5, ⟨A, m, c, h6, h2, h3.below hb⟩, h7⟩
theorem Kept.of_row {W0 w : World} {B n : Nat} {v : Value} {zs : List (Ino × Value)} (h : w.ownsRow B 72 4 v n (zs.flatMap inoV)) (hn : 0 < n) (he : ∀ z ∈ zs, ∃ A m c, z.2 = .slice A m c ∧ SlOk A m c ∧ EntsAt none W0 A m z.1.ents) :
    ∃ g c, v = .slice (some ⟨g, 0, none⟩) n c ∧ n ≤ c ∧ B ≤ g ∧ Kept W0 w g n zs := by
  have hl : zs.length = n := by
    have h1 := h.1
    rw [flat_len inoV 4 (fun x => rfl)] at h1
    omega
  rcases h.2 with ⟨_, h0⟩ | ⟨g, cap, cur, rfl, hb, hg, hnc, hcm, hcs, htk⟩
  · omega
  · refine ⟨g, cap, rfl, hnc, hb, ⟨cur, hg, fun j v hv => ?_⟩, hl, he⟩
    rw [← htk, List.getElem?_take] at hv
    split at hv
    · rw [← Array.getElem?_toList]; exact hv
    · cases hv
theorem inoV_one {w : World} (zs : List (Ino × Value)) (he : ∀ z ∈ zs, ∃ A m c, z.2 = .slice A m c ∧ SlOk A m c ∧ EntsAt none w A m z.1.ents) : ∀ u ∈ zs.flatMap inoV, u.oneCell' = true := by
  intro u hu
  obtain ⟨z, hz, hu2⟩ := List.mem_flatMap.1 hu
  obtain ⟨A, m, c, h1, _⟩ := he z hz
  simp [inoV, h1] at hu2
  rcases hu2 with rfl | rfl | rfl | rfl <;> rfl
set_option maxRecDepth 100000 in
set_option maxHeartbeats 2000000 in
theorem cloneinos_any (is : List Ino) (A : Option Addr) (n c : Nat) (W0 w : World) (h : InosAt none W0 A n is) (hb0 : Below W0.heap.size W0 w) (h0 : 0 < n) (hn : n ≤ 65536) :
    Calls Try.prog 25 #[.slice A n c] w fun e w' => ∃ g c' zs, e = .returned (.slice (some ⟨g, 0, .none⟩) n c') ∧ n ≤ c' ∧ w.heap.size ≤ g ∧ Kept W0 w' g n zs ∧ zs.map Prod.fst = is ∧ Below w.heap.size w w' := by
  obtain ⟨g, off, x, E, m, d, rfl, hg, _⟩ := h.get 0 h0
  have hal : Below w.heap.size w (w.alloc (.cells #[] 72)) := (Below.refl _ _).alloc (Nat.le_refl _) _
  obtain ⟨zs, hz1, hz2, hz3'⟩ := h.zs h0
  have hz3 : ∀ j u, (zs.flatMap inoV)[j]? = some u → (w.alloc (.cells #[] 72)).cell? ((⟨g, off, none⟩ : Addr).add j) = some u := by
    intro j u hu
    have h1 := hz3' j u hu
    rw [Addr.add_lit] at h1 ⊢
    exact (hal.cell (p := ⟨g, off + j, none⟩) (Nat.lt_of_lt_of_le hg hb0.size)).trans ((hb0.cell (p := ⟨g, off + j, none⟩) hg).trans h1)
  have hown := row_empty w w.heap.size 72 4 (Nat.le_refl _)
  have hlen : (zs.flatMap inoV).length = n * 4 := by
    rw [flat_len inoV 4 (fun _ => rfl)]
    have := congrArg List.length hz1
    rw [List.length_map] at this
    have := h.1
    omega
  have HO := Lib.hid hown
  have HL := Lib.hid hlen
  have HZ1 := Lib.hid hz1
  have HZ2 := Lib.hid hz2
  have HZ3 := Lib.hid hz3
  have HAL := Lib.hid hal
  have heq := eql_slice_nil (P := Try.prog) 22 72 Try.underlying22
  clear h hown hlen hz1 hz2 hz3 hz3' hal hb0 hg
  go_enter Try.func25, Try.ntmps25
  go_wp2_with (at_builtin; refine wpList_append_flat rfl _ _ 22 72 (.agg #[.int .i64 0, .bool false, .slice none 0 0, .string ⟨#[]⟩]) 4 56 rfl Try.underlying22 infoIno rfl (by decide) w.heap.size _ 0 [] rfl HO.out (some ⟨g, off, .none⟩) n c (zs.flatMap inoV) rfl HL.out (fun ad had => by cases had; exact HZ3.out) (fun e => by cases e) (inoV_one zs HZ2.out) ?h63 ?hb ?hB ?_)
  case h63 => unfold maxLen; omega
  case hb => omega
  case hB => exact HAL.out.size
  intro v' w2 hown' hgrow
  have hb2 : Below w.heap.size w w2 := HAL.out.grown hgrow HAL.out.size fun x hx => (HO.out.lt x hx).1
  have hown2 : w2.ownsRow w.heap.size 72 4 v' n (zs.flatMap inoV) := by simpa using hown'
  obtain ⟨g', c', rfl, hok, hgb, hK⟩ := Kept.of_row hown2 h0 HZ2.out
  have HB2 := Lib.hid hb2
  have HK := Lib.hid hK
  clear hown' hown2 hgrow hb2 hK
  go_wp2_with fail
  go_ret
  exact ⟨g', c', zs, rfl, hok, hgb, HK.out, HZ1.out, HB2.out⟩
end Go.Proofs.Ytghlgnklnbcppaa
