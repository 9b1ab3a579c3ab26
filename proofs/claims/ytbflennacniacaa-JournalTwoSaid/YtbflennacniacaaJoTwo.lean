/- Two journals on one memory, in plain words and in memory. -/
import Derived.Test.YtbflennacniacaaAwake21
namespace Go.Proofs.Ytbflennacniacaa
open Go.RowKit
set_option linter.unusedVariables false
/-- Words elsewhere turn nothing. -/
theorem Good.frame {J : JD} {M M' : PM} {f f' : Nat → Nat} (h : Good J M f) (hc : Clean M' M'.n f') (hn : M'.n = M.n) (hf : ∀ j, J.start ≤ j → j < J.start + 2 * halfN J.words → f' j = f j) : Good J M' f' := by
  have hw := h.fit.words
  have hh : 8 ≤ halfN J.words := by unfold halfN; omega
  have hl : ∀ k, k ≤ 1 → lookP f' (baseN J k) (halfN J.words) = lookP f (baseN J k) (halfN J.words) := fun k hk => by
    refine lookP_congr hh fun i hi => hf _ ?_ ?_
    · unfold baseN; omega
    · unfold baseN
      have : k * halfN J.words ≤ halfN J.words := by
        have := Nat.mul_le_mul_right (halfN J.words) hk
        omega
      omega
  exact ⟨hc, ⟨h.fit.words, h.fit.start, fun k hk => by rw [hn]; exact h.fit.room k hk⟩, h.area, h.start8, h.turn, by rw [hl _ h.area]; exact h.holds, fun t s e => by rw [hl _ (by omega)] at e; exact h.other t s e⟩
/-- Where put writes. -/
theorem put_range {J : JD} {M : PM} {f : Nat → Nat} (h : Weak J M f) (s : ByteArray) (hs : s.size ≤ 2 * J.words - 64) (t j : Nat) (hj : j < J.start ∨ J.start + 2 * halfN J.words ≤ j) : putF f J.other t s.data.toList j = f j := by
  have hw := h.fit.words
  have hb := JD.other_base (J := J) h.start8
  have hsl : s.data.toList.length = s.size := by simp
  have hLw := wordsT_pos s.data.toList
  obtain ⟨H, hH⟩ : ∃ H, halfN J.words = H := ⟨_, rfl⟩
  have hHb : 32 ≤ H ∧ J.words < 2 * H + 16 := by rw [← hH]; unfold halfN; omega
  unfold baseN at hb
  rw [hH] at hb hj
  have hk : (1 - J.area) * H ≤ H := by
    have := Nat.mul_le_mul_right H (show 1 - J.area ≤ 1 by omega)
    omega
  exact putF_other f _ t _ j (by omega)
theorem block_of {w w' : World} {b : Nat} {o : Obj} (hb : Below w.heap.size w w') (h : w.heap[b]? = some o) : w'.heap[b]? = some o := (hb.block b (Array.getElem?_eq_some_iff.1 h).1).trans h
structure Two (w0 w : World) (a jx jy lb : Nat) (T : TypeId) (Jx Jy : JD) (M : PM) (l0 l1 : ByteArray) : Prop where
  mem : ∃ F : PF, F.a = a ∧ Mem w F M ∧ ∀ k, F.has k → w0.heap.size ≤ k ∧ k ≠ jx ∧ k ≠ jy ∧ k ≠ lb
  bel : Below w0.heap.size w0 w
  bx : w.heap[jx]? = some (jblk a Jx)
  by_ : w.heap[jy]? = some (jblk a Jy)
  bl : w.heap[lb]? = some (.cells #[.string l0, .string l1] T (0, 0))
  low : w0.heap.size ≤ jx ∧ w0.heap.size ≤ jy ∧ w0.heap.size ≤ lb
  ne : jx ≠ jy ∧ jx ≠ lb ∧ jy ≠ lb
theorem Two.x {w0 w : World} {a jx jy lb : Nat} {T : TypeId} {Jx Jy : JD} {M : PM} {l0 l1 : ByteArray} (h : Two w0 w a jx jy lb T Jx Jy M l0 l1) : Jour w0 w w (fun k => k = jy ∨ k = lb) jx a Jx M := by
  obtain ⟨F, h1, h2, h3⟩ := h.mem
  refine ⟨⟨F, h1, h2, fun k hk => ⟨(h3 k hk).1, (h3 k hk).2.1, fun hh => ?_⟩⟩, h.bel, h.bx, h.low.1, fun k hk => ?_⟩
  · rcases hh with e | e
    · exact (h3 k hk).2.2.1 e
    · exact (h3 k hk).2.2.2 e
  · rcases hk with e | e
    · exact ⟨by rw [e]; exact (Array.getElem?_eq_some_iff.1 h.by_).1, rfl, by rw [e]; exact Ne.symm h.ne.1⟩
    · exact ⟨by rw [e]; exact (Array.getElem?_eq_some_iff.1 h.bl).1, rfl, by rw [e]; exact Ne.symm h.ne.2.1⟩
theorem Two.y {w0 w : World} {a jx jy lb : Nat} {T : TypeId} {Jx Jy : JD} {M : PM} {l0 l1 : ByteArray} (h : Two w0 w a jx jy lb T Jx Jy M l0 l1) : Jour w0 w w (fun k => k = jx ∨ k = lb) jy a Jy M := by
  obtain ⟨F, h1, h2, h3⟩ := h.mem
  refine ⟨⟨F, h1, h2, fun k hk => ⟨(h3 k hk).1, (h3 k hk).2.2.1, fun hh => ?_⟩⟩, h.bel, h.by_, h.low.2.1, fun k hk => ?_⟩
  · rcases hh with e | e
    · exact (h3 k hk).2.1 e
    · exact (h3 k hk).2.2.2 e
  · rcases hk with e | e
    · exact ⟨by rw [e]; exact (Array.getElem?_eq_some_iff.1 h.bx).1, rfl, by rw [e]; exact h.ne.1⟩
    · exact ⟨by rw [e]; exact (Array.getElem?_eq_some_iff.1 h.bl).1, rfl, by rw [e]; exact Ne.symm h.ne.2.2⟩
theorem Two.of_x {w0 w w' : World} {a jx jy lb : Nat} {T : TypeId} {Jx Jx' Jy : JD} {M M' : PM} {l0 l1 : ByteArray} (h : Two w0 w a jx jy lb T Jx Jy M l0 l1) (h' : Jour w0 w w' (fun k => k = jy ∨ k = lb) jx a Jx' M') : Two w0 w' a jx jy lb T Jx' Jy M' l0 l1 := by
  obtain ⟨F, h1, h2, h3⟩ := h'.mem
  exact ⟨⟨F, h1, h2, fun k hk => ⟨(h3 k hk).1, (h3 k hk).2.1, fun e => (h3 k hk).2.2 (.inl e), fun e => (h3 k hk).2.2 (.inr e)⟩⟩, h'.bel, h'.blk, (h'.zblock jy (.inl rfl)).trans h.by_, (h'.zblock lb (.inr rfl)).trans h.bl, h.low, h.ne⟩
theorem Two.of_y {w0 w w' : World} {a jx jy lb : Nat} {T : TypeId} {Jx Jy Jy' : JD} {M M' : PM} {l0 l1 : ByteArray} (h : Two w0 w a jx jy lb T Jx Jy M l0 l1) (h' : Jour w0 w w' (fun k => k = jx ∨ k = lb) jy a Jy' M') : Two w0 w' a jx jy lb T Jx Jy' M' l0 l1 := by
  obtain ⟨F, h1, h2, h3⟩ := h'.mem
  exact ⟨⟨F, h1, h2, fun k hk => ⟨(h3 k hk).1, fun e => (h3 k hk).2.2 (.inl e), (h3 k hk).2.1, fun e => (h3 k hk).2.2 (.inr e)⟩⟩, h'.bel, (h'.zblock jx (.inl rfl)).trans h.bx, h'.blk, (h'.zblock lb (.inr rfl)).trans h.bl, h.low, h.ne⟩
theorem Two.setL {w0 w : World} {a jx jy lb : Nat} {T : TypeId} {Jx Jy : JD} {M : PM} {l0 l1 m0 m1 : ByteArray} (h : Two w0 w a jx jy lb T Jx Jy M l0 l1) (i : Nat) (v : Value) (hb : (#[.string l0, .string l1] : Array Value).setIfInBounds i v = #[.string m0, .string m1]) : Two w0 (w.setCell ⟨lb, i, .none⟩ v) a jx jy lb T Jx Jy M m0 m1 := by
  have other : ∀ k, k ≠ lb → (w.setCell ⟨lb, i, .none⟩ v).heap[k]? = w.heap[k]? := fun k hk => Below.heap_setCell w ⟨lb, i, .none⟩ v k hk
  obtain ⟨F, h1, h2, h3⟩ := h.mem
  refine ⟨⟨F, h1, h2.same fun k hk => other k (h3 k hk).2.2.2, h3⟩, h.bel.setCell h.low.2.2 _, (other _ h.ne.2.1).trans h.bx, (other _ h.ne.2.2).trans h.by_, ?_, h.low, h.ne⟩
  rw [heap_setCell_same w lb i _ _ v h.bl, hb]
theorem Two.below {w0 w w' : World} {a jx jy lb : Nat} {T : TypeId} {Jx Jy : JD} {M : PM} {l0 l1 : ByteArray} (h : Two w0 w a jx jy lb T Jx Jy M l0 l1) (hb : Below w.heap.size w w') : Two w0 w' a jx jy lb T Jx Jy M l0 l1 := by
  obtain ⟨F, h1, h2, h3⟩ := h.mem
  exact ⟨⟨F, h1, h2.below hb, h3⟩, Cv.next h.bel hb, block_of hb h.bx, block_of hb h.by_, block_of hb h.bl, h.low, h.ne⟩
/-- Each holds what was written to it last. -/
structure Pair (Jx Jy : JD) (M : PM) (f : Nat → Nat) (l0 l1 : ByteArray) (K : Nat) : Prop where
  gx : Good Jx M f
  gy : Good Jy M f
  sx : Jx.start = 0 ∧ Jx.words = 128 ∧ Jx.text = l0
  sy : Jy.start = 128 ∧ Jy.words = 128 ∧ Jy.text = l1
  n : M.n = 32
  ok : M.ok K
theorem Pair.x {Jx Jy : JD} {M : PM} {f : Nat → Nat} {l0 l1 : ByteArray} {K : Nat} (h : Pair Jx Jy M f l0 l1 K) (s : ByteArray) (hs : s.size ≤ 100) : ∃ f', Pair (Jx.put s) Jy (writeM Jx M s) f' s l1 (K + 20000) := by
  have h1 := put_good h.gx.weak s (by rw [h.sx.2.1]; omega)
  refine ⟨_, h1.1, h.gy.frame h1.1.clean h1.2 fun j hj1 hj2 => ?_, ⟨h.sx.1, h.sx.2.1, rfl⟩, h.sy, h1.2.trans h.n, writeM_ok h.ok Jx s (by omega)⟩
  refine put_range h.gx.weak s (by rw [h.sx.2.1]; omega) _ j (.inr ?_)
  rw [h.sx.1, h.sx.2.1]
  rw [h.sy.1] at hj1
  show 0 + 2 * (128 / 2 / 8 * 8) ≤ j
  omega
theorem Pair.y {Jx Jy : JD} {M : PM} {f : Nat → Nat} {l0 l1 : ByteArray} {K : Nat} (h : Pair Jx Jy M f l0 l1 K) (s : ByteArray) (hs : s.size ≤ 100) : ∃ f', Pair Jx (Jy.put s) (writeM Jy M s) f' l0 s (K + 20000) := by
  have h1 := put_good h.gy.weak s (by rw [h.sy.2.1]; omega)
  refine ⟨_, h.gx.frame h1.1.clean h1.2 fun j hj1 hj2 => ?_, h1.1, h.sx, ⟨h.sy.1, h.sy.2.1, rfl⟩, h1.2.trans h.n, writeM_ok h.ok Jy s (by omega)⟩
  refine put_range h.gy.weak s (by rw [h.sy.2.1]; omega) _ j (.inl ?_)
  rw [h.sy.1]
  rw [h.sx.1, h.sx.2.1] at hj2
  have : 2 * halfN 128 = 128 := by decide
  omega
theorem may_two : mayB 32 (0 : Nat) (128 : Nat) = true ∧ mayB 32 (128 : Nat) (128 : Nat) = true := by decide +kernel
def twoX : JD := (newJ (PM.fresh 32) 0 128).put ByteArray.empty
def twoM1 : PM := newM (PM.fresh 32) 0 128
def twoY : JD := (newJ twoM1 128 128).put ByteArray.empty
def twoM2 : PM := newM twoM1 128 128
theorem two_first : ∃ f, Good twoX twoM1 f ∧ twoM1.n = 32 ∧ twoM1.ok 20000 := by
  have h := new_good (M := PM.fresh 32) (Clean.fresh 32) may_two.1 (by show 32 ≤ 1024; omega)
  exact ⟨_, h.1, h.2, newM_ok (PM.ok.fresh 32) 0 128⟩
theorem two_pair : ∃ f, Pair twoX twoY twoM2 f ByteArray.empty ByteArray.empty 40000 := by
  obtain ⟨f, hg, hn, hok⟩ := two_first
  have hmay : mayB twoM1.n (128 : Nat) (128 : Nat) = true := by rw [hn]; exact may_two.2
  have hk := newJ_keeps (PM.fresh 32) 0 128
  have hk2 := newJ_keeps twoM1 128 128
  have hkx : (newJ twoM1 128 128).start = 128 ∧ (newJ twoM1 128 128).words = 128 := hk2
  have hwk := new_weak (M := twoM1) (f := f) (start := 128) (words := 128) hg.clean hmay (by rw [hn]; omega)
  have h2 := put_good hwk ByteArray.empty (Nat.zero_le _)
  refine ⟨_, hg.frame h2.1.clean h2.2 fun j hj1 hj2 => ?_, h2.1, ⟨hk.1, hk.2, rfl⟩, ⟨hk2.1, hk2.2, rfl⟩, h2.2.trans hn, newM_ok hok 128 128⟩
  refine put_range hwk ByteArray.empty (Nat.zero_le _) _ j (.inl ?_)
  rw [hkx.1]
  have e : twoX.start = 0 ∧ twoX.words = 128 := hk
  rw [e.1, e.2] at hj2
  have : 2 * halfN 128 = 128 := by decide
  omega
end Go.Proofs.Ytbflennacniacaa
