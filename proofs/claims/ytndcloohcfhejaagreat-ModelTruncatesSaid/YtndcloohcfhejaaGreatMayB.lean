/- The state 'made' with other bytes in its files may be. No program in sight. -/
import Derived.Test.YtndcloohcfhejaaGreatM41
import Derived.KernelRfl
set_option linter.unusedVariables false
set_option linter.unusedSimpArgs false
namespace Go.Proofs.YtndcloohcfhejaaGreat
def stB (o : List Ds) (D E : ByteArray) : St := ⟨[⟨1, true, [⟨⟨#[100]⟩, 2⟩, ⟨⟨#[101]⟩, 10⟩, ⟨⟨#[102]⟩, 18⟩, ⟨⟨#[103]⟩, 18⟩], ⟨#[]⟩⟩, ⟨2, true, [⟨⟨#[104]⟩, 26⟩], ⟨#[]⟩⟩, ⟨10, true, [], ⟨#[]⟩⟩, ⟨18, false, [], D⟩, ⟨26, false, [], E⟩], o, [4]⟩
def opn1 : List Ds := [⟨0, 0, 18⟩]
def opn2 : List Ds := [⟨0, 0, 18⟩, ⟨0, 1, 26⟩]
theorem may_stB (o : List Ds) (ho : o = opn1 ∨ o = opn2) (D E : ByteArray) (hD : D.size ≤ 256) (hE : E.size ≤ 256) : mayV (stB o D E) = true := by
 have h1 : decide (256 < D.size) = false := decide_eq_false_iff_not.2 (by omega)
 have h2 : decide (256 < E.size) = false := decide_eq_false_iff_not.2 (by omega)
 have e7 : entsV (stB o D E).inos [] = true := by kernel_rfl
 have hr : reachV (stB o D E).inos = [true, true, true, true, true] := by kernel_rfl
 have bD : inoBad (stB o D E) (some 10) ⟨18, false, [], D⟩ = false := by
  show (badNum [4] (some 10) 18 || decide (256 < D.size) || (false && decide (D.size ≠ 0)) || (!false && !([] : List En).isEmpty) || !entsV (stB o D E).inos []) = false
  rw [h1, e7]
  rfl
 have bE : inoBad (stB o D E) (some 18) ⟨26, false, [], E⟩ = false := by
  show (badNum [4] (some 18) 26 || decide (256 < E.size) || (false && decide (E.size ≠ 0)) || (!false && !([] : List En).isEmpty) || !entsV (stB o D E).inos []) = false
  rw [h2, e7]
  rfl
 have lD : inoLost (stB o D E) false ⟨18, false, [], D⟩ true = false := by kernel_rfl
 have lE : inoLost (stB o D E) false ⟨26, false, [], E⟩ true = false := by kernel_rfl
 have b1 : inoBad (stB o D E) none ⟨1, true, [⟨⟨#[100]⟩, 2⟩, ⟨⟨#[101]⟩, 10⟩, ⟨⟨#[102]⟩, 18⟩, ⟨⟨#[103]⟩, 18⟩], ⟨#[]⟩⟩ = false := by kernel_rfl
 have b2 : inoBad (stB o D E) (some 1) ⟨2, true, [⟨⟨#[104]⟩, 26⟩], ⟨#[]⟩⟩ = false := by kernel_rfl
 have b3 : inoBad (stB o D E) (some 2) ⟨10, true, [], ⟨#[]⟩⟩ = false := by kernel_rfl
 have l1 : inoLost (stB o D E) true ⟨1, true, [⟨⟨#[100]⟩, 2⟩, ⟨⟨#[101]⟩, 10⟩, ⟨⟨#[102]⟩, 18⟩, ⟨⟨#[103]⟩, 18⟩], ⟨#[]⟩⟩ true = false := by kernel_rfl
 have l2 : inoLost (stB o D E) false ⟨2, true, [⟨⟨#[104]⟩, 26⟩], ⟨#[]⟩⟩ true = false := by kernel_rfl
 have l3 : inoLost (stB o D E) false ⟨10, true, [], ⟨#[]⟩⟩ true = false := by kernel_rfl
 have e6 : (decide (1 ≤ (stB o D E).made.length) && decide ((stB o D E).made.length ≤ 8) && rootB (stB o D E).inos && opensV (stB o D E) && madeG (stB o D E).made && decide ((stB o D E).inos.length ≤ 257)) = true := by
  rcases ho with rfl | rfl <;> kernel_rfl
 unfold mayV
 rw [e6, hr, Bool.true_and]
 have hi : (stB o D E).inos = [⟨1, true, [⟨⟨#[100]⟩, 2⟩, ⟨⟨#[101]⟩, 10⟩, ⟨⟨#[102]⟩, 18⟩, ⟨⟨#[103]⟩, 18⟩], ⟨#[]⟩⟩, ⟨2, true, [⟨⟨#[104]⟩, 26⟩], ⟨#[]⟩⟩, ⟨10, true, [], ⟨#[]⟩⟩, ⟨18, false, [], D⟩, ⟨26, false, [], E⟩] := rfl
 obtain ⟨S, hS⟩ : ∃ S, stB o D E = S := ⟨_, rfl⟩
 rw [hS] at hi bD bE lD lE b1 b2 b3 l1 l2 l3 ⊢
 rw [hi]
 simp [inosG, b1, b2, b3, bD, bE, l1, l2, l3, lD, lE]
end Go.Proofs.YtndcloohcfhejaaGreat
