/- A round of a law's loop 'o, _ := Do(s, cs[i]); s = o': what its drawn region makes, whatever the order. -/
import Derived.Test.YtilkhmhgjbhfnaaGreatDoorM35
import Derived.Test.YtilkhmhgjbhfnaaGreatDoorM06
set_option linter.unusedVariables false
set_option linter.unusedSimpArgs false
namespace Go.Proofs.YtilkhmhgjbhfnaaGreatDoor
open Go.RowKit
theorem StAt.set {B : Nat} {w : World} {v : Value} {s : St} (h : StAt (some B) w v s) {g : Nat} {t : TypeId} (hg : ∃ cur, w.heap[g]? = some (.cells cur t (0, 0))) (h1 : t ≠ 65) (h2 : t ≠ 131) (h3 : t ≠ 97) (h4 : t ≠ 3) (k : Nat) (u : Value) :
  StAt (some B) (w.setCell ⟨g, k, none⟩ u) v s := by
 obtain ⟨cur, hc⟩ := hg
 exact h.keep3 (KeepT.set hc h1) (KeepT.set hc h2) (KeepT.set hc h3) (KeepT.set hc h4)
theorem StAt.alloc {lo : Option Nat} {w : World} {v : Value} {s : St} (h : StAt lo w v s) (o : Obj) : StAt lo (w.alloc o) v s := h.below ((Below.refl _ _).alloc (Nat.le_refl _) _)
end Go.Proofs.YtilkhmhgjbhfnaaGreatDoor
