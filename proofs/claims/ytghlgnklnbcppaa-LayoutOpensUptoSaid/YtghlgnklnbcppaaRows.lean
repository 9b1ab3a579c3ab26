/-
  No cell of these rows narrows 'for every input' (looked for: loops, veiled, ifaces, maps, wideKeys, modest, calm, conditions, laid).
  DERIVED. THE GIVEN ROWS OF THIS SEAT. 4 by the template 'for every input the law returns true; each argument reads behind the call as it read before'; 0 by the template 'total and deterministic' (their statements: YtghlgnklnbcppaaTotals.lean).
  GIVEN WITH THE SEED: the statements are not yours to turn. If you find one false, say at which input.
  Laid BY PROGRAM, IN A SANDBOX (cutbox-rows.mjs): the forced cells as the released guide's own fill.sh prints them over the translation 41157bb6361df32d… (all of the seat's roots in one cut). By AI agents, Wed Nov 11 2026. No macro, syntax, notation, axiom, sorry.
-/
import Derived.Test.YtghlgnklnbcppaaChecked
import GoSem.Claim
import GoSem.ClaimJoined
import GoSem.ClaimMapViews
import Derived.JoinedTies
import Derived.KernelRfl
namespace Go.Proofs.Ytghlgnklnbcppaa
/- THE CELL 'sum', in the pinned program and in every row, IS THE sha256 OF THE DUMP (.gsa) THAT YtghlgnklnbcppaaProg.lean LOADS. Nothing in Lean hashes anything: it is a label: what it is worth is what the hold of that sum in a sandbox is worth. -/
noncomputable def Try.pinned : Pinned := { name := "ytghlgnklnbcppaa", sum := "41157bb6361df32d64ec8900e4be675e09a769a987f9b6bfbb151aeec48ac23d", checked := Try.checked }
namespace Rows
def none {H : Type} : Left H := { results := [], args := [] }

/-- 'concourselaw19.LayoutOpens': WHATEVER THE INPUT: true; the input reads as it did. -/
def layoutOpensSpec : ChangeSpec := { name := "layoutOpens", fn := fun _ => fun
  | [d1, d2] => { results := [.lit (.bool true)], args := [d1, d2] }
  | _ => none }
def layoutOpensRow : OpenClaim := { program := "ytghlgnklnbcppaa", sum := "41157bb6361df32d64ec8900e4be675e09a769a987f9b6bfbb151aeec48ac23d", func := "concourse/concourselaw19.LayoutOpens", spec := "layoutOpens", inPlace := ["internal/abi.NoEscape"], unfollowed := true, recurses := true, apart := false }
def LayoutOpensSaid : Prop := layoutOpensRow.holds Try.pinned (OpenSpec.ofChange layoutOpensSpec)

/-- ITS FALSE NEIGHBOUR: 'it returns false'. Refute it at one input. -/
def layoutOpensWrong : ChangeSpec := { name := "layoutOpens", fn := fun _ => fun
  | [d1, d2] => { results := [.lit (.bool false)], args := [d1, d2] }
  | _ => none }
def LayoutOpensWrongFalsely : Prop := layoutOpensRow.holds Try.pinned (OpenSpec.ofChange layoutOpensWrong)

/-- 'concourselaw19.LayoutSizes': WHATEVER THE INPUT: true; the input reads as it did. -/
def layoutSizesSpec : ChangeSpec := { name := "layoutSizes", fn := fun _ => fun
  | [d1, d2] => { results := [.lit (.bool true)], args := [d1, d2] }
  | _ => none }
def layoutSizesRow : OpenClaim := { program := "ytghlgnklnbcppaa", sum := "41157bb6361df32d64ec8900e4be675e09a769a987f9b6bfbb151aeec48ac23d", func := "concourse/concourselaw19.LayoutSizes", spec := "layoutSizes", inPlace := ["internal/abi.NoEscape"], unfollowed := true, recurses := true, apart := false }
def LayoutSizesSaid : Prop := layoutSizesRow.holds Try.pinned (OpenSpec.ofChange layoutSizesSpec)

/-- ITS FALSE NEIGHBOUR: 'it returns false'. Refute it at one input. -/
def layoutSizesWrong : ChangeSpec := { name := "layoutSizes", fn := fun _ => fun
  | [d1, d2] => { results := [.lit (.bool false)], args := [d1, d2] }
  | _ => none }
def LayoutSizesWrongFalsely : Prop := layoutSizesRow.holds Try.pinned (OpenSpec.ofChange layoutSizesWrong)

/-- 'concourselaw13.ModelOwn': WHATEVER THE INPUT: true; the input reads as it did. -/
def modelOwnSpec : ChangeSpec := { name := "modelOwn", fn := fun _ => fun
  | [d1, d2] => { results := [.lit (.bool true)], args := [d1, d2] }
  | _ => none }
def modelOwnRow : OpenClaim := { program := "ytghlgnklnbcppaa", sum := "41157bb6361df32d64ec8900e4be675e09a769a987f9b6bfbb151aeec48ac23d", func := "concourse/concourselaw13.ModelOwn", spec := "modelOwn", inPlace := ["internal/bytealg.abigen_runtime_cmpstring", "slices.overlaps[concourse/api.Entry]", "slices.overlaps[concourse/api.Inode]", "slices.overlaps[concourse/api.Desc]"], unfollowed := true, recurses := true, apart := false }
def ModelOwnSaid : Prop := modelOwnRow.holds Try.pinned (OpenSpec.ofChange modelOwnSpec)

/-- ITS FALSE NEIGHBOUR: 'it returns false'. Refute it at one input. -/
def modelOwnWrong : ChangeSpec := { name := "modelOwn", fn := fun _ => fun
  | [d1, d2] => { results := [.lit (.bool false)], args := [d1, d2] }
  | _ => none }
def ModelOwnWrongFalsely : Prop := modelOwnRow.holds Try.pinned (OpenSpec.ofChange modelOwnWrong)

/-- 'concourselaw13.ModelKeeps': WHATEVER THE INPUT: true; the input reads as it did. -/
def modelKeepsSpec : ChangeSpec := { name := "modelKeeps", fn := fun _ => fun
  | [d1, d2] => { results := [.lit (.bool true)], args := [d1, d2] }
  | _ => none }
def modelKeepsRow : OpenClaim := { program := "ytghlgnklnbcppaa", sum := "41157bb6361df32d64ec8900e4be675e09a769a987f9b6bfbb151aeec48ac23d", func := "concourse/concourselaw13.ModelKeeps", spec := "modelKeeps", inPlace := ["internal/bytealg.abigen_runtime_cmpstring", "slices.overlaps[concourse/api.Entry]", "slices.overlaps[concourse/api.Inode]", "slices.overlaps[concourse/api.Desc]"], unfollowed := true, recurses := true, apart := false }
def ModelKeepsSaid : Prop := modelKeepsRow.holds Try.pinned (OpenSpec.ofChange modelKeepsSpec)

/-- ITS FALSE NEIGHBOUR: 'it returns false'. Refute it at one input. -/
def modelKeepsWrong : ChangeSpec := { name := "modelKeeps", fn := fun _ => fun
  | [d1, d2] => { results := [.lit (.bool false)], args := [d1, d2] }
  | _ => none }
def ModelKeepsWrongFalsely : Prop := modelKeepsRow.holds Try.pinned (OpenSpec.ofChange modelKeepsWrong)

/- THE SECOND FORM. 'bulk': how many values and letters a reading holds, each counted each time it is reached (what is shared counts as often as it is met; a slice's spare places count too). A statement '..UptoSaid' is the law's where the arguments, and the package variables that the reading takes, are together of bulk at most 1048576: NARROWER than '..Said'. Prove '..Said' where nothing that the law and all that it calls make is longer than what came in: it says more and counts as full. Else prove '..UptoSaid'. A law counts once. -/
mutual
def uptoBulk {H : Type} : DataW H → Nat
  | .lit (.string bytes) => bytes.length + 1
  | .lit _ => 1
  | .nil => 1
  | .ptr d => uptoBulk d + 1
  | .slice elems spare => uptoBulkAll elems + uptoBulkAll spare + 1
  | .agg parts => uptoBulkAll parts + 1
  | .iface _ d => uptoBulk d + 1
  | .map entries => uptoBulkEntries entries + 1
  | .held _ => 1
def uptoBulkAll {H : Type} : List (DataW H) → Nat
  | [] => 0
  | d :: r => uptoBulk d + uptoBulkAll r
def uptoBulkEntries {H : Type} : List (Lit × DataW H) → Nat
  | [] => 0
  | x :: r => uptoBulkEntry x + uptoBulkEntries r
def uptoBulkEntry {H : Type} : Lit × DataW H → Nat
  | (.string bytes, d) => bytes.length + uptoBulk d + 1
  | (_, d) => uptoBulk d + 1
 end
def uptoSmall : (H : Type) → List (DataW H) → Bool := fun _ ds => decide (uptoBulkAll ds ≤ 1048576)
def OpenSpec.upto (s : _root_.Go.ChangeSpec) : _root_.Go.OpenSpec := { _root_.Go.OpenSpec.ofChange s with cond := some uptoSmall }

/-- 'concourselaw19.LayoutOpens', WHERE WHAT IT READS IS OF BULK AT MOST 1048576: true; the input reads as it did. -/
def layoutOpensUptoRow : OpenClaim := { program := "ytghlgnklnbcppaa", sum := "41157bb6361df32d64ec8900e4be675e09a769a987f9b6bfbb151aeec48ac23d", func := "concourse/concourselaw19.LayoutOpens", spec := "layoutOpens", inPlace := ["internal/abi.NoEscape"], unfollowed := true, recurses := true, apart := false, narrowed := true }
def LayoutOpensUptoSaid : Prop := layoutOpensUptoRow.holds Try.pinned (OpenSpec.upto layoutOpensSpec)

/-- 'concourselaw19.LayoutSizes', WHERE WHAT IT READS IS OF BULK AT MOST 1048576: true; the input reads as it did. -/
def layoutSizesUptoRow : OpenClaim := { program := "ytghlgnklnbcppaa", sum := "41157bb6361df32d64ec8900e4be675e09a769a987f9b6bfbb151aeec48ac23d", func := "concourse/concourselaw19.LayoutSizes", spec := "layoutSizes", inPlace := ["internal/abi.NoEscape"], unfollowed := true, recurses := true, apart := false, narrowed := true }
def LayoutSizesUptoSaid : Prop := layoutSizesUptoRow.holds Try.pinned (OpenSpec.upto layoutSizesSpec)

/-- 'concourselaw13.ModelOwn', WHERE WHAT IT READS IS OF BULK AT MOST 1048576: true; the input reads as it did. -/
def modelOwnUptoRow : OpenClaim := { program := "ytghlgnklnbcppaa", sum := "41157bb6361df32d64ec8900e4be675e09a769a987f9b6bfbb151aeec48ac23d", func := "concourse/concourselaw13.ModelOwn", spec := "modelOwn", inPlace := ["internal/bytealg.abigen_runtime_cmpstring", "slices.overlaps[concourse/api.Entry]", "slices.overlaps[concourse/api.Inode]", "slices.overlaps[concourse/api.Desc]"], unfollowed := true, recurses := true, apart := false, narrowed := true }
def ModelOwnUptoSaid : Prop := modelOwnUptoRow.holds Try.pinned (OpenSpec.upto modelOwnSpec)

/-- 'concourselaw13.ModelKeeps', WHERE WHAT IT READS IS OF BULK AT MOST 1048576: true; the input reads as it did. -/
def modelKeepsUptoRow : OpenClaim := { program := "ytghlgnklnbcppaa", sum := "41157bb6361df32d64ec8900e4be675e09a769a987f9b6bfbb151aeec48ac23d", func := "concourse/concourselaw13.ModelKeeps", spec := "modelKeeps", inPlace := ["internal/bytealg.abigen_runtime_cmpstring", "slices.overlaps[concourse/api.Entry]", "slices.overlaps[concourse/api.Inode]", "slices.overlaps[concourse/api.Desc]"], unfollowed := true, recurses := true, apart := false, narrowed := true }
def ModelKeepsUptoSaid : Prop := modelKeepsUptoRow.holds Try.pinned (OpenSpec.upto modelKeepsSpec)

end Rows
end Go.Proofs.Ytghlgnklnbcppaa
