/-
  No cell of these rows narrows 'for every input' (looked for: loops, veiled, ifaces, maps, wideKeys, modest, calm, conditions, laid).
  DERIVED. THE GIVEN ROWS OF THIS SEAT. 3 by the template 'for every input the law returns true; each argument reads behind the call as it read before'; 0 by the template 'total and deterministic' (their statements: YtmmpkfcdfcldlaaGreatTotals.lean).
  GIVEN WITH THE SEED: the statements are not yours to turn. If you find one false, say at which input.
  Laid BY PROGRAM, IN A SANDBOX (cutbox-rows.mjs): the forced cells as the released guide's own fill.sh prints them over the translation 27da26d87e1f172f… (all of the seat's roots in one cut). By AI agents, Wed Nov 11 2026. No macro, syntax, notation, axiom, sorry.
-/
import Derived.Test.YtmmpkfcdfcldlaaGreatChecked
import GoSem.Claim
import GoSem.ClaimJoined
import GoSem.ClaimMapViews
import Derived.JoinedTies
import Derived.KernelRfl
namespace Go.Proofs.YtmmpkfcdfcldlaaGreat
/- THE CELL 'sum', in the pinned program and in every row, IS THE sha256 OF THE DUMP (.gsa) THAT YtmmpkfcdfcldlaaGreatProg.lean LOADS. Nothing in Lean hashes anything: it is a label: what it is worth is what the hold of that sum in a sandbox is worth. -/
noncomputable def Tryz.pinned : Pinned := { name := "ytmmpkfcdfcldlaagreat", sum := "27da26d87e1f172f10f9862f6d7012c048af7d0de5f278265d1fd84dcd99cd87", checked := Tryz.checked }
namespace Rows
def none {H : Type} : Left H := { results := [], args := [] }

/-- 'concourselaw13.ModelDo': WHATEVER THE INPUT: true; the input reads as it did. -/
def modelDoSpec : ChangeSpec := { name := "modelDo", fn := fun _ => fun
  | [d1, d2] => { results := [.lit (.bool true)], args := [d1, d2] }
  | _ => none }
def modelDoRow : OpenClaim := { program := "ytmmpkfcdfcldlaagreat", sum := "27da26d87e1f172f10f9862f6d7012c048af7d0de5f278265d1fd84dcd99cd87", func := "concourse/concourselaw13.ModelDo", spec := "modelDo", inPlace := ["internal/bytealg.abigen_runtime_cmpstring", "slices.overlaps[concourse/api.Entry]", "slices.overlaps[concourse/api.Inode]", "slices.overlaps[concourse/api.Desc]"], unfollowed := true, recurses := true, apart := false }
def ModelDoSaid : Prop := modelDoRow.holds Tryz.pinned (OpenSpec.ofChange modelDoSpec)

/-- ITS FALSE NEIGHBOUR: 'it returns false'. Refute it at one input. -/
def modelDoWrong : ChangeSpec := { name := "modelDo", fn := fun _ => fun
  | [d1, d2] => { results := [.lit (.bool false)], args := [d1, d2] }
  | _ => none }
def ModelDoWrongFalsely : Prop := modelDoRow.holds Tryz.pinned (OpenSpec.ofChange modelDoWrong)

/-- 'concourselaw13.ModelRuns': WHATEVER THE INPUT: true; the input reads as it did. -/
def modelRunsSpec : ChangeSpec := { name := "modelRuns", fn := fun _ => fun
  | [d1, d2] => { results := [.lit (.bool true)], args := [d1, d2] }
  | _ => none }
def modelRunsRow : OpenClaim := { program := "ytmmpkfcdfcldlaagreat", sum := "27da26d87e1f172f10f9862f6d7012c048af7d0de5f278265d1fd84dcd99cd87", func := "concourse/concourselaw13.ModelRuns", spec := "modelRuns", inPlace := ["internal/bytealg.abigen_runtime_cmpstring", "slices.overlaps[concourse/api.Entry]", "slices.overlaps[concourse/api.Inode]", "slices.overlaps[concourse/api.Desc]"], unfollowed := true, recurses := true, apart := false }
def ModelRunsSaid : Prop := modelRunsRow.holds Tryz.pinned (OpenSpec.ofChange modelRunsSpec)

/-- ITS FALSE NEIGHBOUR: 'it returns false'. Refute it at one input. -/
def modelRunsWrong : ChangeSpec := { name := "modelRuns", fn := fun _ => fun
  | [d1, d2] => { results := [.lit (.bool false)], args := [d1, d2] }
  | _ => none }
def ModelRunsWrongFalsely : Prop := modelRunsRow.holds Tryz.pinned (OpenSpec.ofChange modelRunsWrong)

/-- 'concourselaw13.ModelAllows': WHATEVER THE INPUT: true; the input reads as it did. -/
def modelAllowsSpec : ChangeSpec := { name := "modelAllows", fn := fun _ => fun
  | [d1, d2, d3, d4, d5] => { results := [.lit (.bool true)], args := [d1, d2, d3, d4, d5] }
  | _ => none }
def modelAllowsRow : OpenClaim := { program := "ytmmpkfcdfcldlaagreat", sum := "27da26d87e1f172f10f9862f6d7012c048af7d0de5f278265d1fd84dcd99cd87", func := "concourse/concourselaw13.ModelAllows", spec := "modelAllows", inPlace := ["internal/bytealg.abigen_runtime_cmpstring", "slices.overlaps[concourse/api.Entry]", "slices.overlaps[concourse/api.Inode]", "slices.overlaps[concourse/api.Desc]"], unfollowed := true, recurses := true, apart := false }
def ModelAllowsSaid : Prop := modelAllowsRow.holds Tryz.pinned (OpenSpec.ofChange modelAllowsSpec)

/-- ITS FALSE NEIGHBOUR: 'it returns false'. Refute it at one input. -/
def modelAllowsWrong : ChangeSpec := { name := "modelAllows", fn := fun _ => fun
  | [d1, d2, d3, d4, d5] => { results := [.lit (.bool false)], args := [d1, d2, d3, d4, d5] }
  | _ => none }
def ModelAllowsWrongFalsely : Prop := modelAllowsRow.holds Tryz.pinned (OpenSpec.ofChange modelAllowsWrong)

/- THE SECOND FORM. 'bulk': how many values and letters a reading holds, each counted each time it is reached (what is shared counts as often as it is met; a slice's spare places count too). A statement '..UptoSaid' is the law's where the arguments, and the package variables that the reading takes, are together of bulk at most 1048576: NARROWER than '..Said'. Prove '..Said' where nothing that the law and all that it calls make is longer than what came in: it says more and counts as full. Else prove '..UptoSaid'. A law counts once. -/
mutual
def uptoBulk {H : Type} : DataW H → Nat
  | .lit (.string bytes) => bytes.length + 1
  | .lit _ => 1
  | .nil => 1
  | .ptr d => uptoBulk d + 1
  | .slice elems spare => uptoBulkAll elems + uptoBulkAll spare + 1
  | .agg parts => uptoBulkAll parts + 1
  | .iface _ d => uptoBulk d + 1
  | .map entries => uptoBulkEntries entries + 1
  | .held _ => 1
def uptoBulkAll {H : Type} : List (DataW H) → Nat
  | [] => 0
  | d :: r => uptoBulk d + uptoBulkAll r
def uptoBulkEntries {H : Type} : List (Lit × DataW H) → Nat
  | [] => 0
  | x :: r => uptoBulkEntry x + uptoBulkEntries r
def uptoBulkEntry {H : Type} : Lit × DataW H → Nat
  | (.string bytes, d) => bytes.length + uptoBulk d + 1
  | (_, d) => uptoBulk d + 1
 end
def uptoSmall : (H : Type) → List (DataW H) → Bool := fun _ ds => decide (uptoBulkAll ds ≤ 1048576)
def OpenSpec.upto (s : _root_.Go.ChangeSpec) : _root_.Go.OpenSpec := { _root_.Go.OpenSpec.ofChange s with cond := some uptoSmall }

/-- 'concourselaw13.ModelDo', WHERE WHAT IT READS IS OF BULK AT MOST 1048576: true; the input reads as it did. -/
def modelDoUptoRow : OpenClaim := { program := "ytmmpkfcdfcldlaagreat", sum := "27da26d87e1f172f10f9862f6d7012c048af7d0de5f278265d1fd84dcd99cd87", func := "concourse/concourselaw13.ModelDo", spec := "modelDo", inPlace := ["internal/bytealg.abigen_runtime_cmpstring", "slices.overlaps[concourse/api.Entry]", "slices.overlaps[concourse/api.Inode]", "slices.overlaps[concourse/api.Desc]"], unfollowed := true, recurses := true, apart := false, narrowed := true }
def ModelDoUptoSaid : Prop := modelDoUptoRow.holds Tryz.pinned (OpenSpec.upto modelDoSpec)

/-- 'concourselaw13.ModelRuns', WHERE WHAT IT READS IS OF BULK AT MOST 1048576: true; the input reads as it did. -/
def modelRunsUptoRow : OpenClaim := { program := "ytmmpkfcdfcldlaagreat", sum := "27da26d87e1f172f10f9862f6d7012c048af7d0de5f278265d1fd84dcd99cd87", func := "concourse/concourselaw13.ModelRuns", spec := "modelRuns", inPlace := ["internal/bytealg.abigen_runtime_cmpstring", "slices.overlaps[concourse/api.Entry]", "slices.overlaps[concourse/api.Inode]", "slices.overlaps[concourse/api.Desc]"], unfollowed := true, recurses := true, apart := false, narrowed := true }
def ModelRunsUptoSaid : Prop := modelRunsUptoRow.holds Tryz.pinned (OpenSpec.upto modelRunsSpec)

/-- 'concourselaw13.ModelAllows', WHERE WHAT IT READS IS OF BULK AT MOST 1048576: true; the input reads as it did. -/
def modelAllowsUptoRow : OpenClaim := { program := "ytmmpkfcdfcldlaagreat", sum := "27da26d87e1f172f10f9862f6d7012c048af7d0de5f278265d1fd84dcd99cd87", func := "concourse/concourselaw13.ModelAllows", spec := "modelAllows", inPlace := ["internal/bytealg.abigen_runtime_cmpstring", "slices.overlaps[concourse/api.Entry]", "slices.overlaps[concourse/api.Inode]", "slices.overlaps[concourse/api.Desc]"], unfollowed := true, recurses := true, apart := false, narrowed := true }
def ModelAllowsUptoSaid : Prop := modelAllowsUptoRow.holds Tryz.pinned (OpenSpec.upto modelAllowsSpec)

end Rows
end Go.Proofs.YtmmpkfcdfcldlaaGreat
