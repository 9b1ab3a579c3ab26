/-
  No cell of these rows narrows 'for every input' (looked for: loops, veiled, ifaces, maps, wideKeys, modest, calm, conditions, laid).
  DERIVED. THE GIVEN ROWS OF THIS SEAT. 10 by the template 'for every input the law returns true; each argument reads behind the call as it read before'; 0 by the template 'total and deterministic' (their statements: YtndcloohcfhejaaGreatTotals.lean).
  GIVEN WITH THE SEED: the statements are not yours to turn. If you find one false, say at which input.
  Laid BY PROGRAM, IN A SANDBOX (cutbox-rows.mjs): the forced cells as the released guide's own fill.sh prints them over the translation f53c54fed149c39c… (all of the seat's roots in one cut). By AI agents, Wed Nov 11 2026. No macro, syntax, notation, axiom, sorry.
-/
import Derived.Test.YtndcloohcfhejaaGreatChecked
import GoSem.Claim
import GoSem.ClaimJoined
import GoSem.ClaimMapViews
import Derived.JoinedTies
import Derived.KernelRfl
namespace Go.Proofs.YtndcloohcfhejaaGreat
/- THE CELL 'sum', in the pinned program and in every row, IS THE sha256 OF THE DUMP (.gsa) THAT YtndcloohcfhejaaGreatProg.lean LOADS. Nothing in Lean hashes anything: it is a label: what it is worth is what the hold of that sum in a sandbox is worth. -/
noncomputable def Tryz.pinned : Pinned := { name := "ytndcloohcfhejaagreat", sum := "f53c54fed149c39ca02a5a89283679a3b60bd072b5bbbba3068aacd43f3c7e5c", checked := Tryz.checked }
namespace Rows
def none {H : Type} : Left H := { results := [], args := [] }

/-- 'concourselaw13.ModelWrites': WHATEVER THE INPUT: true; the input reads as it did. -/
def modelWritesSpec : ChangeSpec := { name := "modelWrites", fn := fun _ => fun
  | [d1, d2, d3, d4] => { results := [.lit (.bool true)], args := [d1, d2, d3, d4] }
  | _ => none }
def modelWritesRow : OpenClaim := { program := "ytndcloohcfhejaagreat", sum := "f53c54fed149c39ca02a5a89283679a3b60bd072b5bbbba3068aacd43f3c7e5c", func := "concourse/concourselaw13.ModelWrites", spec := "modelWrites", inPlace := ["internal/bytealg.abigen_runtime_cmpstring", "slices.overlaps[concourse/api.Entry]", "slices.overlaps[concourse/api.Inode]", "slices.overlaps[concourse/api.Desc]"], unfollowed := true, recurses := true, apart := false }
def ModelWritesSaid : Prop := modelWritesRow.holds Tryz.pinned (OpenSpec.ofChange modelWritesSpec)

/-- ITS FALSE NEIGHBOUR: 'it returns false'. Refute it at one input. -/
def modelWritesWrong : ChangeSpec := { name := "modelWrites", fn := fun _ => fun
  | [d1, d2, d3, d4] => { results := [.lit (.bool false)], args := [d1, d2, d3, d4] }
  | _ => none }
def ModelWritesWrongFalsely : Prop := modelWritesRow.holds Tryz.pinned (OpenSpec.ofChange modelWritesWrong)

/-- 'concourselaw13.ModelTruncates': WHATEVER THE INPUT: true; the input reads as it did. -/
def modelTruncatesSpec : ChangeSpec := { name := "modelTruncates", fn := fun _ => fun
  | [d] => { results := [.lit (.bool true)], args := [d] }
  | _ => none }
def modelTruncatesRow : OpenClaim := { program := "ytndcloohcfhejaagreat", sum := "f53c54fed149c39ca02a5a89283679a3b60bd072b5bbbba3068aacd43f3c7e5c", func := "concourse/concourselaw13.ModelTruncates", spec := "modelTruncates", inPlace := ["internal/bytealg.abigen_runtime_cmpstring", "slices.overlaps[concourse/api.Entry]", "slices.overlaps[concourse/api.Inode]", "slices.overlaps[concourse/api.Desc]"], unfollowed := true, recurses := true, apart := false }
def ModelTruncatesSaid : Prop := modelTruncatesRow.holds Tryz.pinned (OpenSpec.ofChange modelTruncatesSpec)

/-- ITS FALSE NEIGHBOUR: 'it returns false'. Refute it at one input. -/
def modelTruncatesWrong : ChangeSpec := { name := "modelTruncates", fn := fun _ => fun
  | [d] => { results := [.lit (.bool false)], args := [d] }
  | _ => none }
def ModelTruncatesWrongFalsely : Prop := modelTruncatesRow.holds Tryz.pinned (OpenSpec.ofChange modelTruncatesWrong)

/-- 'concourselaw13.ModelLinked': WHATEVER THE INPUT: true; the input reads as it did. -/
def modelLinkedSpec : ChangeSpec := { name := "modelLinked", fn := fun _ => fun
  | [d1, d2] => { results := [.lit (.bool true)], args := [d1, d2] }
  | _ => none }
def modelLinkedRow : OpenClaim := { program := "ytndcloohcfhejaagreat", sum := "f53c54fed149c39ca02a5a89283679a3b60bd072b5bbbba3068aacd43f3c7e5c", func := "concourse/concourselaw13.ModelLinked", spec := "modelLinked", inPlace := ["internal/bytealg.abigen_runtime_cmpstring", "slices.overlaps[concourse/api.Entry]", "slices.overlaps[concourse/api.Inode]", "slices.overlaps[concourse/api.Desc]"], unfollowed := true, recurses := true, apart := false }
def ModelLinkedSaid : Prop := modelLinkedRow.holds Tryz.pinned (OpenSpec.ofChange modelLinkedSpec)

/-- ITS FALSE NEIGHBOUR: 'it returns false'. Refute it at one input. -/
def modelLinkedWrong : ChangeSpec := { name := "modelLinked", fn := fun _ => fun
  | [d1, d2] => { results := [.lit (.bool false)], args := [d1, d2] }
  | _ => none }
def ModelLinkedWrongFalsely : Prop := modelLinkedRow.holds Tryz.pinned (OpenSpec.ofChange modelLinkedWrong)

/-- 'concourselaw13.ModelRemoves': WHATEVER THE INPUT: true; the input reads as it did. -/
def modelRemovesSpec : ChangeSpec := { name := "modelRemoves", fn := fun _ => fun
  | [d1, d2] => { results := [.lit (.bool true)], args := [d1, d2] }
  | _ => none }
def modelRemovesRow : OpenClaim := { program := "ytndcloohcfhejaagreat", sum := "f53c54fed149c39ca02a5a89283679a3b60bd072b5bbbba3068aacd43f3c7e5c", func := "concourse/concourselaw13.ModelRemoves", spec := "modelRemoves", inPlace := ["internal/bytealg.abigen_runtime_cmpstring", "slices.overlaps[concourse/api.Entry]", "slices.overlaps[concourse/api.Inode]", "slices.overlaps[concourse/api.Desc]"], unfollowed := true, recurses := true, apart := false }
def ModelRemovesSaid : Prop := modelRemovesRow.holds Tryz.pinned (OpenSpec.ofChange modelRemovesSpec)

/-- ITS FALSE NEIGHBOUR: 'it returns false'. Refute it at one input. -/
def modelRemovesWrong : ChangeSpec := { name := "modelRemoves", fn := fun _ => fun
  | [d1, d2] => { results := [.lit (.bool false)], args := [d1, d2] }
  | _ => none }
def ModelRemovesWrongFalsely : Prop := modelRemovesRow.holds Tryz.pinned (OpenSpec.ofChange modelRemovesWrong)

/-- 'concourselaw13.ModelRenames': WHATEVER THE INPUT: true; the input reads as it did. -/
def modelRenamesSpec : ChangeSpec := { name := "modelRenames", fn := fun _ => fun
  | [d1, d2] => { results := [.lit (.bool true)], args := [d1, d2] }
  | _ => none }
def modelRenamesRow : OpenClaim := { program := "ytndcloohcfhejaagreat", sum := "f53c54fed149c39ca02a5a89283679a3b60bd072b5bbbba3068aacd43f3c7e5c", func := "concourse/concourselaw13.ModelRenames", spec := "modelRenames", inPlace := ["internal/bytealg.abigen_runtime_cmpstring", "slices.overlaps[concourse/api.Entry]", "slices.overlaps[concourse/api.Inode]", "slices.overlaps[concourse/api.Desc]"], unfollowed := true, recurses := true, apart := false }
def ModelRenamesSaid : Prop := modelRenamesRow.holds Tryz.pinned (OpenSpec.ofChange modelRenamesSpec)

/-- ITS FALSE NEIGHBOUR: 'it returns false'. Refute it at one input. -/
def modelRenamesWrong : ChangeSpec := { name := "modelRenames", fn := fun _ => fun
  | [d1, d2] => { results := [.lit (.bool false)], args := [d1, d2] }
  | _ => none }
def ModelRenamesWrongFalsely : Prop := modelRenamesRow.holds Tryz.pinned (OpenSpec.ofChange modelRenamesWrong)

/-- 'concourselaw13.ModelOpens': WHATEVER THE INPUT: true; the input reads as it did. -/
def modelOpensSpec : ChangeSpec := { name := "modelOpens", fn := fun _ => fun
  | [d1, d2, d3] => { results := [.lit (.bool true)], args := [d1, d2, d3] }
  | _ => none }
def modelOpensRow : OpenClaim := { program := "ytndcloohcfhejaagreat", sum := "f53c54fed149c39ca02a5a89283679a3b60bd072b5bbbba3068aacd43f3c7e5c", func := "concourse/concourselaw13.ModelOpens", spec := "modelOpens", inPlace := ["internal/bytealg.abigen_runtime_cmpstring", "slices.overlaps[concourse/api.Entry]", "slices.overlaps[concourse/api.Inode]", "slices.overlaps[concourse/api.Desc]"], unfollowed := true, recurses := true, apart := false }
def ModelOpensSaid : Prop := modelOpensRow.holds Tryz.pinned (OpenSpec.ofChange modelOpensSpec)

/-- ITS FALSE NEIGHBOUR: 'it returns false'. Refute it at one input. -/
def modelOpensWrong : ChangeSpec := { name := "modelOpens", fn := fun _ => fun
  | [d1, d2, d3] => { results := [.lit (.bool false)], args := [d1, d2, d3] }
  | _ => none }
def ModelOpensWrongFalsely : Prop := modelOpensRow.holds Tryz.pinned (OpenSpec.ofChange modelOpensWrong)

/-- 'concourselaw13.ModelLists': WHATEVER THE INPUT: true; the input reads as it did. -/
def modelListsSpec : ChangeSpec := { name := "modelLists", fn := fun _ => fun
  | [d] => { results := [.lit (.bool true)], args := [d] }
  | _ => none }
def modelListsRow : OpenClaim := { program := "ytndcloohcfhejaagreat", sum := "f53c54fed149c39ca02a5a89283679a3b60bd072b5bbbba3068aacd43f3c7e5c", func := "concourse/concourselaw13.ModelLists", spec := "modelLists", inPlace := ["internal/bytealg.abigen_runtime_cmpstring", "slices.overlaps[concourse/api.Entry]", "slices.overlaps[concourse/api.Inode]", "slices.overlaps[concourse/api.Desc]"], unfollowed := true, recurses := true, apart := false }
def ModelListsSaid : Prop := modelListsRow.holds Tryz.pinned (OpenSpec.ofChange modelListsSpec)

/-- ITS FALSE NEIGHBOUR: 'it returns false'. Refute it at one input. -/
def modelListsWrong : ChangeSpec := { name := "modelLists", fn := fun _ => fun
  | [d] => { results := [.lit (.bool false)], args := [d] }
  | _ => none }
def ModelListsWrongFalsely : Prop := modelListsRow.holds Tryz.pinned (OpenSpec.ofChange modelListsWrong)

/-- 'concourselaw13.ModelFull': WHATEVER THE INPUT: true; the input reads as it did. -/
def modelFullSpec : ChangeSpec := { name := "modelFull", fn := fun _ => fun
  | [d1, d2] => { results := [.lit (.bool true)], args := [d1, d2] }
  | _ => none }
def modelFullRow : OpenClaim := { program := "ytndcloohcfhejaagreat", sum := "f53c54fed149c39ca02a5a89283679a3b60bd072b5bbbba3068aacd43f3c7e5c", func := "concourse/concourselaw13.ModelFull", spec := "modelFull", inPlace := ["internal/bytealg.abigen_runtime_cmpstring", "slices.overlaps[concourse/api.Entry]", "slices.overlaps[concourse/api.Inode]", "slices.overlaps[concourse/api.Desc]"], unfollowed := true, recurses := true, apart := false }
def ModelFullSaid : Prop := modelFullRow.holds Tryz.pinned (OpenSpec.ofChange modelFullSpec)

/-- ITS FALSE NEIGHBOUR: 'it returns false'. Refute it at one input. -/
def modelFullWrong : ChangeSpec := { name := "modelFull", fn := fun _ => fun
  | [d1, d2] => { results := [.lit (.bool false)], args := [d1, d2] }
  | _ => none }
def ModelFullWrongFalsely : Prop := modelFullRow.holds Tryz.pinned (OpenSpec.ofChange modelFullWrong)

/-- 'concourselaw13.ModelCodes': WHATEVER THE INPUT: true; the input reads as it did. -/
def modelCodesSpec : ChangeSpec := { name := "modelCodes", fn := fun _ => fun
  | [d1, d2, d3] => { results := [.lit (.bool true)], args := [d1, d2, d3] }
  | _ => none }
def modelCodesRow : OpenClaim := { program := "ytndcloohcfhejaagreat", sum := "f53c54fed149c39ca02a5a89283679a3b60bd072b5bbbba3068aacd43f3c7e5c", func := "concourse/concourselaw13.ModelCodes", spec := "modelCodes", inPlace := ["internal/bytealg.abigen_runtime_cmpstring", "slices.overlaps[concourse/api.Entry]", "slices.overlaps[concourse/api.Inode]", "slices.overlaps[concourse/api.Desc]"], unfollowed := true, recurses := true, apart := false }
def ModelCodesSaid : Prop := modelCodesRow.holds Tryz.pinned (OpenSpec.ofChange modelCodesSpec)

/-- ITS FALSE NEIGHBOUR: 'it returns false'. Refute it at one input. -/
def modelCodesWrong : ChangeSpec := { name := "modelCodes", fn := fun _ => fun
  | [d1, d2, d3] => { results := [.lit (.bool false)], args := [d1, d2, d3] }
  | _ => none }
def ModelCodesWrongFalsely : Prop := modelCodesRow.holds Tryz.pinned (OpenSpec.ofChange modelCodesWrong)

/-- 'concourselaw13.ModelFiles': WHATEVER THE INPUT: true; the input reads as it did. -/
def modelFilesSpec : ChangeSpec := { name := "modelFiles", fn := fun _ => fun
  | [d1, d2, d3] => { results := [.lit (.bool true)], args := [d1, d2, d3] }
  | _ => none }
def modelFilesRow : OpenClaim := { program := "ytndcloohcfhejaagreat", sum := "f53c54fed149c39ca02a5a89283679a3b60bd072b5bbbba3068aacd43f3c7e5c", func := "concourse/concourselaw13.ModelFiles", spec := "modelFiles", inPlace := ["internal/bytealg.abigen_runtime_cmpstring", "slices.overlaps[concourse/api.Entry]", "slices.overlaps[concourse/api.Inode]", "slices.overlaps[concourse/api.Desc]"], unfollowed := true, recurses := true, apart := false }
def ModelFilesSaid : Prop := modelFilesRow.holds Tryz.pinned (OpenSpec.ofChange modelFilesSpec)

/-- ITS FALSE NEIGHBOUR: 'it returns false'. Refute it at one input. -/
def modelFilesWrong : ChangeSpec := { name := "modelFiles", fn := fun _ => fun
  | [d1, d2, d3] => { results := [.lit (.bool false)], args := [d1, d2, d3] }
  | _ => none }
def ModelFilesWrongFalsely : Prop := modelFilesRow.holds Tryz.pinned (OpenSpec.ofChange modelFilesWrong)

/- THE SECOND FORM. 'bulk': how many values and letters a reading holds, each counted each time it is reached (what is shared counts as often as it is met; a slice's spare places count too). A statement '..UptoSaid' is the law's where the arguments, and the package variables that the reading takes, are together of bulk at most 1048576: NARROWER than '..Said'. Prove '..Said' where nothing that the law and all that it calls make is longer than what came in: it says more and counts as full. Else prove '..UptoSaid'. A law counts once. -/
mutual
def uptoBulk {H : Type} : DataW H → Nat
  | .lit (.string bytes) => bytes.length + 1
  | .lit _ => 1
  | .nil => 1
  | .ptr d => uptoBulk d + 1
  | .slice elems spare => uptoBulkAll elems + uptoBulkAll spare + 1
  | .agg parts => uptoBulkAll parts + 1
  | .iface _ d => uptoBulk d + 1
  | .map entries => uptoBulkEntries entries + 1
  | .held _ => 1
def uptoBulkAll {H : Type} : List (DataW H) → Nat
  | [] => 0
  | d :: r => uptoBulk d + uptoBulkAll r
def uptoBulkEntries {H : Type} : List (Lit × DataW H) → Nat
  | [] => 0
  | x :: r => uptoBulkEntry x + uptoBulkEntries r
def uptoBulkEntry {H : Type} : Lit × DataW H → Nat
  | (.string bytes, d) => bytes.length + uptoBulk d + 1
  | (_, d) => uptoBulk d + 1
 end
def uptoSmall : (H : Type) → List (DataW H) → Bool := fun _ ds => decide (uptoBulkAll ds ≤ 1048576)
def OpenSpec.upto (s : _root_.Go.ChangeSpec) : _root_.Go.OpenSpec := { _root_.Go.OpenSpec.ofChange s with cond := some uptoSmall }

/-- 'concourselaw13.ModelWrites', WHERE WHAT IT READS IS OF BULK AT MOST 1048576: true; the input reads as it did. -/
def modelWritesUptoRow : OpenClaim := { program := "ytndcloohcfhejaagreat", sum := "f53c54fed149c39ca02a5a89283679a3b60bd072b5bbbba3068aacd43f3c7e5c", func := "concourse/concourselaw13.ModelWrites", spec := "modelWrites", inPlace := ["internal/bytealg.abigen_runtime_cmpstring", "slices.overlaps[concourse/api.Entry]", "slices.overlaps[concourse/api.Inode]", "slices.overlaps[concourse/api.Desc]"], unfollowed := true, recurses := true, apart := false, narrowed := true }
def ModelWritesUptoSaid : Prop := modelWritesUptoRow.holds Tryz.pinned (OpenSpec.upto modelWritesSpec)

/-- 'concourselaw13.ModelTruncates', WHERE WHAT IT READS IS OF BULK AT MOST 1048576: true; the input reads as it did. -/
def modelTruncatesUptoRow : OpenClaim := { program := "ytndcloohcfhejaagreat", sum := "f53c54fed149c39ca02a5a89283679a3b60bd072b5bbbba3068aacd43f3c7e5c", func := "concourse/concourselaw13.ModelTruncates", spec := "modelTruncates", inPlace := ["internal/bytealg.abigen_runtime_cmpstring", "slices.overlaps[concourse/api.Entry]", "slices.overlaps[concourse/api.Inode]", "slices.overlaps[concourse/api.Desc]"], unfollowed := true, recurses := true, apart := false, narrowed := true }
def ModelTruncatesUptoSaid : Prop := modelTruncatesUptoRow.holds Tryz.pinned (OpenSpec.upto modelTruncatesSpec)

/-- 'concourselaw13.ModelLinked', WHERE WHAT IT READS IS OF BULK AT MOST 1048576: true; the input reads as it did. -/
def modelLinkedUptoRow : OpenClaim := { program := "ytndcloohcfhejaagreat", sum := "f53c54fed149c39ca02a5a89283679a3b60bd072b5bbbba3068aacd43f3c7e5c", func := "concourse/concourselaw13.ModelLinked", spec := "modelLinked", inPlace := ["internal/bytealg.abigen_runtime_cmpstring", "slices.overlaps[concourse/api.Entry]", "slices.overlaps[concourse/api.Inode]", "slices.overlaps[concourse/api.Desc]"], unfollowed := true, recurses := true, apart := false, narrowed := true }
def ModelLinkedUptoSaid : Prop := modelLinkedUptoRow.holds Tryz.pinned (OpenSpec.upto modelLinkedSpec)

/-- 'concourselaw13.ModelRemoves', WHERE WHAT IT READS IS OF BULK AT MOST 1048576: true; the input reads as it did. -/
def modelRemovesUptoRow : OpenClaim := { program := "ytndcloohcfhejaagreat", sum := "f53c54fed149c39ca02a5a89283679a3b60bd072b5bbbba3068aacd43f3c7e5c", func := "concourse/concourselaw13.ModelRemoves", spec := "modelRemoves", inPlace := ["internal/bytealg.abigen_runtime_cmpstring", "slices.overlaps[concourse/api.Entry]", "slices.overlaps[concourse/api.Inode]", "slices.overlaps[concourse/api.Desc]"], unfollowed := true, recurses := true, apart := false, narrowed := true }
def ModelRemovesUptoSaid : Prop := modelRemovesUptoRow.holds Tryz.pinned (OpenSpec.upto modelRemovesSpec)

/-- 'concourselaw13.ModelRenames', WHERE WHAT IT READS IS OF BULK AT MOST 1048576: true; the input reads as it did. -/
def modelRenamesUptoRow : OpenClaim := { program := "ytndcloohcfhejaagreat", sum := "f53c54fed149c39ca02a5a89283679a3b60bd072b5bbbba3068aacd43f3c7e5c", func := "concourse/concourselaw13.ModelRenames", spec := "modelRenames", inPlace := ["internal/bytealg.abigen_runtime_cmpstring", "slices.overlaps[concourse/api.Entry]", "slices.overlaps[concourse/api.Inode]", "slices.overlaps[concourse/api.Desc]"], unfollowed := true, recurses := true, apart := false, narrowed := true }
def ModelRenamesUptoSaid : Prop := modelRenamesUptoRow.holds Tryz.pinned (OpenSpec.upto modelRenamesSpec)

/-- 'concourselaw13.ModelOpens', WHERE WHAT IT READS IS OF BULK AT MOST 1048576: true; the input reads as it did. -/
def modelOpensUptoRow : OpenClaim := { program := "ytndcloohcfhejaagreat", sum := "f53c54fed149c39ca02a5a89283679a3b60bd072b5bbbba3068aacd43f3c7e5c", func := "concourse/concourselaw13.ModelOpens", spec := "modelOpens", inPlace := ["internal/bytealg.abigen_runtime_cmpstring", "slices.overlaps[concourse/api.Entry]", "slices.overlaps[concourse/api.Inode]", "slices.overlaps[concourse/api.Desc]"], unfollowed := true, recurses := true, apart := false, narrowed := true }
def ModelOpensUptoSaid : Prop := modelOpensUptoRow.holds Tryz.pinned (OpenSpec.upto modelOpensSpec)

/-- 'concourselaw13.ModelLists', WHERE WHAT IT READS IS OF BULK AT MOST 1048576: true; the input reads as it did. -/
def modelListsUptoRow : OpenClaim := { program := "ytndcloohcfhejaagreat", sum := "f53c54fed149c39ca02a5a89283679a3b60bd072b5bbbba3068aacd43f3c7e5c", func := "concourse/concourselaw13.ModelLists", spec := "modelLists", inPlace := ["internal/bytealg.abigen_runtime_cmpstring", "slices.overlaps[concourse/api.Entry]", "slices.overlaps[concourse/api.Inode]", "slices.overlaps[concourse/api.Desc]"], unfollowed := true, recurses := true, apart := false, narrowed := true }
def ModelListsUptoSaid : Prop := modelListsUptoRow.holds Tryz.pinned (OpenSpec.upto modelListsSpec)

/-- 'concourselaw13.ModelFull', WHERE WHAT IT READS IS OF BULK AT MOST 1048576: true; the input reads as it did. -/
def modelFullUptoRow : OpenClaim := { program := "ytndcloohcfhejaagreat", sum := "f53c54fed149c39ca02a5a89283679a3b60bd072b5bbbba3068aacd43f3c7e5c", func := "concourse/concourselaw13.ModelFull", spec := "modelFull", inPlace := ["internal/bytealg.abigen_runtime_cmpstring", "slices.overlaps[concourse/api.Entry]", "slices.overlaps[concourse/api.Inode]", "slices.overlaps[concourse/api.Desc]"], unfollowed := true, recurses := true, apart := false, narrowed := true }
def ModelFullUptoSaid : Prop := modelFullUptoRow.holds Tryz.pinned (OpenSpec.upto modelFullSpec)

/-- 'concourselaw13.ModelCodes', WHERE WHAT IT READS IS OF BULK AT MOST 1048576: true; the input reads as it did. -/
def modelCodesUptoRow : OpenClaim := { program := "ytndcloohcfhejaagreat", sum := "f53c54fed149c39ca02a5a89283679a3b60bd072b5bbbba3068aacd43f3c7e5c", func := "concourse/concourselaw13.ModelCodes", spec := "modelCodes", inPlace := ["internal/bytealg.abigen_runtime_cmpstring", "slices.overlaps[concourse/api.Entry]", "slices.overlaps[concourse/api.Inode]", "slices.overlaps[concourse/api.Desc]"], unfollowed := true, recurses := true, apart := false, narrowed := true }
def ModelCodesUptoSaid : Prop := modelCodesUptoRow.holds Tryz.pinned (OpenSpec.upto modelCodesSpec)

/-- 'concourselaw13.ModelFiles', WHERE WHAT IT READS IS OF BULK AT MOST 1048576: true; the input reads as it did. -/
def modelFilesUptoRow : OpenClaim := { program := "ytndcloohcfhejaagreat", sum := "f53c54fed149c39ca02a5a89283679a3b60bd072b5bbbba3068aacd43f3c7e5c", func := "concourse/concourselaw13.ModelFiles", spec := "modelFiles", inPlace := ["internal/bytealg.abigen_runtime_cmpstring", "slices.overlaps[concourse/api.Entry]", "slices.overlaps[concourse/api.Inode]", "slices.overlaps[concourse/api.Desc]"], unfollowed := true, recurses := true, apart := false, narrowed := true }
def ModelFilesUptoSaid : Prop := modelFilesUptoRow.holds Tryz.pinned (OpenSpec.upto modelFilesSpec)

end Rows
end Go.Proofs.YtndcloohcfhejaaGreat
