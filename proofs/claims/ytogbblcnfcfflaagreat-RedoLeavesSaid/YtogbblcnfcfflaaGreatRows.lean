/-
  No cell of these rows narrows 'for every input' (looked for: loops, veiled, ifaces, maps, wideKeys, modest, calm, conditions, laid).
  DERIVED. THE GIVEN ROWS OF THIS SEAT. 4 by the template 'for every input the law returns true; each argument reads behind the call as it read before'; 0 by the template 'total and deterministic' (their statements: YtogbblcnfcfflaaGreatTotals.lean).
  GIVEN WITH THE SEED: the statements are not yours to turn. If you find one false, say at which input.
  Laid BY PROGRAM, IN A SANDBOX (cutbox-rows.mjs): the forced cells as the released guide's own fill.sh prints them over the translation 9b9429df689ca15b… (all of the seat's roots in one cut). By AI agents, Wed Nov 11 2026. No macro, syntax, notation, axiom, sorry.
-/
import Derived.Test.YtogbblcnfcfflaaGreatChecked
import GoSem.Claim
import GoSem.ClaimJoined
import GoSem.ClaimMapViews
import Derived.JoinedTies
import Derived.KernelRfl
namespace Go.Proofs.YtogbblcnfcfflaaGreat
/- THE CELL 'sum', in the pinned program and in every row, IS THE sha256 OF THE DUMP (.gsa) THAT YtogbblcnfcfflaaGreatProg.lean LOADS. Nothing in Lean hashes anything: it is a label: what it is worth is what the hold of that sum in a sandbox is worth. -/
noncomputable def Tryz.pinned : Pinned := { name := "ytogbblcnfcfflaagreat", sum := "9b9429df689ca15ba5ff77d3615e0c05d9ec0910cefc319bcfbd05ce79f56766", checked := Tryz.checked }
namespace Rows
def none {H : Type} : Left H := { results := [], args := [] }

/-- 'hedgerowlaw22.RedoLeaves': WHATEVER THE INPUT: true; the input reads as it did. -/
def redoLeavesSpec : ChangeSpec := { name := "redoLeaves", fn := fun _ => fun
  | [d1, d2, d3, d4] => { results := [.lit (.bool true)], args := [d1, d2, d3, d4] }
  | _ => none }
def redoLeavesRow : OpenClaim := { program := "ytogbblcnfcfflaagreat", sum := "9b9429df689ca15ba5ff77d3615e0c05d9ec0910cefc319bcfbd05ce79f56766", func := "hedgerow/hedgerowlaw22.RedoLeaves", spec := "redoLeaves", inPlace := ["internal/bytealg.IndexByteString", "internal/bytealg.IndexString", "slices.overlaps[hedgerow/api.Put]"], unfollowed := true, recurses := true, named := ["internal/bytealg.MaxLen"], apart := false }
def RedoLeavesSaid : Prop := redoLeavesRow.holds Tryz.pinned (OpenSpec.ofChange redoLeavesSpec)

/-- ITS FALSE NEIGHBOUR: 'it returns false'. Refute it at one input. -/
def redoLeavesWrong : ChangeSpec := { name := "redoLeaves", fn := fun _ => fun
  | [d1, d2, d3, d4] => { results := [.lit (.bool false)], args := [d1, d2, d3, d4] }
  | _ => none }
def RedoLeavesWrongFalsely : Prop := redoLeavesRow.holds Tryz.pinned (OpenSpec.ofChange redoLeavesWrong)

/-- 'hedgerowlaw22.RedoInodes': WHATEVER THE INPUT: true; the input reads as it did. -/
def redoInodesSpec : ChangeSpec := { name := "redoInodes", fn := fun _ => fun
  | [d1, d2, d3] => { results := [.lit (.bool true)], args := [d1, d2, d3] }
  | _ => none }
def redoInodesRow : OpenClaim := { program := "ytogbblcnfcfflaagreat", sum := "9b9429df689ca15ba5ff77d3615e0c05d9ec0910cefc319bcfbd05ce79f56766", func := "hedgerow/hedgerowlaw22.RedoInodes", spec := "redoInodes", inPlace := ["internal/bytealg.IndexByteString", "internal/bytealg.IndexString", "slices.overlaps[hedgerow/api.Put]"], unfollowed := true, recurses := true, named := ["internal/bytealg.MaxLen"], apart := false }
def RedoInodesSaid : Prop := redoInodesRow.holds Tryz.pinned (OpenSpec.ofChange redoInodesSpec)

/-- ITS FALSE NEIGHBOUR: 'it returns false'. Refute it at one input. -/
def redoInodesWrong : ChangeSpec := { name := "redoInodes", fn := fun _ => fun
  | [d1, d2, d3] => { results := [.lit (.bool false)], args := [d1, d2, d3] }
  | _ => none }
def RedoInodesWrongFalsely : Prop := redoInodesRow.holds Tryz.pinned (OpenSpec.ofChange redoInodesWrong)

/-- 'hedgerowlaw22.RedoDoes': WHATEVER THE INPUT: true; the input reads as it did. -/
def redoDoesSpec : ChangeSpec := { name := "redoDoes", fn := fun _ => fun
  | [d1, d2, d3, d4] => { results := [.lit (.bool true)], args := [d1, d2, d3, d4] }
  | _ => none }
def redoDoesRow : OpenClaim := { program := "ytogbblcnfcfflaagreat", sum := "9b9429df689ca15ba5ff77d3615e0c05d9ec0910cefc319bcfbd05ce79f56766", func := "hedgerow/hedgerowlaw22.RedoDoes", spec := "redoDoes", inPlace := ["internal/bytealg.IndexByteString", "internal/bytealg.IndexString", "slices.overlaps[hedgerow/api.Put]"], unfollowed := true, recurses := true, named := ["internal/bytealg.MaxLen"], apart := false }
def RedoDoesSaid : Prop := redoDoesRow.holds Tryz.pinned (OpenSpec.ofChange redoDoesSpec)

/-- ITS FALSE NEIGHBOUR: 'it returns false'. Refute it at one input. -/
def redoDoesWrong : ChangeSpec := { name := "redoDoes", fn := fun _ => fun
  | [d1, d2, d3, d4] => { results := [.lit (.bool false)], args := [d1, d2, d3, d4] }
  | _ => none }
def RedoDoesWrongFalsely : Prop := redoDoesRow.holds Tryz.pinned (OpenSpec.ofChange redoDoesWrong)

/-- 'hedgerowlaw22.RedoHolds': WHATEVER THE INPUT: true; the input reads as it did. -/
def redoHoldsSpec : ChangeSpec := { name := "redoHolds", fn := fun _ => fun
  | [d1, d2] => { results := [.lit (.bool true)], args := [d1, d2] }
  | _ => none }
def redoHoldsRow : OpenClaim := { program := "ytogbblcnfcfflaagreat", sum := "9b9429df689ca15ba5ff77d3615e0c05d9ec0910cefc319bcfbd05ce79f56766", func := "hedgerow/hedgerowlaw22.RedoHolds", spec := "redoHolds", inPlace := ["internal/bytealg.IndexByteString", "internal/bytealg.IndexString", "slices.overlaps[hedgerow/api.Put]"], unfollowed := true, recurses := true, named := ["internal/bytealg.MaxLen"], apart := false }
def RedoHoldsSaid : Prop := redoHoldsRow.holds Tryz.pinned (OpenSpec.ofChange redoHoldsSpec)

/-- ITS FALSE NEIGHBOUR: 'it returns false'. Refute it at one input. -/
def redoHoldsWrong : ChangeSpec := { name := "redoHolds", fn := fun _ => fun
  | [d1, d2] => { results := [.lit (.bool false)], args := [d1, d2] }
  | _ => none }
def RedoHoldsWrongFalsely : Prop := redoHoldsRow.holds Tryz.pinned (OpenSpec.ofChange redoHoldsWrong)

/- THE SECOND FORM. 'bulk': how many values and letters a reading holds, each counted each time it is reached (what is shared counts as often as it is met; a slice's spare places count too). A statement '..UptoSaid' is the law's where the arguments, and the package variables that the reading takes, are together of bulk at most 1048576: NARROWER than '..Said'. Prove '..Said' where nothing that the law and all that it calls make is longer than what came in: it says more and counts as full. Else prove '..UptoSaid'. A law counts once. -/
mutual
def uptoBulk {H : Type} : DataW H → Nat
  | .lit (.string bytes) => bytes.length + 1
  | .lit _ => 1
  | .nil => 1
  | .ptr d => uptoBulk d + 1
  | .slice elems spare => uptoBulkAll elems + uptoBulkAll spare + 1
  | .agg parts => uptoBulkAll parts + 1
  | .iface _ d => uptoBulk d + 1
  | .map entries => uptoBulkEntries entries + 1
  | .held _ => 1
def uptoBulkAll {H : Type} : List (DataW H) → Nat
  | [] => 0
  | d :: r => uptoBulk d + uptoBulkAll r
def uptoBulkEntries {H : Type} : List (Lit × DataW H) → Nat
  | [] => 0
  | x :: r => uptoBulkEntry x + uptoBulkEntries r
def uptoBulkEntry {H : Type} : Lit × DataW H → Nat
  | (.string bytes, d) => bytes.length + uptoBulk d + 1
  | (_, d) => uptoBulk d + 1
 end
def uptoSmall : (H : Type) → List (DataW H) → Bool := fun _ ds => decide (uptoBulkAll ds ≤ 1048576)
def OpenSpec.upto (s : _root_.Go.ChangeSpec) : _root_.Go.OpenSpec := { _root_.Go.OpenSpec.ofChange s with cond := some uptoSmall }

/-- 'hedgerowlaw22.RedoLeaves', WHERE WHAT IT READS IS OF BULK AT MOST 1048576: true; the input reads as it did. -/
def redoLeavesUptoRow : OpenClaim := { program := "ytogbblcnfcfflaagreat", sum := "9b9429df689ca15ba5ff77d3615e0c05d9ec0910cefc319bcfbd05ce79f56766", func := "hedgerow/hedgerowlaw22.RedoLeaves", spec := "redoLeaves", inPlace := ["internal/bytealg.IndexByteString", "internal/bytealg.IndexString", "slices.overlaps[hedgerow/api.Put]"], unfollowed := true, recurses := true, named := ["internal/bytealg.MaxLen"], apart := false, narrowed := true }
def RedoLeavesUptoSaid : Prop := redoLeavesUptoRow.holds Tryz.pinned (OpenSpec.upto redoLeavesSpec)

/-- 'hedgerowlaw22.RedoInodes', WHERE WHAT IT READS IS OF BULK AT MOST 1048576: true; the input reads as it did. -/
def redoInodesUptoRow : OpenClaim := { program := "ytogbblcnfcfflaagreat", sum := "9b9429df689ca15ba5ff77d3615e0c05d9ec0910cefc319bcfbd05ce79f56766", func := "hedgerow/hedgerowlaw22.RedoInodes", spec := "redoInodes", inPlace := ["internal/bytealg.IndexByteString", "internal/bytealg.IndexString", "slices.overlaps[hedgerow/api.Put]"], unfollowed := true, recurses := true, named := ["internal/bytealg.MaxLen"], apart := false, narrowed := true }
def RedoInodesUptoSaid : Prop := redoInodesUptoRow.holds Tryz.pinned (OpenSpec.upto redoInodesSpec)

/-- 'hedgerowlaw22.RedoDoes', WHERE WHAT IT READS IS OF BULK AT MOST 1048576: true; the input reads as it did. -/
def redoDoesUptoRow : OpenClaim := { program := "ytogbblcnfcfflaagreat", sum := "9b9429df689ca15ba5ff77d3615e0c05d9ec0910cefc319bcfbd05ce79f56766", func := "hedgerow/hedgerowlaw22.RedoDoes", spec := "redoDoes", inPlace := ["internal/bytealg.IndexByteString", "internal/bytealg.IndexString", "slices.overlaps[hedgerow/api.Put]"], unfollowed := true, recurses := true, named := ["internal/bytealg.MaxLen"], apart := false, narrowed := true }
def RedoDoesUptoSaid : Prop := redoDoesUptoRow.holds Tryz.pinned (OpenSpec.upto redoDoesSpec)

/-- 'hedgerowlaw22.RedoHolds', WHERE WHAT IT READS IS OF BULK AT MOST 1048576: true; the input reads as it did. -/
def redoHoldsUptoRow : OpenClaim := { program := "ytogbblcnfcfflaagreat", sum := "9b9429df689ca15ba5ff77d3615e0c05d9ec0910cefc319bcfbd05ce79f56766", func := "hedgerow/hedgerowlaw22.RedoHolds", spec := "redoHolds", inPlace := ["internal/bytealg.IndexByteString", "internal/bytealg.IndexString", "slices.overlaps[hedgerow/api.Put]"], unfollowed := true, recurses := true, named := ["internal/bytealg.MaxLen"], apart := false, narrowed := true }
def RedoHoldsUptoSaid : Prop := redoHoldsUptoRow.holds Tryz.pinned (OpenSpec.upto redoHoldsSpec)

end Rows
end Go.Proofs.YtogbblcnfcfflaaGreat
