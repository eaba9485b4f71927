/-
  No cell of these rows narrows 'for every input' (looked for: loops, veiled, ifaces, maps, wideKeys, modest, calm, conditions, laid).
  DERIVED. THE GIVEN ROWS OF THIS SEAT. 6 by the template 'for every input the law returns true; each argument reads behind the call as it read before'; 0 by the template 'total and deterministic' (their statements: YtjlgpfolnhilfaaTotals.lean).
  GIVEN WITH THE SEED: the statements are not yours to turn. If you find one false, say at which input.
  Laid BY PROGRAM, IN A SANDBOX (cutbox-rows.mjs): the forced cells as the released guide's own fill.sh prints them over the translation e773911fe2acdafe… (all of the seat's roots in one cut). By AI agents, Wed Nov 11 2026. No macro, syntax, notation, axiom, sorry.
-/
import Derived.Test.YtjlgpfolnhilfaaChecked
import GoSem.Claim
import GoSem.ClaimJoined
import GoSem.ClaimMapViews
import Derived.JoinedTies
import Derived.KernelRfl
namespace Go.Proofs.Ytjlgpfolnhilfaa
/- THE CELL 'sum', in the pinned program and in every row, IS THE sha256 OF THE DUMP (.gsa) THAT YtjlgpfolnhilfaaProg.lean LOADS. Nothing in Lean hashes anything: it is a label: what it is worth is what the hold of that sum in a sandbox is worth. -/
noncomputable def Try.pinned : Pinned := { name := "ytjlgpfolnhilfaa", sum := "e773911fe2acdafeecd5d0ad1cf153959764d35f7ddb5428146d89a9215aeaa8", checked := Try.checked }
namespace Rows
def none {H : Type} : Left H := { results := [], args := [] }

/-- 'hedgerowlaw28.StreamPlays': WHATEVER THE INPUT: true; the input reads as it did. -/
def streamPlaysSpec : ChangeSpec := { name := "streamPlays", fn := fun _ => fun
  | [d1, d2, d3] => { results := [.lit (.bool true)], args := [d1, d2, d3] }
  | _ => none }
def streamPlaysRow : OpenClaim := { program := "ytjlgpfolnhilfaa", sum := "e773911fe2acdafeecd5d0ad1cf153959764d35f7ddb5428146d89a9215aeaa8", func := "hedgerow/hedgerowlaw28.StreamPlays", spec := "streamPlays", unfollowed := true, recurses := true, apart := false }
def StreamPlaysSaid : Prop := streamPlaysRow.holds Try.pinned (OpenSpec.ofChange streamPlaysSpec)

/-- ITS FALSE NEIGHBOUR: 'it returns false'. Refute it at one input. -/
def streamPlaysWrong : ChangeSpec := { name := "streamPlays", fn := fun _ => fun
  | [d1, d2, d3] => { results := [.lit (.bool false)], args := [d1, d2, d3] }
  | _ => none }
def StreamPlaysWrongFalsely : Prop := streamPlaysRow.holds Try.pinned (OpenSpec.ofChange streamPlaysWrong)

/-- 'hedgerowlaw09.SlotsPuts': WHATEVER THE INPUT: true; the input reads as it did. -/
def slotsPutsSpec : ChangeSpec := { name := "slotsPuts", fn := fun _ => fun
  | [d1, d2, d3] => { results := [.lit (.bool true)], args := [d1, d2, d3] }
  | _ => none }
def slotsPutsRow : OpenClaim := { program := "ytjlgpfolnhilfaa", sum := "e773911fe2acdafeecd5d0ad1cf153959764d35f7ddb5428146d89a9215aeaa8", func := "hedgerow/hedgerowlaw09.SlotsPuts", spec := "slotsPuts", unfollowed := true, recurses := true, apart := false }
def SlotsPutsSaid : Prop := slotsPutsRow.holds Try.pinned (OpenSpec.ofChange slotsPutsSpec)

/-- ITS FALSE NEIGHBOUR: 'it returns false'. Refute it at one input. -/
def slotsPutsWrong : ChangeSpec := { name := "slotsPuts", fn := fun _ => fun
  | [d1, d2, d3] => { results := [.lit (.bool false)], args := [d1, d2, d3] }
  | _ => none }
def SlotsPutsWrongFalsely : Prop := slotsPutsRow.holds Try.pinned (OpenSpec.ofChange slotsPutsWrong)

/-- 'hedgerowlaw09.SlotsTakes': WHATEVER THE INPUT: true; the input reads as it did. -/
def slotsTakesSpec : ChangeSpec := { name := "slotsTakes", fn := fun _ => fun
  | [d1, d2, d3] => { results := [.lit (.bool true)], args := [d1, d2, d3] }
  | _ => none }
def slotsTakesRow : OpenClaim := { program := "ytjlgpfolnhilfaa", sum := "e773911fe2acdafeecd5d0ad1cf153959764d35f7ddb5428146d89a9215aeaa8", func := "hedgerow/hedgerowlaw09.SlotsTakes", spec := "slotsTakes", unfollowed := true, recurses := true, apart := false }
def SlotsTakesSaid : Prop := slotsTakesRow.holds Try.pinned (OpenSpec.ofChange slotsTakesSpec)

/-- ITS FALSE NEIGHBOUR: 'it returns false'. Refute it at one input. -/
def slotsTakesWrong : ChangeSpec := { name := "slotsTakes", fn := fun _ => fun
  | [d1, d2, d3] => { results := [.lit (.bool false)], args := [d1, d2, d3] }
  | _ => none }
def SlotsTakesWrongFalsely : Prop := slotsTakesRow.holds Try.pinned (OpenSpec.ofChange slotsTakesWrong)

/-- 'hedgerowlaw09.SlotsReads': WHATEVER THE INPUT: true; the input reads as it did. -/
def slotsReadsSpec : ChangeSpec := { name := "slotsReads", fn := fun _ => fun
  | [d1, d2, d3] => { results := [.lit (.bool true)], args := [d1, d2, d3] }
  | _ => none }
def slotsReadsRow : OpenClaim := { program := "ytjlgpfolnhilfaa", sum := "e773911fe2acdafeecd5d0ad1cf153959764d35f7ddb5428146d89a9215aeaa8", func := "hedgerow/hedgerowlaw09.SlotsReads", spec := "slotsReads", unfollowed := true, recurses := true, apart := false }
def SlotsReadsSaid : Prop := slotsReadsRow.holds Try.pinned (OpenSpec.ofChange slotsReadsSpec)

/-- ITS FALSE NEIGHBOUR: 'it returns false'. Refute it at one input. -/
def slotsReadsWrong : ChangeSpec := { name := "slotsReads", fn := fun _ => fun
  | [d1, d2, d3] => { results := [.lit (.bool false)], args := [d1, d2, d3] }
  | _ => none }
def SlotsReadsWrongFalsely : Prop := slotsReadsRow.holds Try.pinned (OpenSpec.ofChange slotsReadsWrong)

/-- 'hedgerowlaw09.SlotsSwaps': WHATEVER THE INPUT: true; the input reads as it did. -/
def slotsSwapsSpec : ChangeSpec := { name := "slotsSwaps", fn := fun _ => fun
  | [d1, d2, d3] => { results := [.lit (.bool true)], args := [d1, d2, d3] }
  | _ => none }
def slotsSwapsRow : OpenClaim := { program := "ytjlgpfolnhilfaa", sum := "e773911fe2acdafeecd5d0ad1cf153959764d35f7ddb5428146d89a9215aeaa8", func := "hedgerow/hedgerowlaw09.SlotsSwaps", spec := "slotsSwaps", unfollowed := true, recurses := true, apart := false }
def SlotsSwapsSaid : Prop := slotsSwapsRow.holds Try.pinned (OpenSpec.ofChange slotsSwapsSpec)

/-- ITS FALSE NEIGHBOUR: 'it returns false'. Refute it at one input. -/
def slotsSwapsWrong : ChangeSpec := { name := "slotsSwaps", fn := fun _ => fun
  | [d1, d2, d3] => { results := [.lit (.bool false)], args := [d1, d2, d3] }
  | _ => none }
def SlotsSwapsWrongFalsely : Prop := slotsSwapsRow.holds Try.pinned (OpenSpec.ofChange slotsSwapsWrong)

/-- 'hedgerowlaw09.SlotsSteps': WHATEVER THE INPUT: true; the input reads as it did. -/
def slotsStepsSpec : ChangeSpec := { name := "slotsSteps", fn := fun _ => fun
  | [d1, d2, d3, d4] => { results := [.lit (.bool true)], args := [d1, d2, d3, d4] }
  | _ => none }
def slotsStepsRow : OpenClaim := { program := "ytjlgpfolnhilfaa", sum := "e773911fe2acdafeecd5d0ad1cf153959764d35f7ddb5428146d89a9215aeaa8", func := "hedgerow/hedgerowlaw09.SlotsSteps", spec := "slotsSteps", unfollowed := true, recurses := true, apart := false }
def SlotsStepsSaid : Prop := slotsStepsRow.holds Try.pinned (OpenSpec.ofChange slotsStepsSpec)

/-- ITS FALSE NEIGHBOUR: 'it returns false'. Refute it at one input. -/
def slotsStepsWrong : ChangeSpec := { name := "slotsSteps", fn := fun _ => fun
  | [d1, d2, d3, d4] => { results := [.lit (.bool false)], args := [d1, d2, d3, d4] }
  | _ => none }
def SlotsStepsWrongFalsely : Prop := slotsStepsRow.holds Try.pinned (OpenSpec.ofChange slotsStepsWrong)

/- THE SECOND FORM. 'bulk': how many values and letters a reading holds, each counted each time it is reached (what is shared counts as often as it is met; a slice's spare places count too). A statement '..UptoSaid' is the law's where the arguments, and the package variables that the reading takes, are together of bulk at most 1048576: NARROWER than '..Said'. Prove '..Said' where nothing that the law and all that it calls make is longer than what came in: it says more and counts as full. Else prove '..UptoSaid'. A law counts once. -/
mutual
def uptoBulk {H : Type} : DataW H → Nat
  | .lit (.string bytes) => bytes.length + 1
  | .lit _ => 1
  | .nil => 1
  | .ptr d => uptoBulk d + 1
  | .slice elems spare => uptoBulkAll elems + uptoBulkAll spare + 1
  | .agg parts => uptoBulkAll parts + 1
  | .iface _ d => uptoBulk d + 1
  | .map entries => uptoBulkEntries entries + 1
  | .held _ => 1
def uptoBulkAll {H : Type} : List (DataW H) → Nat
  | [] => 0
  | d :: r => uptoBulk d + uptoBulkAll r
def uptoBulkEntries {H : Type} : List (Lit × DataW H) → Nat
  | [] => 0
  | x :: r => uptoBulkEntry x + uptoBulkEntries r
def uptoBulkEntry {H : Type} : Lit × DataW H → Nat
  | (.string bytes, d) => bytes.length + uptoBulk d + 1
  | (_, d) => uptoBulk d + 1
 end
def uptoSmall : (H : Type) → List (DataW H) → Bool := fun _ ds => decide (uptoBulkAll ds ≤ 1048576)
def OpenSpec.upto (s : _root_.Go.ChangeSpec) : _root_.Go.OpenSpec := { _root_.Go.OpenSpec.ofChange s with cond := some uptoSmall }

/-- 'hedgerowlaw28.StreamPlays', WHERE WHAT IT READS IS OF BULK AT MOST 1048576: true; the input reads as it did. -/
def streamPlaysUptoRow : OpenClaim := { program := "ytjlgpfolnhilfaa", sum := "e773911fe2acdafeecd5d0ad1cf153959764d35f7ddb5428146d89a9215aeaa8", func := "hedgerow/hedgerowlaw28.StreamPlays", spec := "streamPlays", unfollowed := true, recurses := true, apart := false, narrowed := true }
def StreamPlaysUptoSaid : Prop := streamPlaysUptoRow.holds Try.pinned (OpenSpec.upto streamPlaysSpec)

/-- 'hedgerowlaw09.SlotsPuts', WHERE WHAT IT READS IS OF BULK AT MOST 1048576: true; the input reads as it did. -/
def slotsPutsUptoRow : OpenClaim := { program := "ytjlgpfolnhilfaa", sum := "e773911fe2acdafeecd5d0ad1cf153959764d35f7ddb5428146d89a9215aeaa8", func := "hedgerow/hedgerowlaw09.SlotsPuts", spec := "slotsPuts", unfollowed := true, recurses := true, apart := false, narrowed := true }
def SlotsPutsUptoSaid : Prop := slotsPutsUptoRow.holds Try.pinned (OpenSpec.upto slotsPutsSpec)

/-- 'hedgerowlaw09.SlotsTakes', WHERE WHAT IT READS IS OF BULK AT MOST 1048576: true; the input reads as it did. -/
def slotsTakesUptoRow : OpenClaim := { program := "ytjlgpfolnhilfaa", sum := "e773911fe2acdafeecd5d0ad1cf153959764d35f7ddb5428146d89a9215aeaa8", func := "hedgerow/hedgerowlaw09.SlotsTakes", spec := "slotsTakes", unfollowed := true, recurses := true, apart := false, narrowed := true }
def SlotsTakesUptoSaid : Prop := slotsTakesUptoRow.holds Try.pinned (OpenSpec.upto slotsTakesSpec)

/-- 'hedgerowlaw09.SlotsReads', WHERE WHAT IT READS IS OF BULK AT MOST 1048576: true; the input reads as it did. -/
def slotsReadsUptoRow : OpenClaim := { program := "ytjlgpfolnhilfaa", sum := "e773911fe2acdafeecd5d0ad1cf153959764d35f7ddb5428146d89a9215aeaa8", func := "hedgerow/hedgerowlaw09.SlotsReads", spec := "slotsReads", unfollowed := true, recurses := true, apart := false, narrowed := true }
def SlotsReadsUptoSaid : Prop := slotsReadsUptoRow.holds Try.pinned (OpenSpec.upto slotsReadsSpec)

/-- 'hedgerowlaw09.SlotsSwaps', WHERE WHAT IT READS IS OF BULK AT MOST 1048576: true; the input reads as it did. -/
def slotsSwapsUptoRow : OpenClaim := { program := "ytjlgpfolnhilfaa", sum := "e773911fe2acdafeecd5d0ad1cf153959764d35f7ddb5428146d89a9215aeaa8", func := "hedgerow/hedgerowlaw09.SlotsSwaps", spec := "slotsSwaps", unfollowed := true, recurses := true, apart := false, narrowed := true }
def SlotsSwapsUptoSaid : Prop := slotsSwapsUptoRow.holds Try.pinned (OpenSpec.upto slotsSwapsSpec)

/-- 'hedgerowlaw09.SlotsSteps', WHERE WHAT IT READS IS OF BULK AT MOST 1048576: true; the input reads as it did. -/
def slotsStepsUptoRow : OpenClaim := { program := "ytjlgpfolnhilfaa", sum := "e773911fe2acdafeecd5d0ad1cf153959764d35f7ddb5428146d89a9215aeaa8", func := "hedgerow/hedgerowlaw09.SlotsSteps", spec := "slotsSteps", unfollowed := true, recurses := true, apart := false, narrowed := true }
def SlotsStepsUptoSaid : Prop := slotsStepsUptoRow.holds Try.pinned (OpenSpec.upto slotsStepsSpec)

end Rows
end Go.Proofs.Ytjlgpfolnhilfaa
