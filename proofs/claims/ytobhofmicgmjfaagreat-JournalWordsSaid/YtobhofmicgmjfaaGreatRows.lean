/-
  No cell of these rows narrows 'for every input' (looked for: loops, veiled, ifaces, maps, wideKeys, modest, calm, conditions, laid).
  DERIVED. THE GIVEN ROWS OF THIS SEAT. 5 by the template 'for every input the law returns true; each argument reads behind the call as it read before'; 0 by the template 'total and deterministic' (their statements: YtobhofmicgmjfaaGreatTotals.lean).
  GIVEN WITH THE SEED: the statements are not yours to turn. If you find one false, say at which input.
  Laid BY PROGRAM, IN A SANDBOX (cutbox-rows.mjs): the forced cells as the released guide's own fill.sh prints them over the translation 6284bb1f31b60a8e… (all of the seat's roots in one cut). By AI agents, Wed Nov 11 2026. No macro, syntax, notation, axiom, sorry.
-/
import Derived.Test.YtobhofmicgmjfaaGreatChecked
import GoSem.Claim
import GoSem.ClaimJoined
import GoSem.ClaimMapViews
import Derived.JoinedTies
import Derived.KernelRfl
namespace Go.Proofs.YtobhofmicgmjfaaGreat
/- THE CELL 'sum', in the pinned program and in every row, IS THE sha256 OF THE DUMP (.gsa) THAT YtobhofmicgmjfaaGreatProg.lean LOADS. Nothing in Lean hashes anything: it is a label: what it is worth is what the hold of that sum in a sandbox is worth. -/
noncomputable def Tryz.pinned : Pinned := { name := "ytobhofmicgmjfaagreat", sum := "6284bb1f31b60a8e02daac11e5323ca2930e6992d2863ddd9166e4f838da0fe9", checked := Tryz.checked }
namespace Rows
def none {H : Type} : Left H := { results := [], args := [] }

/-- 'hedgerowlaw21.JournalReads': WHATEVER THE INPUT: true; the input reads as it did. -/
def journalReadsSpec : ChangeSpec := { name := "journalReads", fn := fun _ => fun
  | [d1, d2, d3, d4] => { results := [.lit (.bool true)], args := [d1, d2, d3, d4] }
  | _ => none }
def journalReadsRow : OpenClaim := { program := "ytobhofmicgmjfaagreat", sum := "6284bb1f31b60a8e02daac11e5323ca2930e6992d2863ddd9166e4f838da0fe9", func := "hedgerow/hedgerowlaw21.JournalReads", spec := "journalReads", inPlace := ["internal/bytealg.IndexByteString", "internal/bytealg.IndexString"], unfollowed := true, recurses := true, named := ["internal/bytealg.MaxLen"], apart := false }
def JournalReadsSaid : Prop := journalReadsRow.holds Tryz.pinned (OpenSpec.ofChange journalReadsSpec)

/-- ITS FALSE NEIGHBOUR: 'it returns false'. Refute it at one input. -/
def journalReadsWrong : ChangeSpec := { name := "journalReads", fn := fun _ => fun
  | [d1, d2, d3, d4] => { results := [.lit (.bool false)], args := [d1, d2, d3, d4] }
  | _ => none }
def JournalReadsWrongFalsely : Prop := journalReadsRow.holds Tryz.pinned (OpenSpec.ofChange journalReadsWrong)

/-- 'hedgerowlaw21.JournalBent': WHATEVER THE INPUT: true; the input reads as it did. -/
def journalBentSpec : ChangeSpec := { name := "journalBent", fn := fun _ => fun
  | [d1, d2, d3, d4] => { results := [.lit (.bool true)], args := [d1, d2, d3, d4] }
  | _ => none }
def journalBentRow : OpenClaim := { program := "ytobhofmicgmjfaagreat", sum := "6284bb1f31b60a8e02daac11e5323ca2930e6992d2863ddd9166e4f838da0fe9", func := "hedgerow/hedgerowlaw21.JournalBent", spec := "journalBent", inPlace := ["internal/bytealg.IndexByteString", "internal/bytealg.IndexString"], unfollowed := true, recurses := true, named := ["internal/bytealg.MaxLen"], apart := false }
def JournalBentSaid : Prop := journalBentRow.holds Tryz.pinned (OpenSpec.ofChange journalBentSpec)

/-- ITS FALSE NEIGHBOUR: 'it returns false'. Refute it at one input. -/
def journalBentWrong : ChangeSpec := { name := "journalBent", fn := fun _ => fun
  | [d1, d2, d3, d4] => { results := [.lit (.bool false)], args := [d1, d2, d3, d4] }
  | _ => none }
def JournalBentWrongFalsely : Prop := journalBentRow.holds Tryz.pinned (OpenSpec.ofChange journalBentWrong)

/-- 'hedgerowlaw21.JournalWords': WHATEVER THE INPUT: true; the input reads as it did. -/
def journalWordsSpec : ChangeSpec := { name := "journalWords", fn := fun _ => fun
  | [d1, d2, d3] => { results := [.lit (.bool true)], args := [d1, d2, d3] }
  | _ => none }
def journalWordsRow : OpenClaim := { program := "ytobhofmicgmjfaagreat", sum := "6284bb1f31b60a8e02daac11e5323ca2930e6992d2863ddd9166e4f838da0fe9", func := "hedgerow/hedgerowlaw21.JournalWords", spec := "journalWords", inPlace := ["internal/bytealg.IndexByteString", "internal/bytealg.IndexString"], unfollowed := true, recurses := true, named := ["internal/bytealg.MaxLen"], apart := false }
def JournalWordsSaid : Prop := journalWordsRow.holds Tryz.pinned (OpenSpec.ofChange journalWordsSpec)

/-- ITS FALSE NEIGHBOUR: 'it returns false'. Refute it at one input. -/
def journalWordsWrong : ChangeSpec := { name := "journalWords", fn := fun _ => fun
  | [d1, d2, d3] => { results := [.lit (.bool false)], args := [d1, d2, d3] }
  | _ => none }
def JournalWordsWrongFalsely : Prop := journalWordsRow.holds Tryz.pinned (OpenSpec.ofChange journalWordsWrong)

/-- 'hedgerowlaw21.JournalStores': WHATEVER THE INPUT: true; the input reads as it did. -/
def journalStoresSpec : ChangeSpec := { name := "journalStores", fn := fun _ => fun
  | [d1, d2, d3, d4] => { results := [.lit (.bool true)], args := [d1, d2, d3, d4] }
  | _ => none }
def journalStoresRow : OpenClaim := { program := "ytobhofmicgmjfaagreat", sum := "6284bb1f31b60a8e02daac11e5323ca2930e6992d2863ddd9166e4f838da0fe9", func := "hedgerow/hedgerowlaw21.JournalStores", spec := "journalStores", inPlace := ["internal/bytealg.IndexByteString", "internal/bytealg.IndexString"], unfollowed := true, recurses := true, named := ["internal/bytealg.MaxLen"], apart := false }
def JournalStoresSaid : Prop := journalStoresRow.holds Tryz.pinned (OpenSpec.ofChange journalStoresSpec)

/-- ITS FALSE NEIGHBOUR: 'it returns false'. Refute it at one input. -/
def journalStoresWrong : ChangeSpec := { name := "journalStores", fn := fun _ => fun
  | [d1, d2, d3, d4] => { results := [.lit (.bool false)], args := [d1, d2, d3, d4] }
  | _ => none }
def JournalStoresWrongFalsely : Prop := journalStoresRow.holds Tryz.pinned (OpenSpec.ofChange journalStoresWrong)

/-- 'hedgerowlaw21.JournalHolds': WHATEVER THE INPUT: true; the input reads as it did. -/
def journalHoldsSpec : ChangeSpec := { name := "journalHolds", fn := fun _ => fun
  | [d1, d2, d3, d4] => { results := [.lit (.bool true)], args := [d1, d2, d3, d4] }
  | _ => none }
def journalHoldsRow : OpenClaim := { program := "ytobhofmicgmjfaagreat", sum := "6284bb1f31b60a8e02daac11e5323ca2930e6992d2863ddd9166e4f838da0fe9", func := "hedgerow/hedgerowlaw21.JournalHolds", spec := "journalHolds", inPlace := ["internal/bytealg.IndexByteString", "internal/bytealg.IndexString"], unfollowed := true, recurses := true, named := ["internal/bytealg.MaxLen"], apart := false }
def JournalHoldsSaid : Prop := journalHoldsRow.holds Tryz.pinned (OpenSpec.ofChange journalHoldsSpec)

/-- ITS FALSE NEIGHBOUR: 'it returns false'. Refute it at one input. -/
def journalHoldsWrong : ChangeSpec := { name := "journalHolds", fn := fun _ => fun
  | [d1, d2, d3, d4] => { results := [.lit (.bool false)], args := [d1, d2, d3, d4] }
  | _ => none }
def JournalHoldsWrongFalsely : Prop := journalHoldsRow.holds Tryz.pinned (OpenSpec.ofChange journalHoldsWrong)

/- THE SECOND FORM. 'bulk': how many values and letters a reading holds, each counted each time it is reached (what is shared counts as often as it is met; a slice's spare places count too). A statement '..UptoSaid' is the law's where the arguments, and the package variables that the reading takes, are together of bulk at most 1048576: NARROWER than '..Said'. Prove '..Said' where nothing that the law and all that it calls make is longer than what came in: it says more and counts as full. Else prove '..UptoSaid'. A law counts once. -/
mutual
def uptoBulk {H : Type} : DataW H → Nat
  | .lit (.string bytes) => bytes.length + 1
  | .lit _ => 1
  | .nil => 1
  | .ptr d => uptoBulk d + 1
  | .slice elems spare => uptoBulkAll elems + uptoBulkAll spare + 1
  | .agg parts => uptoBulkAll parts + 1
  | .iface _ d => uptoBulk d + 1
  | .map entries => uptoBulkEntries entries + 1
  | .held _ => 1
def uptoBulkAll {H : Type} : List (DataW H) → Nat
  | [] => 0
  | d :: r => uptoBulk d + uptoBulkAll r
def uptoBulkEntries {H : Type} : List (Lit × DataW H) → Nat
  | [] => 0
  | x :: r => uptoBulkEntry x + uptoBulkEntries r
def uptoBulkEntry {H : Type} : Lit × DataW H → Nat
  | (.string bytes, d) => bytes.length + uptoBulk d + 1
  | (_, d) => uptoBulk d + 1
 end
def uptoSmall : (H : Type) → List (DataW H) → Bool := fun _ ds => decide (uptoBulkAll ds ≤ 1048576)
def OpenSpec.upto (s : _root_.Go.ChangeSpec) : _root_.Go.OpenSpec := { _root_.Go.OpenSpec.ofChange s with cond := some uptoSmall }

/-- 'hedgerowlaw21.JournalReads', WHERE WHAT IT READS IS OF BULK AT MOST 1048576: true; the input reads as it did. -/
def journalReadsUptoRow : OpenClaim := { program := "ytobhofmicgmjfaagreat", sum := "6284bb1f31b60a8e02daac11e5323ca2930e6992d2863ddd9166e4f838da0fe9", func := "hedgerow/hedgerowlaw21.JournalReads", spec := "journalReads", inPlace := ["internal/bytealg.IndexByteString", "internal/bytealg.IndexString"], unfollowed := true, recurses := true, named := ["internal/bytealg.MaxLen"], apart := false, narrowed := true }
def JournalReadsUptoSaid : Prop := journalReadsUptoRow.holds Tryz.pinned (OpenSpec.upto journalReadsSpec)

/-- 'hedgerowlaw21.JournalBent', WHERE WHAT IT READS IS OF BULK AT MOST 1048576: true; the input reads as it did. -/
def journalBentUptoRow : OpenClaim := { program := "ytobhofmicgmjfaagreat", sum := "6284bb1f31b60a8e02daac11e5323ca2930e6992d2863ddd9166e4f838da0fe9", func := "hedgerow/hedgerowlaw21.JournalBent", spec := "journalBent", inPlace := ["internal/bytealg.IndexByteString", "internal/bytealg.IndexString"], unfollowed := true, recurses := true, named := ["internal/bytealg.MaxLen"], apart := false, narrowed := true }
def JournalBentUptoSaid : Prop := journalBentUptoRow.holds Tryz.pinned (OpenSpec.upto journalBentSpec)

/-- 'hedgerowlaw21.JournalWords', WHERE WHAT IT READS IS OF BULK AT MOST 1048576: true; the input reads as it did. -/
def journalWordsUptoRow : OpenClaim := { program := "ytobhofmicgmjfaagreat", sum := "6284bb1f31b60a8e02daac11e5323ca2930e6992d2863ddd9166e4f838da0fe9", func := "hedgerow/hedgerowlaw21.JournalWords", spec := "journalWords", inPlace := ["internal/bytealg.IndexByteString", "internal/bytealg.IndexString"], unfollowed := true, recurses := true, named := ["internal/bytealg.MaxLen"], apart := false, narrowed := true }
def JournalWordsUptoSaid : Prop := journalWordsUptoRow.holds Tryz.pinned (OpenSpec.upto journalWordsSpec)

/-- 'hedgerowlaw21.JournalStores', WHERE WHAT IT READS IS OF BULK AT MOST 1048576: true; the input reads as it did. -/
def journalStoresUptoRow : OpenClaim := { program := "ytobhofmicgmjfaagreat", sum := "6284bb1f31b60a8e02daac11e5323ca2930e6992d2863ddd9166e4f838da0fe9", func := "hedgerow/hedgerowlaw21.JournalStores", spec := "journalStores", inPlace := ["internal/bytealg.IndexByteString", "internal/bytealg.IndexString"], unfollowed := true, recurses := true, named := ["internal/bytealg.MaxLen"], apart := false, narrowed := true }
def JournalStoresUptoSaid : Prop := journalStoresUptoRow.holds Tryz.pinned (OpenSpec.upto journalStoresSpec)

/-- 'hedgerowlaw21.JournalHolds', WHERE WHAT IT READS IS OF BULK AT MOST 1048576: true; the input reads as it did. -/
def journalHoldsUptoRow : OpenClaim := { program := "ytobhofmicgmjfaagreat", sum := "6284bb1f31b60a8e02daac11e5323ca2930e6992d2863ddd9166e4f838da0fe9", func := "hedgerow/hedgerowlaw21.JournalHolds", spec := "journalHolds", inPlace := ["internal/bytealg.IndexByteString", "internal/bytealg.IndexString"], unfollowed := true, recurses := true, named := ["internal/bytealg.MaxLen"], apart := false, narrowed := true }
def JournalHoldsUptoSaid : Prop := journalHoldsUptoRow.holds Tryz.pinned (OpenSpec.upto journalHoldsSpec)

end Rows
end Go.Proofs.YtobhofmicgmjfaaGreat
