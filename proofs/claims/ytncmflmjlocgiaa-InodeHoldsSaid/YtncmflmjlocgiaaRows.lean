/-
  No cell of these rows narrows 'for every input' (looked for: loops, veiled, ifaces, maps, wideKeys, modest, calm, conditions, laid).
  DERIVED. THE GIVEN ROWS OF THIS SEAT. 11 by the template 'for every input the law returns true; each argument reads behind the call as it read before'; 0 by the template 'total and deterministic' (their statements: YtncmflmjlocgiaaTotals.lean).
  GIVEN WITH THE SEED: the statements are not yours to turn. If you find one false, say at which input.
  Laid BY PROGRAM, IN A SANDBOX (cutbox-rows.mjs): the forced cells as the released guide's own fill.sh prints them over the translation 53bc123e8116db7b… (all of the seat's roots in one cut). By AI agents, Wed Nov 11 2026. No macro, syntax, notation, axiom, sorry.
-/
import Derived.Test.YtncmflmjlocgiaaChecked
import GoSem.Claim
import GoSem.ClaimJoined
import GoSem.ClaimMapViews
import Derived.JoinedTies
import Derived.KernelRfl
namespace Go.Proofs.Ytncmflmjlocgiaa
/- THE CELL 'sum', in the pinned program and in every row, IS THE sha256 OF THE DUMP (.gsa) THAT YtncmflmjlocgiaaProg.lean LOADS. Nothing in Lean hashes anything: it is a label: what it is worth is what the hold of that sum in a sandbox is worth. -/
noncomputable def Try.pinned : Pinned := { name := "ytncmflmjlocgiaa", sum := "53bc123e8116db7ba3b4cd8349bc99b123408a547fc6451480fd254cf450e4b2", checked := Try.checked }
namespace Rows
def none {H : Type} : Left H := { results := [], args := [] }

/-- 'hedgerowlaw15.RecordWords': WHATEVER THE INPUT: true; the input reads as it did. -/
def recordWordsSpec : ChangeSpec := { name := "recordWords", fn := fun _ => fun
  | [d] => { results := [.lit (.bool true)], args := [d] }
  | _ => none }
def recordWordsRow : OpenClaim := { program := "ytncmflmjlocgiaa", sum := "53bc123e8116db7ba3b4cd8349bc99b123408a547fc6451480fd254cf450e4b2", func := "hedgerow/hedgerowlaw15.RecordWords", spec := "recordWords", inPlace := ["internal/bytealg.IndexByteString", "internal/bytealg.IndexString"], unfollowed := true, recurses := true, named := ["internal/bytealg.MaxLen"], apart := false }
def RecordWordsSaid : Prop := recordWordsRow.holds Try.pinned (OpenSpec.ofChange recordWordsSpec)

/-- ITS FALSE NEIGHBOUR: 'it returns false'. Refute it at one input. -/
def recordWordsWrong : ChangeSpec := { name := "recordWords", fn := fun _ => fun
  | [d] => { results := [.lit (.bool false)], args := [d] }
  | _ => none }
def RecordWordsWrongFalsely : Prop := recordWordsRow.holds Try.pinned (OpenSpec.ofChange recordWordsWrong)

/-- 'hedgerowlaw15.RecordReads': WHATEVER THE INPUT: true; the input reads as it did. -/
def recordReadsSpec : ChangeSpec := { name := "recordReads", fn := fun _ => fun
  | [d] => { results := [.lit (.bool true)], args := [d] }
  | _ => none }
def recordReadsRow : OpenClaim := { program := "ytncmflmjlocgiaa", sum := "53bc123e8116db7ba3b4cd8349bc99b123408a547fc6451480fd254cf450e4b2", func := "hedgerow/hedgerowlaw15.RecordReads", spec := "recordReads", inPlace := ["internal/bytealg.IndexByteString", "internal/bytealg.IndexString"], unfollowed := true, recurses := true, named := ["internal/bytealg.MaxLen"], apart := false }
def RecordReadsSaid : Prop := recordReadsRow.holds Try.pinned (OpenSpec.ofChange recordReadsSpec)

/-- ITS FALSE NEIGHBOUR: 'it returns false'. Refute it at one input. -/
def recordReadsWrong : ChangeSpec := { name := "recordReads", fn := fun _ => fun
  | [d] => { results := [.lit (.bool false)], args := [d] }
  | _ => none }
def RecordReadsWrongFalsely : Prop := recordReadsRow.holds Try.pinned (OpenSpec.ofChange recordReadsWrong)

/-- 'hedgerowlaw15.RecordStores': WHATEVER THE INPUT: true; the input reads as it did. -/
def recordStoresSpec : ChangeSpec := { name := "recordStores", fn := fun _ => fun
  | [d1, d2] => { results := [.lit (.bool true)], args := [d1, d2] }
  | _ => none }
def recordStoresRow : OpenClaim := { program := "ytncmflmjlocgiaa", sum := "53bc123e8116db7ba3b4cd8349bc99b123408a547fc6451480fd254cf450e4b2", func := "hedgerow/hedgerowlaw15.RecordStores", spec := "recordStores", inPlace := ["internal/bytealg.IndexByteString", "internal/bytealg.IndexString"], unfollowed := true, recurses := true, named := ["internal/bytealg.MaxLen"], apart := false }
def RecordStoresSaid : Prop := recordStoresRow.holds Try.pinned (OpenSpec.ofChange recordStoresSpec)

/-- ITS FALSE NEIGHBOUR: 'it returns false'. Refute it at one input. -/
def recordStoresWrong : ChangeSpec := { name := "recordStores", fn := fun _ => fun
  | [d1, d2] => { results := [.lit (.bool false)], args := [d1, d2] }
  | _ => none }
def RecordStoresWrongFalsely : Prop := recordStoresRow.holds Try.pinned (OpenSpec.ofChange recordStoresWrong)

/-- 'hedgerowlaw15.RecordKeys': WHATEVER THE INPUT: true; the input reads as it did. -/
def recordKeysSpec : ChangeSpec := { name := "recordKeys", fn := fun _ => fun
  | [d1, d2, d3, d4] => { results := [.lit (.bool true)], args := [d1, d2, d3, d4] }
  | _ => none }
def recordKeysRow : OpenClaim := { program := "ytncmflmjlocgiaa", sum := "53bc123e8116db7ba3b4cd8349bc99b123408a547fc6451480fd254cf450e4b2", func := "hedgerow/hedgerowlaw15.RecordKeys", spec := "recordKeys", inPlace := ["internal/bytealg.IndexByteString", "internal/bytealg.IndexString"], unfollowed := true, recurses := true, named := ["internal/bytealg.MaxLen"], apart := false }
def RecordKeysSaid : Prop := recordKeysRow.holds Try.pinned (OpenSpec.ofChange recordKeysSpec)

/-- ITS FALSE NEIGHBOUR: 'it returns false'. Refute it at one input. -/
def recordKeysWrong : ChangeSpec := { name := "recordKeys", fn := fun _ => fun
  | [d1, d2, d3, d4] => { results := [.lit (.bool false)], args := [d1, d2, d3, d4] }
  | _ => none }
def RecordKeysWrongFalsely : Prop := recordKeysRow.holds Try.pinned (OpenSpec.ofChange recordKeysWrong)

/-- 'hedgerowlaw15.RecordOrders': WHATEVER THE INPUT: true; the input reads as it did. -/
def recordOrdersSpec : ChangeSpec := { name := "recordOrders", fn := fun _ => fun
  | [d1, d2, d3, d4, d5, d6] => { results := [.lit (.bool true)], args := [d1, d2, d3, d4, d5, d6] }
  | _ => none }
def recordOrdersRow : OpenClaim := { program := "ytncmflmjlocgiaa", sum := "53bc123e8116db7ba3b4cd8349bc99b123408a547fc6451480fd254cf450e4b2", func := "hedgerow/hedgerowlaw15.RecordOrders", spec := "recordOrders", inPlace := ["internal/bytealg.IndexByteString", "internal/bytealg.IndexString"], unfollowed := true, recurses := true, named := ["internal/bytealg.MaxLen"], apart := false }
def RecordOrdersSaid : Prop := recordOrdersRow.holds Try.pinned (OpenSpec.ofChange recordOrdersSpec)

/-- ITS FALSE NEIGHBOUR: 'it returns false'. Refute it at one input. -/
def recordOrdersWrong : ChangeSpec := { name := "recordOrders", fn := fun _ => fun
  | [d1, d2, d3, d4, d5, d6] => { results := [.lit (.bool false)], args := [d1, d2, d3, d4, d5, d6] }
  | _ => none }
def RecordOrdersWrongFalsely : Prop := recordOrdersRow.holds Try.pinned (OpenSpec.ofChange recordOrdersWrong)

/-- 'hedgerowlaw14.InodeReads': WHATEVER THE INPUT: true; the input reads as it did. -/
def inodeReadsSpec : ChangeSpec := { name := "inodeReads", fn := fun _ => fun
  | [d] => { results := [.lit (.bool true)], args := [d] }
  | _ => none }
def inodeReadsRow : OpenClaim := { program := "ytncmflmjlocgiaa", sum := "53bc123e8116db7ba3b4cd8349bc99b123408a547fc6451480fd254cf450e4b2", func := "hedgerow/hedgerowlaw14.InodeReads", spec := "inodeReads", inPlace := ["internal/bytealg.IndexByteString", "internal/bytealg.IndexString"], unfollowed := true, recurses := true, named := ["internal/bytealg.MaxLen"], apart := false }
def InodeReadsSaid : Prop := inodeReadsRow.holds Try.pinned (OpenSpec.ofChange inodeReadsSpec)

/-- ITS FALSE NEIGHBOUR: 'it returns false'. Refute it at one input. -/
def inodeReadsWrong : ChangeSpec := { name := "inodeReads", fn := fun _ => fun
  | [d] => { results := [.lit (.bool false)], args := [d] }
  | _ => none }
def InodeReadsWrongFalsely : Prop := inodeReadsRow.holds Try.pinned (OpenSpec.ofChange inodeReadsWrong)

/-- 'hedgerowlaw14.InodeLinked': WHATEVER THE INPUT: true; the input reads as it did. -/
def inodeLinkedSpec : ChangeSpec := { name := "inodeLinked", fn := fun _ => fun
  | [d1, d2] => { results := [.lit (.bool true)], args := [d1, d2] }
  | _ => none }
def inodeLinkedRow : OpenClaim := { program := "ytncmflmjlocgiaa", sum := "53bc123e8116db7ba3b4cd8349bc99b123408a547fc6451480fd254cf450e4b2", func := "hedgerow/hedgerowlaw14.InodeLinked", spec := "inodeLinked", inPlace := ["internal/bytealg.IndexByteString", "internal/bytealg.IndexString"], unfollowed := true, recurses := true, named := ["internal/bytealg.MaxLen"], apart := false }
def InodeLinkedSaid : Prop := inodeLinkedRow.holds Try.pinned (OpenSpec.ofChange inodeLinkedSpec)

/-- ITS FALSE NEIGHBOUR: 'it returns false'. Refute it at one input. -/
def inodeLinkedWrong : ChangeSpec := { name := "inodeLinked", fn := fun _ => fun
  | [d1, d2] => { results := [.lit (.bool false)], args := [d1, d2] }
  | _ => none }
def InodeLinkedWrongFalsely : Prop := inodeLinkedRow.holds Try.pinned (OpenSpec.ofChange inodeLinkedWrong)

/-- 'hedgerowlaw14.InodeSame': WHATEVER THE INPUT: true; the input reads as it did. -/
def inodeSameSpec : ChangeSpec := { name := "inodeSame", fn := fun _ => fun
  | [d1, d2] => { results := [.lit (.bool true)], args := [d1, d2] }
  | _ => none }
def inodeSameRow : OpenClaim := { program := "ytncmflmjlocgiaa", sum := "53bc123e8116db7ba3b4cd8349bc99b123408a547fc6451480fd254cf450e4b2", func := "hedgerow/hedgerowlaw14.InodeSame", spec := "inodeSame", inPlace := ["internal/bytealg.IndexByteString", "internal/bytealg.IndexString"], unfollowed := true, recurses := true, named := ["internal/bytealg.MaxLen"], apart := false }
def InodeSameSaid : Prop := inodeSameRow.holds Try.pinned (OpenSpec.ofChange inodeSameSpec)

/-- ITS FALSE NEIGHBOUR: 'it returns false'. Refute it at one input. -/
def inodeSameWrong : ChangeSpec := { name := "inodeSame", fn := fun _ => fun
  | [d1, d2] => { results := [.lit (.bool false)], args := [d1, d2] }
  | _ => none }
def InodeSameWrongFalsely : Prop := inodeSameRow.holds Try.pinned (OpenSpec.ofChange inodeSameWrong)

/-- 'hedgerowlaw14.InodeWords': WHATEVER THE INPUT: true; the input reads as it did. -/
def inodeWordsSpec : ChangeSpec := { name := "inodeWords", fn := fun _ => fun
  | [d] => { results := [.lit (.bool true)], args := [d] }
  | _ => none }
def inodeWordsRow : OpenClaim := { program := "ytncmflmjlocgiaa", sum := "53bc123e8116db7ba3b4cd8349bc99b123408a547fc6451480fd254cf450e4b2", func := "hedgerow/hedgerowlaw14.InodeWords", spec := "inodeWords", inPlace := ["internal/bytealg.IndexByteString", "internal/bytealg.IndexString"], unfollowed := true, recurses := true, named := ["internal/bytealg.MaxLen"], apart := false }
def InodeWordsSaid : Prop := inodeWordsRow.holds Try.pinned (OpenSpec.ofChange inodeWordsSpec)

/-- ITS FALSE NEIGHBOUR: 'it returns false'. Refute it at one input. -/
def inodeWordsWrong : ChangeSpec := { name := "inodeWords", fn := fun _ => fun
  | [d] => { results := [.lit (.bool false)], args := [d] }
  | _ => none }
def InodeWordsWrongFalsely : Prop := inodeWordsRow.holds Try.pinned (OpenSpec.ofChange inodeWordsWrong)

/-- 'hedgerowlaw14.InodeStores': WHATEVER THE INPUT: true; the input reads as it did. -/
def inodeStoresSpec : ChangeSpec := { name := "inodeStores", fn := fun _ => fun
  | [d1, d2, d3] => { results := [.lit (.bool true)], args := [d1, d2, d3] }
  | _ => none }
def inodeStoresRow : OpenClaim := { program := "ytncmflmjlocgiaa", sum := "53bc123e8116db7ba3b4cd8349bc99b123408a547fc6451480fd254cf450e4b2", func := "hedgerow/hedgerowlaw14.InodeStores", spec := "inodeStores", inPlace := ["internal/bytealg.IndexByteString", "internal/bytealg.IndexString"], unfollowed := true, recurses := true, named := ["internal/bytealg.MaxLen"], apart := false }
def InodeStoresSaid : Prop := inodeStoresRow.holds Try.pinned (OpenSpec.ofChange inodeStoresSpec)

/-- ITS FALSE NEIGHBOUR: 'it returns false'. Refute it at one input. -/
def inodeStoresWrong : ChangeSpec := { name := "inodeStores", fn := fun _ => fun
  | [d1, d2, d3] => { results := [.lit (.bool false)], args := [d1, d2, d3] }
  | _ => none }
def InodeStoresWrongFalsely : Prop := inodeStoresRow.holds Try.pinned (OpenSpec.ofChange inodeStoresWrong)

/-- 'hedgerowlaw14.InodeHolds': WHATEVER THE INPUT: true; the input reads as it did. -/
def inodeHoldsSpec : ChangeSpec := { name := "inodeHolds", fn := fun _ => fun
  | [d1, d2, d3] => { results := [.lit (.bool true)], args := [d1, d2, d3] }
  | _ => none }
def inodeHoldsRow : OpenClaim := { program := "ytncmflmjlocgiaa", sum := "53bc123e8116db7ba3b4cd8349bc99b123408a547fc6451480fd254cf450e4b2", func := "hedgerow/hedgerowlaw14.InodeHolds", spec := "inodeHolds", inPlace := ["internal/bytealg.IndexByteString", "internal/bytealg.IndexString"], unfollowed := true, recurses := true, named := ["internal/bytealg.MaxLen"], apart := false }
def InodeHoldsSaid : Prop := inodeHoldsRow.holds Try.pinned (OpenSpec.ofChange inodeHoldsSpec)

/-- ITS FALSE NEIGHBOUR: 'it returns false'. Refute it at one input. -/
def inodeHoldsWrong : ChangeSpec := { name := "inodeHolds", fn := fun _ => fun
  | [d1, d2, d3] => { results := [.lit (.bool false)], args := [d1, d2, d3] }
  | _ => none }
def InodeHoldsWrongFalsely : Prop := inodeHoldsRow.holds Try.pinned (OpenSpec.ofChange inodeHoldsWrong)

/- THE SECOND FORM. 'bulk': how many values and letters a reading holds, each counted each time it is reached (what is shared counts as often as it is met; a slice's spare places count too). A statement '..UptoSaid' is the law's where the arguments, and the package variables that the reading takes, are together of bulk at most 1048576: NARROWER than '..Said'. Prove '..Said' where nothing that the law and all that it calls make is longer than what came in: it says more and counts as full. Else prove '..UptoSaid'. A law counts once. -/
mutual
def uptoBulk {H : Type} : DataW H → Nat
  | .lit (.string bytes) => bytes.length + 1
  | .lit _ => 1
  | .nil => 1
  | .ptr d => uptoBulk d + 1
  | .slice elems spare => uptoBulkAll elems + uptoBulkAll spare + 1
  | .agg parts => uptoBulkAll parts + 1
  | .iface _ d => uptoBulk d + 1
  | .map entries => uptoBulkEntries entries + 1
  | .held _ => 1
def uptoBulkAll {H : Type} : List (DataW H) → Nat
  | [] => 0
  | d :: r => uptoBulk d + uptoBulkAll r
def uptoBulkEntries {H : Type} : List (Lit × DataW H) → Nat
  | [] => 0
  | x :: r => uptoBulkEntry x + uptoBulkEntries r
def uptoBulkEntry {H : Type} : Lit × DataW H → Nat
  | (.string bytes, d) => bytes.length + uptoBulk d + 1
  | (_, d) => uptoBulk d + 1
 end
def uptoSmall : (H : Type) → List (DataW H) → Bool := fun _ ds => decide (uptoBulkAll ds ≤ 1048576)
def OpenSpec.upto (s : _root_.Go.ChangeSpec) : _root_.Go.OpenSpec := { _root_.Go.OpenSpec.ofChange s with cond := some uptoSmall }

/-- 'hedgerowlaw15.RecordWords', WHERE WHAT IT READS IS OF BULK AT MOST 1048576: true; the input reads as it did. -/
def recordWordsUptoRow : OpenClaim := { program := "ytncmflmjlocgiaa", sum := "53bc123e8116db7ba3b4cd8349bc99b123408a547fc6451480fd254cf450e4b2", func := "hedgerow/hedgerowlaw15.RecordWords", spec := "recordWords", inPlace := ["internal/bytealg.IndexByteString", "internal/bytealg.IndexString"], unfollowed := true, recurses := true, named := ["internal/bytealg.MaxLen"], apart := false, narrowed := true }
def RecordWordsUptoSaid : Prop := recordWordsUptoRow.holds Try.pinned (OpenSpec.upto recordWordsSpec)

/-- 'hedgerowlaw15.RecordReads', WHERE WHAT IT READS IS OF BULK AT MOST 1048576: true; the input reads as it did. -/
def recordReadsUptoRow : OpenClaim := { program := "ytncmflmjlocgiaa", sum := "53bc123e8116db7ba3b4cd8349bc99b123408a547fc6451480fd254cf450e4b2", func := "hedgerow/hedgerowlaw15.RecordReads", spec := "recordReads", inPlace := ["internal/bytealg.IndexByteString", "internal/bytealg.IndexString"], unfollowed := true, recurses := true, named := ["internal/bytealg.MaxLen"], apart := false, narrowed := true }
def RecordReadsUptoSaid : Prop := recordReadsUptoRow.holds Try.pinned (OpenSpec.upto recordReadsSpec)

/-- 'hedgerowlaw15.RecordStores', WHERE WHAT IT READS IS OF BULK AT MOST 1048576: true; the input reads as it did. -/
def recordStoresUptoRow : OpenClaim := { program := "ytncmflmjlocgiaa", sum := "53bc123e8116db7ba3b4cd8349bc99b123408a547fc6451480fd254cf450e4b2", func := "hedgerow/hedgerowlaw15.RecordStores", spec := "recordStores", inPlace := ["internal/bytealg.IndexByteString", "internal/bytealg.IndexString"], unfollowed := true, recurses := true, named := ["internal/bytealg.MaxLen"], apart := false, narrowed := true }
def RecordStoresUptoSaid : Prop := recordStoresUptoRow.holds Try.pinned (OpenSpec.upto recordStoresSpec)

/-- 'hedgerowlaw15.RecordKeys', WHERE WHAT IT READS IS OF BULK AT MOST 1048576: true; the input reads as it did. -/
def recordKeysUptoRow : OpenClaim := { program := "ytncmflmjlocgiaa", sum := "53bc123e8116db7ba3b4cd8349bc99b123408a547fc6451480fd254cf450e4b2", func := "hedgerow/hedgerowlaw15.RecordKeys", spec := "recordKeys", inPlace := ["internal/bytealg.IndexByteString", "internal/bytealg.IndexString"], unfollowed := true, recurses := true, named := ["internal/bytealg.MaxLen"], apart := false, narrowed := true }
def RecordKeysUptoSaid : Prop := recordKeysUptoRow.holds Try.pinned (OpenSpec.upto recordKeysSpec)

/-- 'hedgerowlaw15.RecordOrders', WHERE WHAT IT READS IS OF BULK AT MOST 1048576: true; the input reads as it did. -/
def recordOrdersUptoRow : OpenClaim := { program := "ytncmflmjlocgiaa", sum := "53bc123e8116db7ba3b4cd8349bc99b123408a547fc6451480fd254cf450e4b2", func := "hedgerow/hedgerowlaw15.RecordOrders", spec := "recordOrders", inPlace := ["internal/bytealg.IndexByteString", "internal/bytealg.IndexString"], unfollowed := true, recurses := true, named := ["internal/bytealg.MaxLen"], apart := false, narrowed := true }
def RecordOrdersUptoSaid : Prop := recordOrdersUptoRow.holds Try.pinned (OpenSpec.upto recordOrdersSpec)

/-- 'hedgerowlaw14.InodeReads', WHERE WHAT IT READS IS OF BULK AT MOST 1048576: true; the input reads as it did. -/
def inodeReadsUptoRow : OpenClaim := { program := "ytncmflmjlocgiaa", sum := "53bc123e8116db7ba3b4cd8349bc99b123408a547fc6451480fd254cf450e4b2", func := "hedgerow/hedgerowlaw14.InodeReads", spec := "inodeReads", inPlace := ["internal/bytealg.IndexByteString", "internal/bytealg.IndexString"], unfollowed := true, recurses := true, named := ["internal/bytealg.MaxLen"], apart := false, narrowed := true }
def InodeReadsUptoSaid : Prop := inodeReadsUptoRow.holds Try.pinned (OpenSpec.upto inodeReadsSpec)

/-- 'hedgerowlaw14.InodeLinked', WHERE WHAT IT READS IS OF BULK AT MOST 1048576: true; the input reads as it did. -/
def inodeLinkedUptoRow : OpenClaim := { program := "ytncmflmjlocgiaa", sum := "53bc123e8116db7ba3b4cd8349bc99b123408a547fc6451480fd254cf450e4b2", func := "hedgerow/hedgerowlaw14.InodeLinked", spec := "inodeLinked", inPlace := ["internal/bytealg.IndexByteString", "internal/bytealg.IndexString"], unfollowed := true, recurses := true, named := ["internal/bytealg.MaxLen"], apart := false, narrowed := true }
def InodeLinkedUptoSaid : Prop := inodeLinkedUptoRow.holds Try.pinned (OpenSpec.upto inodeLinkedSpec)

/-- 'hedgerowlaw14.InodeSame', WHERE WHAT IT READS IS OF BULK AT MOST 1048576: true; the input reads as it did. -/
def inodeSameUptoRow : OpenClaim := { program := "ytncmflmjlocgiaa", sum := "53bc123e8116db7ba3b4cd8349bc99b123408a547fc6451480fd254cf450e4b2", func := "hedgerow/hedgerowlaw14.InodeSame", spec := "inodeSame", inPlace := ["internal/bytealg.IndexByteString", "internal/bytealg.IndexString"], unfollowed := true, recurses := true, named := ["internal/bytealg.MaxLen"], apart := false, narrowed := true }
def InodeSameUptoSaid : Prop := inodeSameUptoRow.holds Try.pinned (OpenSpec.upto inodeSameSpec)

/-- 'hedgerowlaw14.InodeWords', WHERE WHAT IT READS IS OF BULK AT MOST 1048576: true; the input reads as it did. -/
def inodeWordsUptoRow : OpenClaim := { program := "ytncmflmjlocgiaa", sum := "53bc123e8116db7ba3b4cd8349bc99b123408a547fc6451480fd254cf450e4b2", func := "hedgerow/hedgerowlaw14.InodeWords", spec := "inodeWords", inPlace := ["internal/bytealg.IndexByteString", "internal/bytealg.IndexString"], unfollowed := true, recurses := true, named := ["internal/bytealg.MaxLen"], apart := false, narrowed := true }
def InodeWordsUptoSaid : Prop := inodeWordsUptoRow.holds Try.pinned (OpenSpec.upto inodeWordsSpec)

/-- 'hedgerowlaw14.InodeStores', WHERE WHAT IT READS IS OF BULK AT MOST 1048576: true; the input reads as it did. -/
def inodeStoresUptoRow : OpenClaim := { program := "ytncmflmjlocgiaa", sum := "53bc123e8116db7ba3b4cd8349bc99b123408a547fc6451480fd254cf450e4b2", func := "hedgerow/hedgerowlaw14.InodeStores", spec := "inodeStores", inPlace := ["internal/bytealg.IndexByteString", "internal/bytealg.IndexString"], unfollowed := true, recurses := true, named := ["internal/bytealg.MaxLen"], apart := false, narrowed := true }
def InodeStoresUptoSaid : Prop := inodeStoresUptoRow.holds Try.pinned (OpenSpec.upto inodeStoresSpec)

/-- 'hedgerowlaw14.InodeHolds', WHERE WHAT IT READS IS OF BULK AT MOST 1048576: true; the input reads as it did. -/
def inodeHoldsUptoRow : OpenClaim := { program := "ytncmflmjlocgiaa", sum := "53bc123e8116db7ba3b4cd8349bc99b123408a547fc6451480fd254cf450e4b2", func := "hedgerow/hedgerowlaw14.InodeHolds", spec := "inodeHolds", inPlace := ["internal/bytealg.IndexByteString", "internal/bytealg.IndexString"], unfollowed := true, recurses := true, named := ["internal/bytealg.MaxLen"], apart := false, narrowed := true }
def InodeHoldsUptoSaid : Prop := inodeHoldsUptoRow.holds Try.pinned (OpenSpec.upto inodeHoldsSpec)

end Rows
end Go.Proofs.Ytncmflmjlocgiaa
