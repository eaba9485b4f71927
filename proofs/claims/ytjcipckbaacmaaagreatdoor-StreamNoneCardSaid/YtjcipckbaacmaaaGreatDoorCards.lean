/-
  DERIVED. GIVEN WITH THE SEED: THE CARDS: each row of YtjcipckbaacmaaaGreatDoorRows.lean that lists a variable, with what it lists TIED to the program's text (the seventh form; the later family's looks); each row that meets fmt, with fmt's text TOLD by the authors' own Lean function (tested against real Go, not proved from fmt's source: count such statements apart). THE CARD IS WHAT COUNTS. Prove the row's statement (the work); the ties are given (YtjcipckbaacmaaaGreatDoorTie.lean); close each card by the builder's one call (the guide's Derived/Test/ToyasCard.lean, 'card_holds'). Laid BY PROGRAM, IN A SANDBOX (cutbox-door.mjs). By AI agents, Wed Nov 11 2026. No macro, syntax, notation, axiom, sorry.
-/
import Derived.Test.YtjcipckbaacmaaaGreatDoorRows
import GoSem.ClaimSeven
namespace Go.Proofs.YtjcipckbaacmaaaGreatDoor
namespace Rows

/-- THE TIED CARD OF 'hedgerowlaw28.StreamNone'. -/
def streamNoneCard : Claim7 := { stood := { row := streamNoneRow, standIns := [], harness := (true, "f54e9fb9a29bf5defefd732b8f5936df73e2b156894d3fb50fe47b4ab6f73b48"), looks := true }, kinds := [], alts := [], laidByText := true, laidKinds := [.data, .pinned], laidTests := true, laidLooks := .later }
def StreamNoneCardSaid : Prop := Claim7.holds Tryz.pinned (.plain (OpenSpec.ofChange streamNoneSpec)) streamNoneCard

/-- THE SECOND FORM's CARD OF 'hedgerowlaw28.StreamNone'. -/
def streamNoneUptoCard : Claim7 := { stood := { row := streamNoneUptoRow, standIns := [], harness := (true, "f54e9fb9a29bf5defefd732b8f5936df73e2b156894d3fb50fe47b4ab6f73b48"), looks := true }, kinds := [], alts := [], laidByText := true, laidKinds := [.data, .pinned], laidTests := true, laidLooks := .later }
def StreamNoneUptoCardSaid : Prop := Claim7.holds Tryz.pinned (.plain (OpenSpec.upto streamNoneSpec)) streamNoneUptoCard
end Rows
end Go.Proofs.YtjcipckbaacmaaaGreatDoor
