/-
  DERIVED. GIVEN WITH THE SEED: THE CARDS: each row of YtephfpdnhdpmkaaGreatDoorRows.lean that lists a variable, with what it lists TIED to the program's text (the seventh form; the later family's looks); each row that meets fmt, with fmt's text TOLD by the authors' own Lean function (tested against real Go, not proved from fmt's source: count such statements apart). THE CARD IS WHAT COUNTS. Prove the row's statement (the work); the ties are given (YtephfpdnhdpmkaaGreatDoorTie.lean); close each card by the builder's one call (the guide's Derived/Test/ToyasCard.lean, 'card_holds'). Laid BY PROGRAM, IN A SANDBOX (cutbox-door.mjs). By AI agents, Wed Nov 11 2026. No macro, syntax, notation, axiom, sorry.
-/
import Derived.Test.YtephfpdnhdpmkaaGreatDoorRows
import GoSem.ClaimSeven
namespace Go.Proofs.YtephfpdnhdpmkaaGreatDoor
namespace Rows

/-- THE TIED CARD OF 'hedgerowlaw20.SpaceRuns'. -/
def spaceRunsCard : Claim7 := { stood := { row := spaceRunsRow, standIns := [], harness := (true, "4a33f96d83a9c89448d65ea3f2023f1ab424ebfa4651b2b7ff07d10f28f54df8"), looks := true }, kinds := [], alts := [], laidByText := true, laidKinds := [.data], laidTests := true, laidLooks := .later }
def SpaceRunsCardSaid : Prop := Claim7.holds Tryz.pinned (.plain (OpenSpec.ofChange spaceRunsSpec)) spaceRunsCard

/-- THE TIED CARD OF 'hedgerowlaw20.SpacePicks'. -/
def spacePicksCard : Claim7 := { stood := { row := spacePicksRow, standIns := [], harness := (true, "4a33f96d83a9c89448d65ea3f2023f1ab424ebfa4651b2b7ff07d10f28f54df8"), looks := true }, kinds := [], alts := [], laidByText := true, laidKinds := [.data], laidTests := true, laidLooks := .later }
def SpacePicksCardSaid : Prop := Claim7.holds Tryz.pinned (.plain (OpenSpec.ofChange spacePicksSpec)) spacePicksCard

/-- THE TIED CARD OF 'hedgerowlaw20.SpaceHolds'. -/
def spaceHoldsCard : Claim7 := { stood := { row := spaceHoldsRow, standIns := [], harness := (true, "4a33f96d83a9c89448d65ea3f2023f1ab424ebfa4651b2b7ff07d10f28f54df8"), looks := true }, kinds := [], alts := [], laidByText := true, laidKinds := [.data], laidTests := true, laidLooks := .later }
def SpaceHoldsCardSaid : Prop := Claim7.holds Tryz.pinned (.plain (OpenSpec.ofChange spaceHoldsSpec)) spaceHoldsCard

/-- THE TIED CARD OF 'hedgerowlaw20.SpaceMaps'. -/
def spaceMapsCard : Claim7 := { stood := { row := spaceMapsRow, standIns := [], harness := (true, "4a33f96d83a9c89448d65ea3f2023f1ab424ebfa4651b2b7ff07d10f28f54df8"), looks := true }, kinds := [], alts := [], laidByText := true, laidKinds := [.data], laidTests := true, laidLooks := .later }
def SpaceMapsCardSaid : Prop := Claim7.holds Tryz.pinned (.plain (OpenSpec.ofChange spaceMapsSpec)) spaceMapsCard

/-- THE TIED CARD OF 'hedgerowlaw20.SpaceFrees'. -/
def spaceFreesCard : Claim7 := { stood := { row := spaceFreesRow, standIns := [], harness := (true, "4a33f96d83a9c89448d65ea3f2023f1ab424ebfa4651b2b7ff07d10f28f54df8"), looks := true }, kinds := [], alts := [], laidByText := true, laidKinds := [.data], laidTests := true, laidLooks := .later }
def SpaceFreesCardSaid : Prop := Claim7.holds Tryz.pinned (.plain (OpenSpec.ofChange spaceFreesSpec)) spaceFreesCard

/-- THE SECOND FORM's CARD OF 'hedgerowlaw20.SpaceRuns'. -/
def spaceRunsUptoCard : Claim7 := { stood := { row := spaceRunsUptoRow, standIns := [], harness := (true, "4a33f96d83a9c89448d65ea3f2023f1ab424ebfa4651b2b7ff07d10f28f54df8"), looks := true }, kinds := [], alts := [], laidByText := true, laidKinds := [.data], laidTests := true, laidLooks := .later }
def SpaceRunsUptoCardSaid : Prop := Claim7.holds Tryz.pinned (.plain (OpenSpec.upto spaceRunsSpec)) spaceRunsUptoCard

/-- THE SECOND FORM's CARD OF 'hedgerowlaw20.SpacePicks'. -/
def spacePicksUptoCard : Claim7 := { stood := { row := spacePicksUptoRow, standIns := [], harness := (true, "4a33f96d83a9c89448d65ea3f2023f1ab424ebfa4651b2b7ff07d10f28f54df8"), looks := true }, kinds := [], alts := [], laidByText := true, laidKinds := [.data], laidTests := true, laidLooks := .later }
def SpacePicksUptoCardSaid : Prop := Claim7.holds Tryz.pinned (.plain (OpenSpec.upto spacePicksSpec)) spacePicksUptoCard

/-- THE SECOND FORM's CARD OF 'hedgerowlaw20.SpaceHolds'. -/
def spaceHoldsUptoCard : Claim7 := { stood := { row := spaceHoldsUptoRow, standIns := [], harness := (true, "4a33f96d83a9c89448d65ea3f2023f1ab424ebfa4651b2b7ff07d10f28f54df8"), looks := true }, kinds := [], alts := [], laidByText := true, laidKinds := [.data], laidTests := true, laidLooks := .later }
def SpaceHoldsUptoCardSaid : Prop := Claim7.holds Tryz.pinned (.plain (OpenSpec.upto spaceHoldsSpec)) spaceHoldsUptoCard

/-- THE SECOND FORM's CARD OF 'hedgerowlaw20.SpaceMaps'. -/
def spaceMapsUptoCard : Claim7 := { stood := { row := spaceMapsUptoRow, standIns := [], harness := (true, "4a33f96d83a9c89448d65ea3f2023f1ab424ebfa4651b2b7ff07d10f28f54df8"), looks := true }, kinds := [], alts := [], laidByText := true, laidKinds := [.data], laidTests := true, laidLooks := .later }
def SpaceMapsUptoCardSaid : Prop := Claim7.holds Tryz.pinned (.plain (OpenSpec.upto spaceMapsSpec)) spaceMapsUptoCard

/-- THE SECOND FORM's CARD OF 'hedgerowlaw20.SpaceFrees'. -/
def spaceFreesUptoCard : Claim7 := { stood := { row := spaceFreesUptoRow, standIns := [], harness := (true, "4a33f96d83a9c89448d65ea3f2023f1ab424ebfa4651b2b7ff07d10f28f54df8"), looks := true }, kinds := [], alts := [], laidByText := true, laidKinds := [.data], laidTests := true, laidLooks := .later }
def SpaceFreesUptoCardSaid : Prop := Claim7.holds Tryz.pinned (.plain (OpenSpec.upto spaceFreesSpec)) spaceFreesUptoCard
end Rows
end Go.Proofs.YtephfpdnhdpmkaaGreatDoor
