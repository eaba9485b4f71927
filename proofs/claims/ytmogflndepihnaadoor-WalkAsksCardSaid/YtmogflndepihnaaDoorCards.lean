/-
  DERIVED. GIVEN WITH THE SEED: THE CARDS: each row of YtmogflndepihnaaDoorRows.lean that lists a variable, with what it lists TIED to the program's text (the seventh form; the later family's looks); each row that meets fmt, with fmt's text TOLD by the authors' own Lean function (tested against real Go, not proved from fmt's source: count such statements apart). THE CARD IS WHAT COUNTS. Prove the row's statement (the work); the ties are given (YtmogflndepihnaaDoorTie.lean); close each card by the builder's one call (the guide's Derived/Test/ToyasCard.lean, 'card_holds'). Laid BY PROGRAM, IN A SANDBOX (cutbox-door.mjs). By AI agents, Wed Nov 11 2026. No macro, syntax, notation, axiom, sorry.
-/
import Derived.Test.YtmogflndepihnaaDoorRows
import GoSem.ClaimSeven
namespace Go.Proofs.YtmogflndepihnaaDoor
namespace Rows

/-- THE TIED CARD OF 'hedgerowlaw04.NamesChecks'. -/
def namesChecksCard : Claim7 := { stood := { row := namesChecksRow, standIns := [], harness := (true, "ac9098d8dbd884e031bf5edcac48803b95ba0d50fc4b061dcc41829dc88f15f3"), looks := false }, kinds := [], alts := [], laidByText := true, laidKinds := [.data, .pinned], laidTests := true, laidLooks := .later }
def NamesChecksCardSaid : Prop := Claim7.holds Tryd.pinned (.plain (OpenSpec.ofChange namesChecksSpec)) namesChecksCard

/-- THE TIED CARD OF 'hedgerowlaw04.NamesParts'. -/
def namesPartsCard : Claim7 := { stood := { row := namesPartsRow, standIns := [], harness := (true, "ac9098d8dbd884e031bf5edcac48803b95ba0d50fc4b061dcc41829dc88f15f3"), looks := false }, kinds := [], alts := [], laidByText := true, laidKinds := [.data, .pinned], laidTests := true, laidLooks := .later }
def NamesPartsCardSaid : Prop := Claim7.holds Tryd.pinned (.plain (OpenSpec.ofChange namesPartsSpec)) namesPartsCard

/-- THE TIED CARD OF 'hedgerowlaw04.NamesJoins'. -/
def namesJoinsCard : Claim7 := { stood := { row := namesJoinsRow, standIns := [], harness := (true, "ac9098d8dbd884e031bf5edcac48803b95ba0d50fc4b061dcc41829dc88f15f3"), looks := false }, kinds := [], alts := [], laidByText := true, laidKinds := [.data, .pinned], laidTests := true, laidLooks := .later }
def NamesJoinsCardSaid : Prop := Claim7.holds Tryd.pinned (.plain (OpenSpec.ofChange namesJoinsSpec)) namesJoinsCard

/-- THE TIED CARD OF 'hedgerowlaw04.NamesShorts'. -/
def namesShortsCard : Claim7 := { stood := { row := namesShortsRow, standIns := [], harness := (true, "ac9098d8dbd884e031bf5edcac48803b95ba0d50fc4b061dcc41829dc88f15f3"), looks := false }, kinds := [], alts := [], laidByText := true, laidKinds := [.data, .pinned], laidTests := true, laidLooks := .later }
def NamesShortsCardSaid : Prop := Claim7.holds Tryd.pinned (.plain (OpenSpec.ofChange namesShortsSpec)) namesShortsCard

/-- THE TIED CARD OF 'hedgerowlaw04.NamesUnder'. -/
def namesUnderCard : Claim7 := { stood := { row := namesUnderRow, standIns := [], harness := (true, "ac9098d8dbd884e031bf5edcac48803b95ba0d50fc4b061dcc41829dc88f15f3"), looks := false }, kinds := [], alts := [], laidByText := true, laidKinds := [.data, .pinned], laidTests := true, laidLooks := .later }
def NamesUnderCardSaid : Prop := Claim7.holds Tryd.pinned (.plain (OpenSpec.ofChange namesUnderSpec)) namesUnderCard

/-- THE TIED CARD OF 'hedgerowlaw04.NamesHolds'. -/
def namesHoldsCard : Claim7 := { stood := { row := namesHoldsRow, standIns := [], harness := (true, "ac9098d8dbd884e031bf5edcac48803b95ba0d50fc4b061dcc41829dc88f15f3"), looks := false }, kinds := [], alts := [], laidByText := true, laidKinds := [.data, .pinned], laidTests := true, laidLooks := .later }
def NamesHoldsCardSaid : Prop := Claim7.holds Tryd.pinned (.plain (OpenSpec.ofChange namesHoldsSpec)) namesHoldsCard

/-- THE TIED CARD OF 'hedgerowlaw17.WalkEnds'. -/
def walkEndsCard : Claim7 := { stood := { row := walkEndsRow, standIns := [], harness := (true, "ac9098d8dbd884e031bf5edcac48803b95ba0d50fc4b061dcc41829dc88f15f3"), looks := false }, kinds := [], alts := [], laidByText := true, laidKinds := [.data, .pinned], laidTests := true, laidLooks := .later }
def WalkEndsCardSaid : Prop := Claim7.holds Tryd.pinned (.plain (OpenSpec.ofChange walkEndsSpec)) walkEndsCard

/-- THE TIED CARD OF 'hedgerowlaw17.WalkHolds'. -/
def walkHoldsCard : Claim7 := { stood := { row := walkHoldsRow, standIns := [], harness := (true, "ac9098d8dbd884e031bf5edcac48803b95ba0d50fc4b061dcc41829dc88f15f3"), looks := false }, kinds := [], alts := [], laidByText := true, laidKinds := [.data, .pinned], laidTests := true, laidLooks := .later }
def WalkHoldsCardSaid : Prop := Claim7.holds Tryd.pinned (.plain (OpenSpec.ofChange walkHoldsSpec)) walkHoldsCard

/-- THE TIED CARD OF 'hedgerowlaw17.WalkGoes'. -/
def walkGoesCard : Claim7 := { stood := { row := walkGoesRow, standIns := [], harness := (true, "ac9098d8dbd884e031bf5edcac48803b95ba0d50fc4b061dcc41829dc88f15f3"), looks := false }, kinds := [], alts := [], laidByText := true, laidKinds := [.data, .pinned], laidTests := true, laidLooks := .later }
def WalkGoesCardSaid : Prop := Claim7.holds Tryd.pinned (.plain (OpenSpec.ofChange walkGoesSpec)) walkGoesCard

/-- THE TIED CARD OF 'hedgerowlaw17.WalkAsks'. -/
def walkAsksCard : Claim7 := { stood := { row := walkAsksRow, standIns := [], harness := (true, "ac9098d8dbd884e031bf5edcac48803b95ba0d50fc4b061dcc41829dc88f15f3"), looks := false }, kinds := [], alts := [], laidByText := true, laidKinds := [.data, .pinned], laidTests := true, laidLooks := .later }
def WalkAsksCardSaid : Prop := Claim7.holds Tryd.pinned (.plain (OpenSpec.ofChange walkAsksSpec)) walkAsksCard

/-- THE TIED CARD OF 'hedgerowlaw17.WalkNone'. -/
def walkNoneCard : Claim7 := { stood := { row := walkNoneRow, standIns := [], harness := (true, "ac9098d8dbd884e031bf5edcac48803b95ba0d50fc4b061dcc41829dc88f15f3"), looks := false }, kinds := [], alts := [], laidByText := true, laidKinds := [.data, .pinned], laidTests := true, laidLooks := .later }
def WalkNoneCardSaid : Prop := Claim7.holds Tryd.pinned (.plain (OpenSpec.ofChange walkNoneSpec)) walkNoneCard

/-- THE SECOND FORM's CARD OF 'hedgerowlaw04.NamesChecks'. -/
def namesChecksUptoCard : Claim7 := { stood := { row := namesChecksUptoRow, standIns := [], harness := (true, "ac9098d8dbd884e031bf5edcac48803b95ba0d50fc4b061dcc41829dc88f15f3"), looks := false }, kinds := [], alts := [], laidByText := true, laidKinds := [.data, .pinned], laidTests := true, laidLooks := .later }
def NamesChecksUptoCardSaid : Prop := Claim7.holds Tryd.pinned (.plain (OpenSpec.upto namesChecksSpec)) namesChecksUptoCard

/-- THE SECOND FORM's CARD OF 'hedgerowlaw04.NamesParts'. -/
def namesPartsUptoCard : Claim7 := { stood := { row := namesPartsUptoRow, standIns := [], harness := (true, "ac9098d8dbd884e031bf5edcac48803b95ba0d50fc4b061dcc41829dc88f15f3"), looks := false }, kinds := [], alts := [], laidByText := true, laidKinds := [.data, .pinned], laidTests := true, laidLooks := .later }
def NamesPartsUptoCardSaid : Prop := Claim7.holds Tryd.pinned (.plain (OpenSpec.upto namesPartsSpec)) namesPartsUptoCard

/-- THE SECOND FORM's CARD OF 'hedgerowlaw04.NamesJoins'. -/
def namesJoinsUptoCard : Claim7 := { stood := { row := namesJoinsUptoRow, standIns := [], harness := (true, "ac9098d8dbd884e031bf5edcac48803b95ba0d50fc4b061dcc41829dc88f15f3"), looks := false }, kinds := [], alts := [], laidByText := true, laidKinds := [.data, .pinned], laidTests := true, laidLooks := .later }
def NamesJoinsUptoCardSaid : Prop := Claim7.holds Tryd.pinned (.plain (OpenSpec.upto namesJoinsSpec)) namesJoinsUptoCard

/-- THE SECOND FORM's CARD OF 'hedgerowlaw04.NamesShorts'. -/
def namesShortsUptoCard : Claim7 := { stood := { row := namesShortsUptoRow, standIns := [], harness := (true, "ac9098d8dbd884e031bf5edcac48803b95ba0d50fc4b061dcc41829dc88f15f3"), looks := false }, kinds := [], alts := [], laidByText := true, laidKinds := [.data, .pinned], laidTests := true, laidLooks := .later }
def NamesShortsUptoCardSaid : Prop := Claim7.holds Tryd.pinned (.plain (OpenSpec.upto namesShortsSpec)) namesShortsUptoCard

/-- THE SECOND FORM's CARD OF 'hedgerowlaw04.NamesUnder'. -/
def namesUnderUptoCard : Claim7 := { stood := { row := namesUnderUptoRow, standIns := [], harness := (true, "ac9098d8dbd884e031bf5edcac48803b95ba0d50fc4b061dcc41829dc88f15f3"), looks := false }, kinds := [], alts := [], laidByText := true, laidKinds := [.data, .pinned], laidTests := true, laidLooks := .later }
def NamesUnderUptoCardSaid : Prop := Claim7.holds Tryd.pinned (.plain (OpenSpec.upto namesUnderSpec)) namesUnderUptoCard

/-- THE SECOND FORM's CARD OF 'hedgerowlaw04.NamesHolds'. -/
def namesHoldsUptoCard : Claim7 := { stood := { row := namesHoldsUptoRow, standIns := [], harness := (true, "ac9098d8dbd884e031bf5edcac48803b95ba0d50fc4b061dcc41829dc88f15f3"), looks := false }, kinds := [], alts := [], laidByText := true, laidKinds := [.data, .pinned], laidTests := true, laidLooks := .later }
def NamesHoldsUptoCardSaid : Prop := Claim7.holds Tryd.pinned (.plain (OpenSpec.upto namesHoldsSpec)) namesHoldsUptoCard

/-- THE SECOND FORM's CARD OF 'hedgerowlaw17.WalkEnds'. -/
def walkEndsUptoCard : Claim7 := { stood := { row := walkEndsUptoRow, standIns := [], harness := (true, "ac9098d8dbd884e031bf5edcac48803b95ba0d50fc4b061dcc41829dc88f15f3"), looks := false }, kinds := [], alts := [], laidByText := true, laidKinds := [.data, .pinned], laidTests := true, laidLooks := .later }
def WalkEndsUptoCardSaid : Prop := Claim7.holds Tryd.pinned (.plain (OpenSpec.upto walkEndsSpec)) walkEndsUptoCard

/-- THE SECOND FORM's CARD OF 'hedgerowlaw17.WalkHolds'. -/
def walkHoldsUptoCard : Claim7 := { stood := { row := walkHoldsUptoRow, standIns := [], harness := (true, "ac9098d8dbd884e031bf5edcac48803b95ba0d50fc4b061dcc41829dc88f15f3"), looks := false }, kinds := [], alts := [], laidByText := true, laidKinds := [.data, .pinned], laidTests := true, laidLooks := .later }
def WalkHoldsUptoCardSaid : Prop := Claim7.holds Tryd.pinned (.plain (OpenSpec.upto walkHoldsSpec)) walkHoldsUptoCard

/-- THE SECOND FORM's CARD OF 'hedgerowlaw17.WalkGoes'. -/
def walkGoesUptoCard : Claim7 := { stood := { row := walkGoesUptoRow, standIns := [], harness := (true, "ac9098d8dbd884e031bf5edcac48803b95ba0d50fc4b061dcc41829dc88f15f3"), looks := false }, kinds := [], alts := [], laidByText := true, laidKinds := [.data, .pinned], laidTests := true, laidLooks := .later }
def WalkGoesUptoCardSaid : Prop := Claim7.holds Tryd.pinned (.plain (OpenSpec.upto walkGoesSpec)) walkGoesUptoCard

/-- THE SECOND FORM's CARD OF 'hedgerowlaw17.WalkAsks'. -/
def walkAsksUptoCard : Claim7 := { stood := { row := walkAsksUptoRow, standIns := [], harness := (true, "ac9098d8dbd884e031bf5edcac48803b95ba0d50fc4b061dcc41829dc88f15f3"), looks := false }, kinds := [], alts := [], laidByText := true, laidKinds := [.data, .pinned], laidTests := true, laidLooks := .later }
def WalkAsksUptoCardSaid : Prop := Claim7.holds Tryd.pinned (.plain (OpenSpec.upto walkAsksSpec)) walkAsksUptoCard

/-- THE SECOND FORM's CARD OF 'hedgerowlaw17.WalkNone'. -/
def walkNoneUptoCard : Claim7 := { stood := { row := walkNoneUptoRow, standIns := [], harness := (true, "ac9098d8dbd884e031bf5edcac48803b95ba0d50fc4b061dcc41829dc88f15f3"), looks := false }, kinds := [], alts := [], laidByText := true, laidKinds := [.data, .pinned], laidTests := true, laidLooks := .later }
def WalkNoneUptoCardSaid : Prop := Claim7.holds Tryd.pinned (.plain (OpenSpec.upto walkNoneSpec)) walkNoneUptoCard
end Rows
end Go.Proofs.YtmogflndepihnaaDoor
