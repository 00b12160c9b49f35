/-
  DERIVED. GIVEN WITH THE SEED: THE CARDS: each row of YteifbhmfjchfjaaGreatDoorRows.lean that lists a variable, with what it lists TIED to the program's text (the seventh form; the later family's looks); each row that meets fmt, with fmt's text TOLD by the authors' own Lean function (tested against real Go, not proved from fmt's source: count such statements apart). THE CARD IS WHAT COUNTS. Prove the row's statement (the work); the ties are given (YteifbhmfjchfjaaGreatDoorTie.lean); close each card by the builder's one call (the guide's Derived/Test/ToyasCard.lean, 'card_holds'). Laid BY PROGRAM, IN A SANDBOX (cutbox-door.mjs). By AI agents, Wed Nov 11 2026. No macro, syntax, notation, axiom, sorry.
-/
import Derived.Test.YteifbhmfjchfjaaGreatDoorRows
import GoSem.ClaimSeven
namespace Go.Proofs.YteifbhmfjchfjaaGreatDoor
namespace Rows

/-- THE TIED CARD OF 'dominolaw11.ParamsPrimes'. -/
def paramsPrimesCard : Claim7 := { stood := { row := paramsPrimesRow, standIns := [], harness := (true, "0f2ac1a9519ee9b72ab93166ac82ebaab652ccd008751c78698cddfde18703a6"), looks := false }, kinds := [], alts := [], laidByText := true, laidKinds := [.data, .data, .data], laidTests := true, laidLooks := .later }
def ParamsPrimesCardSaid : Prop := Claim7.holds Tryz.pinned (.plain (OpenSpec.ofChange paramsPrimesSpec)) paramsPrimesCard

/-- THE TIED CARD OF 'dominolaw11.ParamsGroups'. -/
def paramsGroupsCard : Claim7 := { stood := { row := paramsGroupsRow, standIns := [], harness := (true, "0f2ac1a9519ee9b72ab93166ac82ebaab652ccd008751c78698cddfde18703a6"), looks := false }, kinds := [], alts := [], laidByText := true, laidKinds := [.data, .data, .data], laidTests := true, laidLooks := .later }
def ParamsGroupsCardSaid : Prop := Claim7.holds Tryz.pinned (.plain (OpenSpec.ofChange paramsGroupsSpec)) paramsGroupsCard

/-- THE TIED CARD OF 'dominolaw10.RsagroupDraws'. -/
def rsagroupDrawsCard : Claim7 := { stood := { row := rsagroupDrawsRow, standIns := [], harness := (true, "0f2ac1a9519ee9b72ab93166ac82ebaab652ccd008751c78698cddfde18703a6"), looks := false }, kinds := [], alts := [], laidByText := true, laidKinds := [.data, .data, .data], laidTests := true, laidLooks := .later }
def RsagroupDrawsCardSaid : Prop := Claim7.holds Tryz.pinned (.plain (OpenSpec.ofChange rsagroupDrawsSpec)) rsagroupDrawsCard

/-- THE TIED CARD OF 'dominolaw35.AccumulatorHandles'. -/
def accumulatorHandlesCard : Claim7 := { stood := { row := accumulatorHandlesRow, standIns := [], harness := (true, "0f2ac1a9519ee9b72ab93166ac82ebaab652ccd008751c78698cddfde18703a6"), looks := false }, kinds := [], alts := [], laidByText := true, laidKinds := [.data, .data, .data], laidTests := true, laidLooks := .later }
def AccumulatorHandlesCardSaid : Prop := Claim7.holds Tryz.pinned (.plain (OpenSpec.ofChange accumulatorHandlesSpec)) accumulatorHandlesCard

/-- THE TIED CARD OF 'dominolaw19.ShamirEvals'. -/
def shamirEvalsCard : Claim7 := { stood := { row := shamirEvalsRow, standIns := [], harness := (true, "0f2ac1a9519ee9b72ab93166ac82ebaab652ccd008751c78698cddfde18703a6"), looks := false }, kinds := [], alts := [], laidByText := true, laidKinds := [.data, .data, .data], laidTests := true, laidLooks := .later }
def ShamirEvalsCardSaid : Prop := Claim7.holds Tryz.pinned (.plain (OpenSpec.ofChange shamirEvalsSpec)) shamirEvalsCard

/-- THE TIED CARD OF 'dominolaw19.ShamirSplits'. -/
def shamirSplitsCard : Claim7 := { stood := { row := shamirSplitsRow, standIns := [], harness := (true, "0f2ac1a9519ee9b72ab93166ac82ebaab652ccd008751c78698cddfde18703a6"), looks := false }, kinds := [], alts := [], laidByText := true, laidKinds := [.data, .data, .data], laidTests := true, laidLooks := .later }
def ShamirSplitsCardSaid : Prop := Claim7.holds Tryz.pinned (.plain (OpenSpec.ofChange shamirSplitsSpec)) shamirSplitsCard

/-- THE TIED CARD OF 'dominolaw19.ShamirCombines'. -/
def shamirCombinesCard : Claim7 := { stood := { row := shamirCombinesRow, standIns := [], harness := (true, "0f2ac1a9519ee9b72ab93166ac82ebaab652ccd008751c78698cddfde18703a6"), looks := false }, kinds := [], alts := [], laidByText := true, laidKinds := [.data, .data, .data], laidTests := true, laidLooks := .later }
def ShamirCombinesCardSaid : Prop := Claim7.holds Tryz.pinned (.plain (OpenSpec.ofChange shamirCombinesSpec)) shamirCombinesCard

/-- THE TIED CARD OF 'dominolaw19.ShamirInterpolates'. -/
def shamirInterpolatesCard : Claim7 := { stood := { row := shamirInterpolatesRow, standIns := [], harness := (true, "0f2ac1a9519ee9b72ab93166ac82ebaab652ccd008751c78698cddfde18703a6"), looks := false }, kinds := [], alts := [], laidByText := true, laidKinds := [.data, .data, .data], laidTests := true, laidLooks := .later }
def ShamirInterpolatesCardSaid : Prop := Claim7.holds Tryz.pinned (.plain (OpenSpec.ofChange shamirInterpolatesSpec)) shamirInterpolatesCard

/-- THE TIED CARD OF 'dominolaw19.ShamirRestores'. -/
def shamirRestoresCard : Claim7 := { stood := { row := shamirRestoresRow, standIns := [], harness := (true, "0f2ac1a9519ee9b72ab93166ac82ebaab652ccd008751c78698cddfde18703a6"), looks := false }, kinds := [], alts := [], laidByText := true, laidKinds := [.data, .data, .data], laidTests := true, laidLooks := .later }
def ShamirRestoresCardSaid : Prop := Claim7.holds Tryz.pinned (.plain (OpenSpec.ofChange shamirRestoresSpec)) shamirRestoresCard

/-- THE TIED CARD OF 'dominolaw19.ShamirHides'. -/
def shamirHidesCard : Claim7 := { stood := { row := shamirHidesRow, standIns := [], harness := (true, "0f2ac1a9519ee9b72ab93166ac82ebaab652ccd008751c78698cddfde18703a6"), looks := false }, kinds := [], alts := [], laidByText := true, laidKinds := [.data, .data, .data], laidTests := true, laidLooks := .later }
def ShamirHidesCardSaid : Prop := Claim7.holds Tryz.pinned (.plain (OpenSpec.ofChange shamirHidesSpec)) shamirHidesCard

/-- THE TIED CARD OF 'dominotop.TopRevokes'. -/
def topRevokesCard : Claim7 := { stood := { row := topRevokesRow, standIns := [], harness := (true, "0f2ac1a9519ee9b72ab93166ac82ebaab652ccd008751c78698cddfde18703a6"), looks := false }, kinds := [], alts := [], laidByText := true, laidKinds := [.data], laidTests := true, laidLooks := .later }
def TopRevokesCardSaid : Prop := Claim7.holds Tryz.pinned (.plain (OpenSpec.ofChange topRevokesSpec)) topRevokesCard

/-- THE SECOND FORM's CARD OF 'dominolaw11.ParamsPrimes'. -/
def paramsPrimesUptoCard : Claim7 := { stood := { row := paramsPrimesUptoRow, standIns := [], harness := (true, "0f2ac1a9519ee9b72ab93166ac82ebaab652ccd008751c78698cddfde18703a6"), looks := false }, kinds := [], alts := [], laidByText := true, laidKinds := [.data, .data, .data], laidTests := true, laidLooks := .later }
def ParamsPrimesUptoCardSaid : Prop := Claim7.holds Tryz.pinned (.plain (OpenSpec.upto paramsPrimesSpec)) paramsPrimesUptoCard

/-- THE SECOND FORM's CARD OF 'dominolaw11.ParamsGroups'. -/
def paramsGroupsUptoCard : Claim7 := { stood := { row := paramsGroupsUptoRow, standIns := [], harness := (true, "0f2ac1a9519ee9b72ab93166ac82ebaab652ccd008751c78698cddfde18703a6"), looks := false }, kinds := [], alts := [], laidByText := true, laidKinds := [.data, .data, .data], laidTests := true, laidLooks := .later }
def ParamsGroupsUptoCardSaid : Prop := Claim7.holds Tryz.pinned (.plain (OpenSpec.upto paramsGroupsSpec)) paramsGroupsUptoCard

/-- THE SECOND FORM's CARD OF 'dominolaw10.RsagroupDraws'. -/
def rsagroupDrawsUptoCard : Claim7 := { stood := { row := rsagroupDrawsUptoRow, standIns := [], harness := (true, "0f2ac1a9519ee9b72ab93166ac82ebaab652ccd008751c78698cddfde18703a6"), looks := false }, kinds := [], alts := [], laidByText := true, laidKinds := [.data, .data, .data], laidTests := true, laidLooks := .later }
def RsagroupDrawsUptoCardSaid : Prop := Claim7.holds Tryz.pinned (.plain (OpenSpec.upto rsagroupDrawsSpec)) rsagroupDrawsUptoCard

/-- THE SECOND FORM's CARD OF 'dominolaw35.AccumulatorHandles'. -/
def accumulatorHandlesUptoCard : Claim7 := { stood := { row := accumulatorHandlesUptoRow, standIns := [], harness := (true, "0f2ac1a9519ee9b72ab93166ac82ebaab652ccd008751c78698cddfde18703a6"), looks := false }, kinds := [], alts := [], laidByText := true, laidKinds := [.data, .data, .data], laidTests := true, laidLooks := .later }
def AccumulatorHandlesUptoCardSaid : Prop := Claim7.holds Tryz.pinned (.plain (OpenSpec.upto accumulatorHandlesSpec)) accumulatorHandlesUptoCard

/-- THE SECOND FORM's CARD OF 'dominolaw19.ShamirEvals'. -/
def shamirEvalsUptoCard : Claim7 := { stood := { row := shamirEvalsUptoRow, standIns := [], harness := (true, "0f2ac1a9519ee9b72ab93166ac82ebaab652ccd008751c78698cddfde18703a6"), looks := false }, kinds := [], alts := [], laidByText := true, laidKinds := [.data, .data, .data], laidTests := true, laidLooks := .later }
def ShamirEvalsUptoCardSaid : Prop := Claim7.holds Tryz.pinned (.plain (OpenSpec.upto shamirEvalsSpec)) shamirEvalsUptoCard

/-- THE SECOND FORM's CARD OF 'dominolaw19.ShamirSplits'. -/
def shamirSplitsUptoCard : Claim7 := { stood := { row := shamirSplitsUptoRow, standIns := [], harness := (true, "0f2ac1a9519ee9b72ab93166ac82ebaab652ccd008751c78698cddfde18703a6"), looks := false }, kinds := [], alts := [], laidByText := true, laidKinds := [.data, .data, .data], laidTests := true, laidLooks := .later }
def ShamirSplitsUptoCardSaid : Prop := Claim7.holds Tryz.pinned (.plain (OpenSpec.upto shamirSplitsSpec)) shamirSplitsUptoCard

/-- THE SECOND FORM's CARD OF 'dominolaw19.ShamirCombines'. -/
def shamirCombinesUptoCard : Claim7 := { stood := { row := shamirCombinesUptoRow, standIns := [], harness := (true, "0f2ac1a9519ee9b72ab93166ac82ebaab652ccd008751c78698cddfde18703a6"), looks := false }, kinds := [], alts := [], laidByText := true, laidKinds := [.data, .data, .data], laidTests := true, laidLooks := .later }
def ShamirCombinesUptoCardSaid : Prop := Claim7.holds Tryz.pinned (.plain (OpenSpec.upto shamirCombinesSpec)) shamirCombinesUptoCard

/-- THE SECOND FORM's CARD OF 'dominolaw19.ShamirInterpolates'. -/
def shamirInterpolatesUptoCard : Claim7 := { stood := { row := shamirInterpolatesUptoRow, standIns := [], harness := (true, "0f2ac1a9519ee9b72ab93166ac82ebaab652ccd008751c78698cddfde18703a6"), looks := false }, kinds := [], alts := [], laidByText := true, laidKinds := [.data, .data, .data], laidTests := true, laidLooks := .later }
def ShamirInterpolatesUptoCardSaid : Prop := Claim7.holds Tryz.pinned (.plain (OpenSpec.upto shamirInterpolatesSpec)) shamirInterpolatesUptoCard

/-- THE SECOND FORM's CARD OF 'dominolaw19.ShamirRestores'. -/
def shamirRestoresUptoCard : Claim7 := { stood := { row := shamirRestoresUptoRow, standIns := [], harness := (true, "0f2ac1a9519ee9b72ab93166ac82ebaab652ccd008751c78698cddfde18703a6"), looks := false }, kinds := [], alts := [], laidByText := true, laidKinds := [.data, .data, .data], laidTests := true, laidLooks := .later }
def ShamirRestoresUptoCardSaid : Prop := Claim7.holds Tryz.pinned (.plain (OpenSpec.upto shamirRestoresSpec)) shamirRestoresUptoCard

/-- THE SECOND FORM's CARD OF 'dominolaw19.ShamirHides'. -/
def shamirHidesUptoCard : Claim7 := { stood := { row := shamirHidesUptoRow, standIns := [], harness := (true, "0f2ac1a9519ee9b72ab93166ac82ebaab652ccd008751c78698cddfde18703a6"), looks := false }, kinds := [], alts := [], laidByText := true, laidKinds := [.data, .data, .data], laidTests := true, laidLooks := .later }
def ShamirHidesUptoCardSaid : Prop := Claim7.holds Tryz.pinned (.plain (OpenSpec.upto shamirHidesSpec)) shamirHidesUptoCard

/-- THE SECOND FORM's CARD OF 'dominotop.TopRevokes'. -/
def topRevokesUptoCard : Claim7 := { stood := { row := topRevokesUptoRow, standIns := [], harness := (true, "0f2ac1a9519ee9b72ab93166ac82ebaab652ccd008751c78698cddfde18703a6"), looks := false }, kinds := [], alts := [], laidByText := true, laidKinds := [.data], laidTests := true, laidLooks := .later }
def TopRevokesUptoCardSaid : Prop := Claim7.holds Tryz.pinned (.plain (OpenSpec.upto topRevokesSpec)) topRevokesUptoCard
end Rows
end Go.Proofs.YteifbhmfjchfjaaGreatDoor
