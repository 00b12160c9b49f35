/-
  DERIVED. GIVEN WITH THE SEED: THE CARDS: each row of YtdajbcohmnmbpaaGreatDoorRows.lean that lists a variable, with what it lists TIED to the program's text (the seventh form; the later family's looks); each row that meets fmt, with fmt's text TOLD by the authors' own Lean function (tested against real Go, not proved from fmt's source: count such statements apart). THE CARD IS WHAT COUNTS. Prove the row's statement (the work); the ties are given (YtdajbcohmnmbpaaGreatDoorTie.lean); close each card by the builder's one call (the guide's Derived/Test/ToyasCard.lean, 'card_holds'). Laid BY PROGRAM, IN A SANDBOX (cutbox-door.mjs). By AI agents, Wed Nov 11 2026. No macro, syntax, notation, axiom, sorry.
-/
import Derived.Test.YtdajbcohmnmbpaaGreatDoorRows
import GoSem.ClaimSeven
namespace Go.Proofs.YtdajbcohmnmbpaaGreatDoor
namespace Rows

/-- THE TIED CARD OF 'dominolaw11.ParamsGroups'. -/
def paramsGroupsCard : Claim7 := { stood := { row := paramsGroupsRow, standIns := [], harness := (true, "f8ef4a2d2ab337e3e8602b8c121a47e4764501d3f86a3acf047e000887ae4086"), looks := false }, kinds := [], alts := [], laidByText := true, laidKinds := [.data, .data, .data], laidTests := true, laidLooks := .later }
def ParamsGroupsCardSaid : Prop := Claim7.holds Tryz.pinned (.plain (OpenSpec.ofChange paramsGroupsSpec)) paramsGroupsCard

/-- THE TIED CARD OF 'dominotop.TopRevokes'. -/
def topRevokesCard : Claim7 := { stood := { row := topRevokesRow, standIns := [], harness := (true, "f8ef4a2d2ab337e3e8602b8c121a47e4764501d3f86a3acf047e000887ae4086"), looks := false }, kinds := [], alts := [], laidByText := true, laidKinds := [.data], laidTests := true, laidLooks := .later }
def TopRevokesCardSaid : Prop := Claim7.holds Tryz.pinned (.plain (OpenSpec.ofChange topRevokesSpec)) topRevokesCard

/-- THE TIED CARD OF 'dominolaw30.ClsignMessages'. -/
def clsignMessagesCard : Claim7 := { stood := { row := clsignMessagesRow, standIns := [], harness := (true, "f8ef4a2d2ab337e3e8602b8c121a47e4764501d3f86a3acf047e000887ae4086"), looks := false }, kinds := [], alts := [], laidByText := true, laidKinds := [.data, .data, .data], laidTests := true, laidLooks := .later }
def ClsignMessagesCardSaid : Prop := Claim7.holds Tryz.pinned (.plain (OpenSpec.ofChange clsignMessagesSpec)) clsignMessagesCard

/-- THE TIED CARD OF 'dominolaw30.ClsignExponents'. -/
def clsignExponentsCard : Claim7 := { stood := { row := clsignExponentsRow, standIns := [], harness := (true, "f8ef4a2d2ab337e3e8602b8c121a47e4764501d3f86a3acf047e000887ae4086"), looks := false }, kinds := [], alts := [], laidByText := true, laidKinds := [.data, .data, .data], laidTests := true, laidLooks := .later }
def ClsignExponentsCardSaid : Prop := Claim7.holds Tryz.pinned (.plain (OpenSpec.ofChange clsignExponentsSpec)) clsignExponentsCard

/-- THE TIED CARD OF 'dominolaw30.ClsignVerifies'. -/
def clsignVerifiesCard : Claim7 := { stood := { row := clsignVerifiesRow, standIns := [], harness := (true, "f8ef4a2d2ab337e3e8602b8c121a47e4764501d3f86a3acf047e000887ae4086"), looks := false }, kinds := [], alts := [], laidByText := true, laidKinds := [.data, .data, .data], laidTests := true, laidLooks := .later }
def ClsignVerifiesCardSaid : Prop := Claim7.holds Tryz.pinned (.plain (OpenSpec.ofChange clsignVerifiesSpec)) clsignVerifiesCard

/-- THE TIED CARD OF 'dominolaw30.ClsignMeans'. -/
def clsignMeansCard : Claim7 := { stood := { row := clsignMeansRow, standIns := [], harness := (true, "f8ef4a2d2ab337e3e8602b8c121a47e4764501d3f86a3acf047e000887ae4086"), looks := false }, kinds := [], alts := [], laidByText := true, laidKinds := [.data, .data, .data], laidTests := true, laidLooks := .later }
def ClsignMeansCardSaid : Prop := Claim7.holds Tryz.pinned (.plain (OpenSpec.ofChange clsignMeansSpec)) clsignMeansCard

/-- THE TIED CARD OF 'dominolaw30.ClsignShifts'. -/
def clsignShiftsCard : Claim7 := { stood := { row := clsignShiftsRow, standIns := [], harness := (true, "f8ef4a2d2ab337e3e8602b8c121a47e4764501d3f86a3acf047e000887ae4086"), looks := false }, kinds := [], alts := [], laidByText := true, laidKinds := [.data, .data, .data], laidTests := true, laidLooks := .later }
def ClsignShiftsCardSaid : Prop := Claim7.holds Tryz.pinned (.plain (OpenSpec.ofChange clsignShiftsSpec)) clsignShiftsCard

/-- THE TIED CARD OF 'dominolaw30.ClsignOne'. -/
def clsignOneCard : Claim7 := { stood := { row := clsignOneRow, standIns := [], harness := (true, "f8ef4a2d2ab337e3e8602b8c121a47e4764501d3f86a3acf047e000887ae4086"), looks := false }, kinds := [], alts := [], laidByText := true, laidKinds := [.data, .data, .data], laidTests := true, laidLooks := .later }
def ClsignOneCardSaid : Prop := Claim7.holds Tryz.pinned (.plain (OpenSpec.ofChange clsignOneSpec)) clsignOneCard

/-- THE SECOND FORM's CARD OF 'dominolaw11.ParamsGroups'. -/
def paramsGroupsUptoCard : Claim7 := { stood := { row := paramsGroupsUptoRow, standIns := [], harness := (true, "f8ef4a2d2ab337e3e8602b8c121a47e4764501d3f86a3acf047e000887ae4086"), looks := false }, kinds := [], alts := [], laidByText := true, laidKinds := [.data, .data, .data], laidTests := true, laidLooks := .later }
def ParamsGroupsUptoCardSaid : Prop := Claim7.holds Tryz.pinned (.plain (OpenSpec.upto paramsGroupsSpec)) paramsGroupsUptoCard

/-- THE SECOND FORM's CARD OF 'dominotop.TopRevokes'. -/
def topRevokesUptoCard : Claim7 := { stood := { row := topRevokesUptoRow, standIns := [], harness := (true, "f8ef4a2d2ab337e3e8602b8c121a47e4764501d3f86a3acf047e000887ae4086"), looks := false }, kinds := [], alts := [], laidByText := true, laidKinds := [.data], laidTests := true, laidLooks := .later }
def TopRevokesUptoCardSaid : Prop := Claim7.holds Tryz.pinned (.plain (OpenSpec.upto topRevokesSpec)) topRevokesUptoCard

/-- THE SECOND FORM's CARD OF 'dominolaw30.ClsignMessages'. -/
def clsignMessagesUptoCard : Claim7 := { stood := { row := clsignMessagesUptoRow, standIns := [], harness := (true, "f8ef4a2d2ab337e3e8602b8c121a47e4764501d3f86a3acf047e000887ae4086"), looks := false }, kinds := [], alts := [], laidByText := true, laidKinds := [.data, .data, .data], laidTests := true, laidLooks := .later }
def ClsignMessagesUptoCardSaid : Prop := Claim7.holds Tryz.pinned (.plain (OpenSpec.upto clsignMessagesSpec)) clsignMessagesUptoCard

/-- THE SECOND FORM's CARD OF 'dominolaw30.ClsignExponents'. -/
def clsignExponentsUptoCard : Claim7 := { stood := { row := clsignExponentsUptoRow, standIns := [], harness := (true, "f8ef4a2d2ab337e3e8602b8c121a47e4764501d3f86a3acf047e000887ae4086"), looks := false }, kinds := [], alts := [], laidByText := true, laidKinds := [.data, .data, .data], laidTests := true, laidLooks := .later }
def ClsignExponentsUptoCardSaid : Prop := Claim7.holds Tryz.pinned (.plain (OpenSpec.upto clsignExponentsSpec)) clsignExponentsUptoCard

/-- THE SECOND FORM's CARD OF 'dominolaw30.ClsignVerifies'. -/
def clsignVerifiesUptoCard : Claim7 := { stood := { row := clsignVerifiesUptoRow, standIns := [], harness := (true, "f8ef4a2d2ab337e3e8602b8c121a47e4764501d3f86a3acf047e000887ae4086"), looks := false }, kinds := [], alts := [], laidByText := true, laidKinds := [.data, .data, .data], laidTests := true, laidLooks := .later }
def ClsignVerifiesUptoCardSaid : Prop := Claim7.holds Tryz.pinned (.plain (OpenSpec.upto clsignVerifiesSpec)) clsignVerifiesUptoCard

/-- THE SECOND FORM's CARD OF 'dominolaw30.ClsignMeans'. -/
def clsignMeansUptoCard : Claim7 := { stood := { row := clsignMeansUptoRow, standIns := [], harness := (true, "f8ef4a2d2ab337e3e8602b8c121a47e4764501d3f86a3acf047e000887ae4086"), looks := false }, kinds := [], alts := [], laidByText := true, laidKinds := [.data, .data, .data], laidTests := true, laidLooks := .later }
def ClsignMeansUptoCardSaid : Prop := Claim7.holds Tryz.pinned (.plain (OpenSpec.upto clsignMeansSpec)) clsignMeansUptoCard

/-- THE SECOND FORM's CARD OF 'dominolaw30.ClsignShifts'. -/
def clsignShiftsUptoCard : Claim7 := { stood := { row := clsignShiftsUptoRow, standIns := [], harness := (true, "f8ef4a2d2ab337e3e8602b8c121a47e4764501d3f86a3acf047e000887ae4086"), looks := false }, kinds := [], alts := [], laidByText := true, laidKinds := [.data, .data, .data], laidTests := true, laidLooks := .later }
def ClsignShiftsUptoCardSaid : Prop := Claim7.holds Tryz.pinned (.plain (OpenSpec.upto clsignShiftsSpec)) clsignShiftsUptoCard

/-- THE SECOND FORM's CARD OF 'dominolaw30.ClsignOne'. -/
def clsignOneUptoCard : Claim7 := { stood := { row := clsignOneUptoRow, standIns := [], harness := (true, "f8ef4a2d2ab337e3e8602b8c121a47e4764501d3f86a3acf047e000887ae4086"), looks := false }, kinds := [], alts := [], laidByText := true, laidKinds := [.data, .data, .data], laidTests := true, laidLooks := .later }
def ClsignOneUptoCardSaid : Prop := Claim7.holds Tryz.pinned (.plain (OpenSpec.upto clsignOneSpec)) clsignOneUptoCard
end Rows
end Go.Proofs.YtdajbcohmnmbpaaGreatDoor
