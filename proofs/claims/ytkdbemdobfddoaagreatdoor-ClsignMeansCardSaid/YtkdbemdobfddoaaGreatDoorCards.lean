/-
  DERIVED. GIVEN WITH THE SEED: THE CARDS: each row of YtkdbemdobfddoaaGreatDoorRows.lean that lists a variable, with what it lists TIED to the program's text (the seventh form; the later family's looks); each row that meets fmt, with fmt's text TOLD by the authors' own Lean function (tested against real Go, not proved from fmt's source: count such statements apart). THE CARD IS WHAT COUNTS. Prove the row's statement (the work); the ties are given (YtkdbemdobfddoaaGreatDoorTie.lean); close each card by the builder's one call (the guide's Derived/Test/ToyasCard.lean, 'card_holds'). Laid BY PROGRAM, IN A SANDBOX (cutbox-door.mjs). By AI agents, Wed Nov 11 2026. No macro, syntax, notation, axiom, sorry.
-/
import Derived.Test.YtkdbemdobfddoaaGreatDoorRows
import GoSem.ClaimSeven
namespace Go.Proofs.YtkdbemdobfddoaaGreatDoor
namespace Rows

/-- THE TIED CARD OF 'dominolaw30.ClsignMessages'. -/
def clsignMessagesCard : Claim7 := { stood := { row := clsignMessagesRow, standIns := [], harness := (true, "6bbb3aaa2c82f3e945f715f4d1b27fd5deb414cb23a07e5f739bdfc03e2ea8e9"), looks := false }, kinds := [], alts := [], laidByText := true, laidKinds := [.data, .data, .data], laidTests := true, laidLooks := .later }
def ClsignMessagesCardSaid : Prop := Claim7.holds Tryz.pinned (.plain (OpenSpec.ofChange clsignMessagesSpec)) clsignMessagesCard

/-- THE TIED CARD OF 'dominolaw30.ClsignExponents'. -/
def clsignExponentsCard : Claim7 := { stood := { row := clsignExponentsRow, standIns := [], harness := (true, "6bbb3aaa2c82f3e945f715f4d1b27fd5deb414cb23a07e5f739bdfc03e2ea8e9"), looks := false }, kinds := [], alts := [], laidByText := true, laidKinds := [.data, .data, .data], laidTests := true, laidLooks := .later }
def ClsignExponentsCardSaid : Prop := Claim7.holds Tryz.pinned (.plain (OpenSpec.ofChange clsignExponentsSpec)) clsignExponentsCard

/-- THE TIED CARD OF 'dominolaw30.ClsignVerifies'. -/
def clsignVerifiesCard : Claim7 := { stood := { row := clsignVerifiesRow, standIns := [], harness := (true, "6bbb3aaa2c82f3e945f715f4d1b27fd5deb414cb23a07e5f739bdfc03e2ea8e9"), looks := false }, kinds := [], alts := [], laidByText := true, laidKinds := [.data, .data, .data], laidTests := true, laidLooks := .later }
def ClsignVerifiesCardSaid : Prop := Claim7.holds Tryz.pinned (.plain (OpenSpec.ofChange clsignVerifiesSpec)) clsignVerifiesCard

/-- THE TIED CARD OF 'dominolaw30.ClsignMeans'. -/
def clsignMeansCard : Claim7 := { stood := { row := clsignMeansRow, standIns := [], harness := (true, "6bbb3aaa2c82f3e945f715f4d1b27fd5deb414cb23a07e5f739bdfc03e2ea8e9"), looks := false }, kinds := [], alts := [], laidByText := true, laidKinds := [.data, .data, .data], laidTests := true, laidLooks := .later }
def ClsignMeansCardSaid : Prop := Claim7.holds Tryz.pinned (.plain (OpenSpec.ofChange clsignMeansSpec)) clsignMeansCard

/-- THE TIED CARD OF 'dominolaw30.ClsignShifts'. -/
def clsignShiftsCard : Claim7 := { stood := { row := clsignShiftsRow, standIns := [], harness := (true, "6bbb3aaa2c82f3e945f715f4d1b27fd5deb414cb23a07e5f739bdfc03e2ea8e9"), looks := false }, kinds := [], alts := [], laidByText := true, laidKinds := [.data, .data, .data], laidTests := true, laidLooks := .later }
def ClsignShiftsCardSaid : Prop := Claim7.holds Tryz.pinned (.plain (OpenSpec.ofChange clsignShiftsSpec)) clsignShiftsCard

/-- THE TIED CARD OF 'dominolaw30.ClsignOne'. -/
def clsignOneCard : Claim7 := { stood := { row := clsignOneRow, standIns := [], harness := (true, "6bbb3aaa2c82f3e945f715f4d1b27fd5deb414cb23a07e5f739bdfc03e2ea8e9"), looks := false }, kinds := [], alts := [], laidByText := true, laidKinds := [.data, .data, .data], laidTests := true, laidLooks := .later }
def ClsignOneCardSaid : Prop := Claim7.holds Tryz.pinned (.plain (OpenSpec.ofChange clsignOneSpec)) clsignOneCard

/-- THE SECOND FORM's CARD OF 'dominolaw30.ClsignMessages'. -/
def clsignMessagesUptoCard : Claim7 := { stood := { row := clsignMessagesUptoRow, standIns := [], harness := (true, "6bbb3aaa2c82f3e945f715f4d1b27fd5deb414cb23a07e5f739bdfc03e2ea8e9"), looks := false }, kinds := [], alts := [], laidByText := true, laidKinds := [.data, .data, .data], laidTests := true, laidLooks := .later }
def ClsignMessagesUptoCardSaid : Prop := Claim7.holds Tryz.pinned (.plain (OpenSpec.upto clsignMessagesSpec)) clsignMessagesUptoCard

/-- THE SECOND FORM's CARD OF 'dominolaw30.ClsignExponents'. -/
def clsignExponentsUptoCard : Claim7 := { stood := { row := clsignExponentsUptoRow, standIns := [], harness := (true, "6bbb3aaa2c82f3e945f715f4d1b27fd5deb414cb23a07e5f739bdfc03e2ea8e9"), looks := false }, kinds := [], alts := [], laidByText := true, laidKinds := [.data, .data, .data], laidTests := true, laidLooks := .later }
def ClsignExponentsUptoCardSaid : Prop := Claim7.holds Tryz.pinned (.plain (OpenSpec.upto clsignExponentsSpec)) clsignExponentsUptoCard

/-- THE SECOND FORM's CARD OF 'dominolaw30.ClsignVerifies'. -/
def clsignVerifiesUptoCard : Claim7 := { stood := { row := clsignVerifiesUptoRow, standIns := [], harness := (true, "6bbb3aaa2c82f3e945f715f4d1b27fd5deb414cb23a07e5f739bdfc03e2ea8e9"), looks := false }, kinds := [], alts := [], laidByText := true, laidKinds := [.data, .data, .data], laidTests := true, laidLooks := .later }
def ClsignVerifiesUptoCardSaid : Prop := Claim7.holds Tryz.pinned (.plain (OpenSpec.upto clsignVerifiesSpec)) clsignVerifiesUptoCard

/-- THE SECOND FORM's CARD OF 'dominolaw30.ClsignMeans'. -/
def clsignMeansUptoCard : Claim7 := { stood := { row := clsignMeansUptoRow, standIns := [], harness := (true, "6bbb3aaa2c82f3e945f715f4d1b27fd5deb414cb23a07e5f739bdfc03e2ea8e9"), looks := false }, kinds := [], alts := [], laidByText := true, laidKinds := [.data, .data, .data], laidTests := true, laidLooks := .later }
def ClsignMeansUptoCardSaid : Prop := Claim7.holds Tryz.pinned (.plain (OpenSpec.upto clsignMeansSpec)) clsignMeansUptoCard

/-- THE SECOND FORM's CARD OF 'dominolaw30.ClsignShifts'. -/
def clsignShiftsUptoCard : Claim7 := { stood := { row := clsignShiftsUptoRow, standIns := [], harness := (true, "6bbb3aaa2c82f3e945f715f4d1b27fd5deb414cb23a07e5f739bdfc03e2ea8e9"), looks := false }, kinds := [], alts := [], laidByText := true, laidKinds := [.data, .data, .data], laidTests := true, laidLooks := .later }
def ClsignShiftsUptoCardSaid : Prop := Claim7.holds Tryz.pinned (.plain (OpenSpec.upto clsignShiftsSpec)) clsignShiftsUptoCard

/-- THE SECOND FORM's CARD OF 'dominolaw30.ClsignOne'. -/
def clsignOneUptoCard : Claim7 := { stood := { row := clsignOneUptoRow, standIns := [], harness := (true, "6bbb3aaa2c82f3e945f715f4d1b27fd5deb414cb23a07e5f739bdfc03e2ea8e9"), looks := false }, kinds := [], alts := [], laidByText := true, laidKinds := [.data, .data, .data], laidTests := true, laidLooks := .later }
def ClsignOneUptoCardSaid : Prop := Claim7.holds Tryz.pinned (.plain (OpenSpec.upto clsignOneSpec)) clsignOneUptoCard
end Rows
end Go.Proofs.YtkdbemdobfddoaaGreatDoor
