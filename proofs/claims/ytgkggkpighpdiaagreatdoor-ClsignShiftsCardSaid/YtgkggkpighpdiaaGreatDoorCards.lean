/-
  DERIVED. GIVEN WITH THE SEED: THE CARDS: each row of YtgkggkpighpdiaaGreatDoorRows.lean that lists a variable, with what it lists TIED to the program's text (the seventh form; the later family's looks); each row that meets fmt, with fmt's text TOLD by the authors' own Lean function (tested against real Go, not proved from fmt's source: count such statements apart). THE CARD IS WHAT COUNTS. Prove the row's statement (the work); the ties are given (YtgkggkpighpdiaaGreatDoorTie.lean); close each card by the builder's one call (the guide's Derived/Test/ToyasCard.lean, 'card_holds'). Laid BY PROGRAM, IN A SANDBOX (cutbox-door.mjs). By AI agents, Wed Nov 11 2026. No macro, syntax, notation, axiom, sorry.
-/
import Derived.Test.YtgkggkpighpdiaaGreatDoorRows
import GoSem.ClaimSeven
namespace Go.Proofs.YtgkggkpighpdiaaGreatDoor
namespace Rows

/-- THE TIED CARD OF 'dominolaw30.ClsignExponents'. -/
def clsignExponentsCard : Claim7 := { stood := { row := clsignExponentsRow, standIns := [], harness := (true, "1050f73f5ef673db3da78601fdbb821e8705825fff90b2f9e8c475f92e796f11"), looks := false }, kinds := [], alts := [], laidByText := true, laidKinds := [.data, .data, .data], laidTests := true, laidLooks := .later }
def ClsignExponentsCardSaid : Prop := Claim7.holds Tryz.pinned (.plain (OpenSpec.ofChange clsignExponentsSpec)) clsignExponentsCard

/-- THE TIED CARD OF 'dominolaw30.ClsignShifts'. -/
def clsignShiftsCard : Claim7 := { stood := { row := clsignShiftsRow, standIns := [], harness := (true, "1050f73f5ef673db3da78601fdbb821e8705825fff90b2f9e8c475f92e796f11"), looks := false }, kinds := [], alts := [], laidByText := true, laidKinds := [.data, .data, .data], laidTests := true, laidLooks := .later }
def ClsignShiftsCardSaid : Prop := Claim7.holds Tryz.pinned (.plain (OpenSpec.ofChange clsignShiftsSpec)) clsignShiftsCard

/-- THE SECOND FORM's CARD OF 'dominolaw30.ClsignExponents'. -/
def clsignExponentsUptoCard : Claim7 := { stood := { row := clsignExponentsUptoRow, standIns := [], harness := (true, "1050f73f5ef673db3da78601fdbb821e8705825fff90b2f9e8c475f92e796f11"), looks := false }, kinds := [], alts := [], laidByText := true, laidKinds := [.data, .data, .data], laidTests := true, laidLooks := .later }
def ClsignExponentsUptoCardSaid : Prop := Claim7.holds Tryz.pinned (.plain (OpenSpec.upto clsignExponentsSpec)) clsignExponentsUptoCard

/-- THE SECOND FORM's CARD OF 'dominolaw30.ClsignShifts'. -/
def clsignShiftsUptoCard : Claim7 := { stood := { row := clsignShiftsUptoRow, standIns := [], harness := (true, "1050f73f5ef673db3da78601fdbb821e8705825fff90b2f9e8c475f92e796f11"), looks := false }, kinds := [], alts := [], laidByText := true, laidKinds := [.data, .data, .data], laidTests := true, laidLooks := .later }
def ClsignShiftsUptoCardSaid : Prop := Claim7.holds Tryz.pinned (.plain (OpenSpec.upto clsignShiftsSpec)) clsignShiftsUptoCard
end Rows
end Go.Proofs.YtgkggkpighpdiaaGreatDoor
