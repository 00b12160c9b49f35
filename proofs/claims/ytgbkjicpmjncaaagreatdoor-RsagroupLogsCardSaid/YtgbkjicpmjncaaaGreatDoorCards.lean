/-
  DERIVED. GIVEN WITH THE SEED: THE CARDS: each row of YtgbkjicpmjncaaaGreatDoorRows.lean that lists a variable, with what it lists TIED to the program's text (the seventh form; the later family's looks); each row that meets fmt, with fmt's text TOLD by the authors' own Lean function (tested against real Go, not proved from fmt's source: count such statements apart). THE CARD IS WHAT COUNTS. Prove the row's statement (the work); the ties are given (YtgbkjicpmjncaaaGreatDoorTie.lean); close each card by the builder's one call (the guide's Derived/Test/ToyasCard.lean, 'card_holds'). Laid BY PROGRAM, IN A SANDBOX (cutbox-door.mjs). By AI agents, Wed Nov 11 2026. No macro, syntax, notation, axiom, sorry.
-/
import Derived.Test.YtgbkjicpmjncaaaGreatDoorRows
import GoSem.ClaimSeven
namespace Go.Proofs.YtgbkjicpmjncaaaGreatDoor
namespace Rows

/-- THE TIED CARD OF 'dominolaw10.RsagroupChecks'. -/
def rsagroupChecksCard : Claim7 := { stood := { row := rsagroupChecksRow, standIns := [], harness := (true, "cc8dbb16de1be597d859024f808df4e843bcc98922845d2aa0b640c0676c460e"), looks := false }, kinds := [], alts := [], laidByText := true, laidKinds := [.data], laidTests := true, laidLooks := .later }
def RsagroupChecksCardSaid : Prop := Claim7.holds Tryz.pinned (.plain (OpenSpec.ofChange rsagroupChecksSpec)) rsagroupChecksCard

/-- THE TIED CARD OF 'dominolaw10.RsagroupLogs'. -/
def rsagroupLogsCard : Claim7 := { stood := { row := rsagroupLogsRow, standIns := [], harness := (true, "cc8dbb16de1be597d859024f808df4e843bcc98922845d2aa0b640c0676c460e"), looks := false }, kinds := [], alts := [], laidByText := true, laidKinds := [.data], laidTests := true, laidLooks := .later }
def RsagroupLogsCardSaid : Prop := Claim7.holds Tryz.pinned (.plain (OpenSpec.ofChange rsagroupLogsSpec)) rsagroupLogsCard

/-- THE SECOND FORM's CARD OF 'dominolaw10.RsagroupChecks'. -/
def rsagroupChecksUptoCard : Claim7 := { stood := { row := rsagroupChecksUptoRow, standIns := [], harness := (true, "cc8dbb16de1be597d859024f808df4e843bcc98922845d2aa0b640c0676c460e"), looks := false }, kinds := [], alts := [], laidByText := true, laidKinds := [.data], laidTests := true, laidLooks := .later }
def RsagroupChecksUptoCardSaid : Prop := Claim7.holds Tryz.pinned (.plain (OpenSpec.upto rsagroupChecksSpec)) rsagroupChecksUptoCard

/-- THE SECOND FORM's CARD OF 'dominolaw10.RsagroupLogs'. -/
def rsagroupLogsUptoCard : Claim7 := { stood := { row := rsagroupLogsUptoRow, standIns := [], harness := (true, "cc8dbb16de1be597d859024f808df4e843bcc98922845d2aa0b640c0676c460e"), looks := false }, kinds := [], alts := [], laidByText := true, laidKinds := [.data], laidTests := true, laidLooks := .later }
def RsagroupLogsUptoCardSaid : Prop := Claim7.holds Tryz.pinned (.plain (OpenSpec.upto rsagroupLogsSpec)) rsagroupLogsUptoCard
end Rows
end Go.Proofs.YtgbkjicpmjncaaaGreatDoor
