/-
  DERIVED. GIVEN WITH THE SEED: THE CARDS: each row of YtlcmlbdgibjmlaaGreatDoorRows.lean that lists a variable, with what it lists TIED to the program's text (the seventh form; the later family's looks); each row that meets fmt, with fmt's text TOLD by the authors' own Lean function (tested against real Go, not proved from fmt's source: count such statements apart). THE CARD IS WHAT COUNTS. Prove the row's statement (the work); the ties are given (YtlcmlbdgibjmlaaGreatDoorTie.lean); close each card by the builder's one call (the guide's Derived/Test/ToyasCard.lean, 'card_holds'). Laid BY PROGRAM, IN A SANDBOX (cutbox-door.mjs). By AI agents, Wed Nov 11 2026. No macro, syntax, notation, axiom, sorry.
-/
import Derived.Test.YtlcmlbdgibjmlaaGreatDoorRows
import GoSem.ClaimSeven
namespace Go.Proofs.YtlcmlbdgibjmlaaGreatDoor
namespace Rows

/-- THE TIED CARD OF 'dominolaw19.ShamirEvals'. -/
def shamirEvalsCard : Claim7 := { stood := { row := shamirEvalsRow, standIns := [], harness := (true, "f3eec1e59e8f4eca7df376bc36cd1c74261139614487d6d65afed7b2638b530b"), looks := false }, kinds := [], alts := [], laidByText := true, laidKinds := [.data, .data, .data], laidTests := true, laidLooks := .later }
def ShamirEvalsCardSaid : Prop := Claim7.holds Tryz.pinned (.plain (OpenSpec.ofChange shamirEvalsSpec)) shamirEvalsCard

/-- THE TIED CARD OF 'dominolaw19.ShamirSplits'. -/
def shamirSplitsCard : Claim7 := { stood := { row := shamirSplitsRow, standIns := [], harness := (true, "f3eec1e59e8f4eca7df376bc36cd1c74261139614487d6d65afed7b2638b530b"), looks := false }, kinds := [], alts := [], laidByText := true, laidKinds := [.data, .data, .data], laidTests := true, laidLooks := .later }
def ShamirSplitsCardSaid : Prop := Claim7.holds Tryz.pinned (.plain (OpenSpec.ofChange shamirSplitsSpec)) shamirSplitsCard

/-- THE TIED CARD OF 'dominolaw19.ShamirCombines'. -/
def shamirCombinesCard : Claim7 := { stood := { row := shamirCombinesRow, standIns := [], harness := (true, "f3eec1e59e8f4eca7df376bc36cd1c74261139614487d6d65afed7b2638b530b"), looks := false }, kinds := [], alts := [], laidByText := true, laidKinds := [.data, .data, .data], laidTests := true, laidLooks := .later }
def ShamirCombinesCardSaid : Prop := Claim7.holds Tryz.pinned (.plain (OpenSpec.ofChange shamirCombinesSpec)) shamirCombinesCard

/-- THE TIED CARD OF 'dominolaw19.ShamirRestores'. -/
def shamirRestoresCard : Claim7 := { stood := { row := shamirRestoresRow, standIns := [], harness := (true, "f3eec1e59e8f4eca7df376bc36cd1c74261139614487d6d65afed7b2638b530b"), looks := false }, kinds := [], alts := [], laidByText := true, laidKinds := [.data, .data, .data], laidTests := true, laidLooks := .later }
def ShamirRestoresCardSaid : Prop := Claim7.holds Tryz.pinned (.plain (OpenSpec.ofChange shamirRestoresSpec)) shamirRestoresCard

/-- THE TIED CARD OF 'dominolaw19.ShamirHides'. -/
def shamirHidesCard : Claim7 := { stood := { row := shamirHidesRow, standIns := [], harness := (true, "f3eec1e59e8f4eca7df376bc36cd1c74261139614487d6d65afed7b2638b530b"), looks := false }, kinds := [], alts := [], laidByText := true, laidKinds := [.data, .data, .data], laidTests := true, laidLooks := .later }
def ShamirHidesCardSaid : Prop := Claim7.holds Tryz.pinned (.plain (OpenSpec.ofChange shamirHidesSpec)) shamirHidesCard

/-- THE TIED CARD OF 'dominolaw19.ShamirInterpolates'. -/
def shamirInterpolatesCard : Claim7 := { stood := { row := shamirInterpolatesRow, standIns := [], harness := (true, "f3eec1e59e8f4eca7df376bc36cd1c74261139614487d6d65afed7b2638b530b"), looks := false }, kinds := [], alts := [], laidByText := true, laidKinds := [.data, .data, .data], laidTests := true, laidLooks := .later }
def ShamirInterpolatesCardSaid : Prop := Claim7.holds Tryz.pinned (.plain (OpenSpec.ofChange shamirInterpolatesSpec)) shamirInterpolatesCard

/-- THE SECOND FORM's CARD OF 'dominolaw19.ShamirEvals'. -/
def shamirEvalsUptoCard : Claim7 := { stood := { row := shamirEvalsUptoRow, standIns := [], harness := (true, "f3eec1e59e8f4eca7df376bc36cd1c74261139614487d6d65afed7b2638b530b"), looks := false }, kinds := [], alts := [], laidByText := true, laidKinds := [.data, .data, .data], laidTests := true, laidLooks := .later }
def ShamirEvalsUptoCardSaid : Prop := Claim7.holds Tryz.pinned (.plain (OpenSpec.upto shamirEvalsSpec)) shamirEvalsUptoCard

/-- THE SECOND FORM's CARD OF 'dominolaw19.ShamirSplits'. -/
def shamirSplitsUptoCard : Claim7 := { stood := { row := shamirSplitsUptoRow, standIns := [], harness := (true, "f3eec1e59e8f4eca7df376bc36cd1c74261139614487d6d65afed7b2638b530b"), looks := false }, kinds := [], alts := [], laidByText := true, laidKinds := [.data, .data, .data], laidTests := true, laidLooks := .later }
def ShamirSplitsUptoCardSaid : Prop := Claim7.holds Tryz.pinned (.plain (OpenSpec.upto shamirSplitsSpec)) shamirSplitsUptoCard

/-- THE SECOND FORM's CARD OF 'dominolaw19.ShamirCombines'. -/
def shamirCombinesUptoCard : Claim7 := { stood := { row := shamirCombinesUptoRow, standIns := [], harness := (true, "f3eec1e59e8f4eca7df376bc36cd1c74261139614487d6d65afed7b2638b530b"), looks := false }, kinds := [], alts := [], laidByText := true, laidKinds := [.data, .data, .data], laidTests := true, laidLooks := .later }
def ShamirCombinesUptoCardSaid : Prop := Claim7.holds Tryz.pinned (.plain (OpenSpec.upto shamirCombinesSpec)) shamirCombinesUptoCard

/-- THE SECOND FORM's CARD OF 'dominolaw19.ShamirRestores'. -/
def shamirRestoresUptoCard : Claim7 := { stood := { row := shamirRestoresUptoRow, standIns := [], harness := (true, "f3eec1e59e8f4eca7df376bc36cd1c74261139614487d6d65afed7b2638b530b"), looks := false }, kinds := [], alts := [], laidByText := true, laidKinds := [.data, .data, .data], laidTests := true, laidLooks := .later }
def ShamirRestoresUptoCardSaid : Prop := Claim7.holds Tryz.pinned (.plain (OpenSpec.upto shamirRestoresSpec)) shamirRestoresUptoCard

/-- THE SECOND FORM's CARD OF 'dominolaw19.ShamirHides'. -/
def shamirHidesUptoCard : Claim7 := { stood := { row := shamirHidesUptoRow, standIns := [], harness := (true, "f3eec1e59e8f4eca7df376bc36cd1c74261139614487d6d65afed7b2638b530b"), looks := false }, kinds := [], alts := [], laidByText := true, laidKinds := [.data, .data, .data], laidTests := true, laidLooks := .later }
def ShamirHidesUptoCardSaid : Prop := Claim7.holds Tryz.pinned (.plain (OpenSpec.upto shamirHidesSpec)) shamirHidesUptoCard

/-- THE SECOND FORM's CARD OF 'dominolaw19.ShamirInterpolates'. -/
def shamirInterpolatesUptoCard : Claim7 := { stood := { row := shamirInterpolatesUptoRow, standIns := [], harness := (true, "f3eec1e59e8f4eca7df376bc36cd1c74261139614487d6d65afed7b2638b530b"), looks := false }, kinds := [], alts := [], laidByText := true, laidKinds := [.data, .data, .data], laidTests := true, laidLooks := .later }
def ShamirInterpolatesUptoCardSaid : Prop := Claim7.holds Tryz.pinned (.plain (OpenSpec.upto shamirInterpolatesSpec)) shamirInterpolatesUptoCard
end Rows
end Go.Proofs.YtlcmlbdgibjmlaaGreatDoor
