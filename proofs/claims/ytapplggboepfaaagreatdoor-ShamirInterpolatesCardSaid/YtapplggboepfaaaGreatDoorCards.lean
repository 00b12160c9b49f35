/-
  DERIVED. GIVEN WITH THE SEED: THE CARDS: each row of YtapplggboepfaaaGreatDoorRows.lean that lists a variable, with what it lists TIED to the program's text (the seventh form; the later family's looks); each row that meets fmt, with fmt's text TOLD by the authors' own Lean function (tested against real Go, not proved from fmt's source: count such statements apart). THE CARD IS WHAT COUNTS. Prove the row's statement (the work); the ties are given (YtapplggboepfaaaGreatDoorTie.lean); close each card by the builder's one call (the guide's Derived/Test/ToyasCard.lean, 'card_holds'). Laid BY PROGRAM, IN A SANDBOX (cutbox-door.mjs). By AI agents, Wed Nov 11 2026. No macro, syntax, notation, axiom, sorry.
-/
import Derived.Test.YtapplggboepfaaaGreatDoorRows
import GoSem.ClaimSeven
namespace Go.Proofs.YtapplggboepfaaaGreatDoor
namespace Rows

/-- THE TIED CARD OF 'dominolaw19.ShamirHides'. -/
def shamirHidesCard : Claim7 := { stood := { row := shamirHidesRow, standIns := [], harness := (true, "05c144a7ee29a98fbbd39aae36986f6b667d27c965db92ea45d85d743e6aeaaf"), looks := false }, kinds := [], alts := [], laidByText := true, laidKinds := [.data, .data, .data], laidTests := true, laidLooks := .later }
def ShamirHidesCardSaid : Prop := Claim7.holds Tryz.pinned (.plain (OpenSpec.ofChange shamirHidesSpec)) shamirHidesCard

/-- THE TIED CARD OF 'dominolaw19.ShamirCombines'. -/
def shamirCombinesCard : Claim7 := { stood := { row := shamirCombinesRow, standIns := [], harness := (true, "05c144a7ee29a98fbbd39aae36986f6b667d27c965db92ea45d85d743e6aeaaf"), looks := false }, kinds := [], alts := [], laidByText := true, laidKinds := [.data, .data, .data], laidTests := true, laidLooks := .later }
def ShamirCombinesCardSaid : Prop := Claim7.holds Tryz.pinned (.plain (OpenSpec.ofChange shamirCombinesSpec)) shamirCombinesCard

/-- THE TIED CARD OF 'dominolaw19.ShamirInterpolates'. -/
def shamirInterpolatesCard : Claim7 := { stood := { row := shamirInterpolatesRow, standIns := [], harness := (true, "05c144a7ee29a98fbbd39aae36986f6b667d27c965db92ea45d85d743e6aeaaf"), looks := false }, kinds := [], alts := [], laidByText := true, laidKinds := [.data, .data, .data], laidTests := true, laidLooks := .later }
def ShamirInterpolatesCardSaid : Prop := Claim7.holds Tryz.pinned (.plain (OpenSpec.ofChange shamirInterpolatesSpec)) shamirInterpolatesCard

/-- THE SECOND FORM's CARD OF 'dominolaw19.ShamirHides'. -/
def shamirHidesUptoCard : Claim7 := { stood := { row := shamirHidesUptoRow, standIns := [], harness := (true, "05c144a7ee29a98fbbd39aae36986f6b667d27c965db92ea45d85d743e6aeaaf"), looks := false }, kinds := [], alts := [], laidByText := true, laidKinds := [.data, .data, .data], laidTests := true, laidLooks := .later }
def ShamirHidesUptoCardSaid : Prop := Claim7.holds Tryz.pinned (.plain (OpenSpec.upto shamirHidesSpec)) shamirHidesUptoCard

/-- THE SECOND FORM's CARD OF 'dominolaw19.ShamirCombines'. -/
def shamirCombinesUptoCard : Claim7 := { stood := { row := shamirCombinesUptoRow, standIns := [], harness := (true, "05c144a7ee29a98fbbd39aae36986f6b667d27c965db92ea45d85d743e6aeaaf"), looks := false }, kinds := [], alts := [], laidByText := true, laidKinds := [.data, .data, .data], laidTests := true, laidLooks := .later }
def ShamirCombinesUptoCardSaid : Prop := Claim7.holds Tryz.pinned (.plain (OpenSpec.upto shamirCombinesSpec)) shamirCombinesUptoCard

/-- THE SECOND FORM's CARD OF 'dominolaw19.ShamirInterpolates'. -/
def shamirInterpolatesUptoCard : Claim7 := { stood := { row := shamirInterpolatesUptoRow, standIns := [], harness := (true, "05c144a7ee29a98fbbd39aae36986f6b667d27c965db92ea45d85d743e6aeaaf"), looks := false }, kinds := [], alts := [], laidByText := true, laidKinds := [.data, .data, .data], laidTests := true, laidLooks := .later }
def ShamirInterpolatesUptoCardSaid : Prop := Claim7.holds Tryz.pinned (.plain (OpenSpec.upto shamirInterpolatesSpec)) shamirInterpolatesUptoCard
end Rows
end Go.Proofs.YtapplggboepfaaaGreatDoor
