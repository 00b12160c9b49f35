/-
  DERIVED. GIVEN WITH THE SEED: THE CARDS: each row of YtcpglhjmhegfmaaGreatDoorRows.lean that lists a variable, with what it lists TIED to the program's text (the seventh form; the later family's looks); each row that meets fmt, with fmt's text TOLD by the authors' own Lean function (tested against real Go, not proved from fmt's source: count such statements apart). THE CARD IS WHAT COUNTS. Prove the row's statement (the work); the ties are given (YtcpglhjmhegfmaaGreatDoorTie.lean); close each card by the builder's one call (the guide's Derived/Test/ToyasCard.lean, 'card_holds'). Laid BY PROGRAM, IN A SANDBOX (cutbox-door.mjs). By AI agents, Wed Nov 11 2026. No macro, syntax, notation, axiom, sorry.
-/
import Derived.Test.YtcpglhjmhegfmaaGreatDoorRows
import GoSem.ClaimSeven
namespace Go.Proofs.YtcpglhjmhegfmaaGreatDoor
namespace Rows

/-- THE TIED CARD OF 'dominotop.TopRevokes'. -/
def topRevokesCard : Claim7 := { stood := { row := topRevokesRow, standIns := [], harness := (true, "131092a94642dd57fa1f145dd9cf968062fcfa566adabb2bf616715f9ad8e067"), looks := false }, kinds := [], alts := [], laidByText := true, laidKinds := [.data], laidTests := true, laidLooks := .later }
def TopRevokesCardSaid : Prop := Claim7.holds Tryz.pinned (.plain (OpenSpec.ofChange topRevokesSpec)) topRevokesCard

/-- THE SECOND FORM's CARD OF 'dominotop.TopRevokes'. -/
def topRevokesUptoCard : Claim7 := { stood := { row := topRevokesUptoRow, standIns := [], harness := (true, "131092a94642dd57fa1f145dd9cf968062fcfa566adabb2bf616715f9ad8e067"), looks := false }, kinds := [], alts := [], laidByText := true, laidKinds := [.data], laidTests := true, laidLooks := .later }
def TopRevokesUptoCardSaid : Prop := Claim7.holds Tryz.pinned (.plain (OpenSpec.upto topRevokesSpec)) topRevokesUptoCard
end Rows
end Go.Proofs.YtcpglhjmhegfmaaGreatDoor
