/-
  DERIVED. GIVEN WITH THE SEED: THE CARDS: each row of YtiacajjpkncomaaGreatDoorRows.lean that lists a variable, with what it lists TIED to the program's text (the seventh form; the later family's looks); each row that meets fmt, with fmt's text TOLD by the authors' own Lean function (tested against real Go, not proved from fmt's source: count such statements apart). THE CARD IS WHAT COUNTS. Prove the row's statement (the work); the ties are given (YtiacajjpkncomaaGreatDoorTie.lean); close each card by the builder's one call (the guide's Derived/Test/ToyasCard.lean, 'card_holds'). Laid BY PROGRAM, IN A SANDBOX (cutbox-door.mjs). By AI agents, Wed Nov 11 2026. No macro, syntax, notation, axiom, sorry.
-/
import Derived.Test.YtiacajjpkncomaaGreatDoorRows
import GoSem.ClaimSeven
namespace Go.Proofs.YtiacajjpkncomaaGreatDoor
namespace Rows

/-- THE TIED CARD OF 'dominolaw30.ClsignExponents'. -/
def clsignExponentsCard : Claim7 := { stood := { row := clsignExponentsRow, standIns := [], harness := (true, "bcceaa2f35030b9c002295ba6d69f8806e62b67ab30d6b358d7fbff8211feda0"), looks := false }, kinds := [], alts := [], laidByText := true, laidKinds := [.data, .data, .data], laidTests := true, laidLooks := .later }
def ClsignExponentsCardSaid : Prop := Claim7.holds Tryz.pinned (.plain (OpenSpec.ofChange clsignExponentsSpec)) clsignExponentsCard

/-- THE SECOND FORM's CARD OF 'dominolaw30.ClsignExponents'. -/
def clsignExponentsUptoCard : Claim7 := { stood := { row := clsignExponentsUptoRow, standIns := [], harness := (true, "bcceaa2f35030b9c002295ba6d69f8806e62b67ab30d6b358d7fbff8211feda0"), looks := false }, kinds := [], alts := [], laidByText := true, laidKinds := [.data, .data, .data], laidTests := true, laidLooks := .later }
def ClsignExponentsUptoCardSaid : Prop := Claim7.holds Tryz.pinned (.plain (OpenSpec.upto clsignExponentsSpec)) clsignExponentsUptoCard
end Rows
end Go.Proofs.YtiacajjpkncomaaGreatDoor
