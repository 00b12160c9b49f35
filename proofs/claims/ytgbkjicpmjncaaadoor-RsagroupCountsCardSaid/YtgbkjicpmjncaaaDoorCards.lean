/-
  DERIVED. GIVEN WITH THE SEED: THE CARDS: each row of YtgbkjicpmjncaaaDoorRows.lean that lists a variable, with what it lists TIED to the program's text (the seventh form; the later family's looks); each row that meets fmt, with fmt's text TOLD by the authors' own Lean function (tested against real Go, not proved from fmt's source: count such statements apart). THE CARD IS WHAT COUNTS. Prove the row's statement (the work); the ties are given (YtgbkjicpmjncaaaDoorTie.lean); close each card by the builder's one call (the guide's Derived/Test/ToyasCard.lean, 'card_holds'). Laid BY PROGRAM, IN A SANDBOX (cutbox-door.mjs). By AI agents, Wed Nov 11 2026. No macro, syntax, notation, axiom, sorry.
-/
import Derived.Test.YtgbkjicpmjncaaaDoorRows
import GoSem.ClaimSeven
namespace Go.Proofs.YtgbkjicpmjncaaaDoor
namespace Rows

/-- THE TIED CARD OF 'dominolaw10.RsagroupClosed'. -/
def rsagroupClosedCard : Claim7 := { stood := { row := rsagroupClosedRow, standIns := [], harness := (true, "0e71a51b32ffebc51de3e9334d079447e62e9199867d2efc4a37ffac338e5121"), looks := false }, kinds := [], alts := [], laidByText := true, laidKinds := [.data], laidTests := true, laidLooks := .later }
def RsagroupClosedCardSaid : Prop := Claim7.holds Tryd.pinned (.plain (OpenSpec.ofChange rsagroupClosedSpec)) rsagroupClosedCard

/-- THE TIED CARD OF 'dominolaw10.RsagroupCounts'. -/
def rsagroupCountsCard : Claim7 := { stood := { row := rsagroupCountsRow, standIns := [], harness := (true, "0e71a51b32ffebc51de3e9334d079447e62e9199867d2efc4a37ffac338e5121"), looks := false }, kinds := [], alts := [], laidByText := true, laidKinds := [.data], laidTests := true, laidLooks := .later }
def RsagroupCountsCardSaid : Prop := Claim7.holds Tryd.pinned (.plain (OpenSpec.ofChange rsagroupCountsSpec)) rsagroupCountsCard

/-- THE SECOND FORM's CARD OF 'dominolaw10.RsagroupClosed'. -/
def rsagroupClosedUptoCard : Claim7 := { stood := { row := rsagroupClosedUptoRow, standIns := [], harness := (true, "0e71a51b32ffebc51de3e9334d079447e62e9199867d2efc4a37ffac338e5121"), looks := false }, kinds := [], alts := [], laidByText := true, laidKinds := [.data], laidTests := true, laidLooks := .later }
def RsagroupClosedUptoCardSaid : Prop := Claim7.holds Tryd.pinned (.plain (OpenSpec.upto rsagroupClosedSpec)) rsagroupClosedUptoCard

/-- THE SECOND FORM's CARD OF 'dominolaw10.RsagroupCounts'. -/
def rsagroupCountsUptoCard : Claim7 := { stood := { row := rsagroupCountsUptoRow, standIns := [], harness := (true, "0e71a51b32ffebc51de3e9334d079447e62e9199867d2efc4a37ffac338e5121"), looks := false }, kinds := [], alts := [], laidByText := true, laidKinds := [.data], laidTests := true, laidLooks := .later }
def RsagroupCountsUptoCardSaid : Prop := Claim7.holds Tryd.pinned (.plain (OpenSpec.upto rsagroupCountsSpec)) rsagroupCountsUptoCard
end Rows
end Go.Proofs.YtgbkjicpmjncaaaDoor
