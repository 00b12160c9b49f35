/-
  DERIVED. GIVEN WITH THE SEED: THE CARDS: each row of YtlppcnjaacbhpaaGreatDoorRows.lean that lists a variable, with what it lists TIED to the program's text (the seventh form; the later family's looks); each row that meets fmt, with fmt's text TOLD by the authors' own Lean function (tested against real Go, not proved from fmt's source: count such statements apart). THE CARD IS WHAT COUNTS. Prove the row's statement (the work); the ties are given (YtlppcnjaacbhpaaGreatDoorTie.lean); close each card by the builder's one call (the guide's Derived/Test/ToyasCard.lean, 'card_holds'). Laid BY PROGRAM, IN A SANDBOX (cutbox-door.mjs). By AI agents, Wed Nov 11 2026. No macro, syntax, notation, axiom, sorry.
-/
import Derived.Test.YtlppcnjaacbhpaaGreatDoorRows
import GoSem.ClaimSeven
namespace Go.Proofs.YtlppcnjaacbhpaaGreatDoor
namespace Rows

/-- THE TIED CARD OF 'dominolaw35.AccumulatorValues'. -/
def accumulatorValuesCard : Claim7 := { stood := { row := accumulatorValuesRow, standIns := [], harness := (true, "b4e8a04a4a353dc82a018b4cb484e076cacfdd2eb54669318c8a90f8a2ca045f"), looks := false }, kinds := [], alts := [], laidByText := true, laidKinds := [.data], laidTests := true, laidLooks := .later }
def AccumulatorValuesCardSaid : Prop := Claim7.holds Tryz.pinned (.plain (OpenSpec.ofChange accumulatorValuesSpec)) accumulatorValuesCard

/-- THE TIED CARD OF 'dominolaw35.AccumulatorOrders'. -/
def accumulatorOrdersCard : Claim7 := { stood := { row := accumulatorOrdersRow, standIns := [], harness := (true, "b4e8a04a4a353dc82a018b4cb484e076cacfdd2eb54669318c8a90f8a2ca045f"), looks := false }, kinds := [], alts := [], laidByText := true, laidKinds := [.data], laidTests := true, laidLooks := .later }
def AccumulatorOrdersCardSaid : Prop := Claim7.holds Tryz.pinned (.plain (OpenSpec.ofChange accumulatorOrdersSpec)) accumulatorOrdersCard

/-- THE TIED CARD OF 'dominolaw35.AccumulatorUnique'. -/
def accumulatorUniqueCard : Claim7 := { stood := { row := accumulatorUniqueRow, standIns := [], harness := (true, "b4e8a04a4a353dc82a018b4cb484e076cacfdd2eb54669318c8a90f8a2ca045f"), looks := false }, kinds := [], alts := [], laidByText := true, laidKinds := [.data], laidTests := true, laidLooks := .later }
def AccumulatorUniqueCardSaid : Prop := Claim7.holds Tryz.pinned (.plain (OpenSpec.ofChange accumulatorUniqueSpec)) accumulatorUniqueCard

/-- THE TIED CARD OF 'dominolaw35.AccumulatorProves'. -/
def accumulatorProvesCard : Claim7 := { stood := { row := accumulatorProvesRow, standIns := [], harness := (true, "b4e8a04a4a353dc82a018b4cb484e076cacfdd2eb54669318c8a90f8a2ca045f"), looks := false }, kinds := [], alts := [], laidByText := true, laidKinds := [.data], laidTests := true, laidLooks := .later }
def AccumulatorProvesCardSaid : Prop := Claim7.holds Tryz.pinned (.plain (OpenSpec.ofChange accumulatorProvesSpec)) accumulatorProvesCard

/-- THE SECOND FORM's CARD OF 'dominolaw35.AccumulatorValues'. -/
def accumulatorValuesUptoCard : Claim7 := { stood := { row := accumulatorValuesUptoRow, standIns := [], harness := (true, "b4e8a04a4a353dc82a018b4cb484e076cacfdd2eb54669318c8a90f8a2ca045f"), looks := false }, kinds := [], alts := [], laidByText := true, laidKinds := [.data], laidTests := true, laidLooks := .later }
def AccumulatorValuesUptoCardSaid : Prop := Claim7.holds Tryz.pinned (.plain (OpenSpec.upto accumulatorValuesSpec)) accumulatorValuesUptoCard

/-- THE SECOND FORM's CARD OF 'dominolaw35.AccumulatorOrders'. -/
def accumulatorOrdersUptoCard : Claim7 := { stood := { row := accumulatorOrdersUptoRow, standIns := [], harness := (true, "b4e8a04a4a353dc82a018b4cb484e076cacfdd2eb54669318c8a90f8a2ca045f"), looks := false }, kinds := [], alts := [], laidByText := true, laidKinds := [.data], laidTests := true, laidLooks := .later }
def AccumulatorOrdersUptoCardSaid : Prop := Claim7.holds Tryz.pinned (.plain (OpenSpec.upto accumulatorOrdersSpec)) accumulatorOrdersUptoCard

/-- THE SECOND FORM's CARD OF 'dominolaw35.AccumulatorUnique'. -/
def accumulatorUniqueUptoCard : Claim7 := { stood := { row := accumulatorUniqueUptoRow, standIns := [], harness := (true, "b4e8a04a4a353dc82a018b4cb484e076cacfdd2eb54669318c8a90f8a2ca045f"), looks := false }, kinds := [], alts := [], laidByText := true, laidKinds := [.data], laidTests := true, laidLooks := .later }
def AccumulatorUniqueUptoCardSaid : Prop := Claim7.holds Tryz.pinned (.plain (OpenSpec.upto accumulatorUniqueSpec)) accumulatorUniqueUptoCard

/-- THE SECOND FORM's CARD OF 'dominolaw35.AccumulatorProves'. -/
def accumulatorProvesUptoCard : Claim7 := { stood := { row := accumulatorProvesUptoRow, standIns := [], harness := (true, "b4e8a04a4a353dc82a018b4cb484e076cacfdd2eb54669318c8a90f8a2ca045f"), looks := false }, kinds := [], alts := [], laidByText := true, laidKinds := [.data], laidTests := true, laidLooks := .later }
def AccumulatorProvesUptoCardSaid : Prop := Claim7.holds Tryz.pinned (.plain (OpenSpec.upto accumulatorProvesSpec)) accumulatorProvesUptoCard
end Rows
end Go.Proofs.YtlppcnjaacbhpaaGreatDoor
