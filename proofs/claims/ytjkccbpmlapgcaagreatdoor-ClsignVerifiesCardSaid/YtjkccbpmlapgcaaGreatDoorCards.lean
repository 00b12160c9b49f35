/-
  DERIVED. GIVEN WITH THE SEED: THE CARDS: each row of YtjkccbpmlapgcaaGreatDoorRows.lean that lists a variable, with what it lists TIED to the program's text (the seventh form; the later family's looks); each row that meets fmt, with fmt's text TOLD by the authors' own Lean function (tested against real Go, not proved from fmt's source: count such statements apart). THE CARD IS WHAT COUNTS. Prove the row's statement (the work); the ties are given (YtjkccbpmlapgcaaGreatDoorTie.lean); close each card by the builder's one call (the guide's Derived/Test/ToyasCard.lean, 'card_holds'). Laid BY PROGRAM, IN A SANDBOX (cutbox-door.mjs). By AI agents, Wed Nov 11 2026. No macro, syntax, notation, axiom, sorry.
-/
import Derived.Test.YtjkccbpmlapgcaaGreatDoorRows
import GoSem.ClaimSeven
namespace Go.Proofs.YtjkccbpmlapgcaaGreatDoor
namespace Rows

/-- THE TIED CARD OF 'dominolaw30.ClsignMessages'. -/
def clsignMessagesCard : Claim7 := { stood := { row := clsignMessagesRow, standIns := [], harness := (true, "887d12a587de5daeaccdf86d869d1d712605c655c3c7bc41ab4d2f545ea7ea31"), looks := false }, kinds := [], alts := [], laidByText := true, laidKinds := [.data, .data, .data], laidTests := true, laidLooks := .later }
def ClsignMessagesCardSaid : Prop := Claim7.holds Tryz.pinned (.plain (OpenSpec.ofChange clsignMessagesSpec)) clsignMessagesCard

/-- THE TIED CARD OF 'dominolaw30.ClsignVerifies'. -/
def clsignVerifiesCard : Claim7 := { stood := { row := clsignVerifiesRow, standIns := [], harness := (true, "887d12a587de5daeaccdf86d869d1d712605c655c3c7bc41ab4d2f545ea7ea31"), looks := false }, kinds := [], alts := [], laidByText := true, laidKinds := [.data, .data, .data], laidTests := true, laidLooks := .later }
def ClsignVerifiesCardSaid : Prop := Claim7.holds Tryz.pinned (.plain (OpenSpec.ofChange clsignVerifiesSpec)) clsignVerifiesCard

/-- THE SECOND FORM's CARD OF 'dominolaw30.ClsignMessages'. -/
def clsignMessagesUptoCard : Claim7 := { stood := { row := clsignMessagesUptoRow, standIns := [], harness := (true, "887d12a587de5daeaccdf86d869d1d712605c655c3c7bc41ab4d2f545ea7ea31"), looks := false }, kinds := [], alts := [], laidByText := true, laidKinds := [.data, .data, .data], laidTests := true, laidLooks := .later }
def ClsignMessagesUptoCardSaid : Prop := Claim7.holds Tryz.pinned (.plain (OpenSpec.upto clsignMessagesSpec)) clsignMessagesUptoCard

/-- THE SECOND FORM's CARD OF 'dominolaw30.ClsignVerifies'. -/
def clsignVerifiesUptoCard : Claim7 := { stood := { row := clsignVerifiesUptoRow, standIns := [], harness := (true, "887d12a587de5daeaccdf86d869d1d712605c655c3c7bc41ab4d2f545ea7ea31"), looks := false }, kinds := [], alts := [], laidByText := true, laidKinds := [.data, .data, .data], laidTests := true, laidLooks := .later }
def ClsignVerifiesUptoCardSaid : Prop := Claim7.holds Tryz.pinned (.plain (OpenSpec.upto clsignVerifiesSpec)) clsignVerifiesUptoCard
end Rows
end Go.Proofs.YtjkccbpmlapgcaaGreatDoor
