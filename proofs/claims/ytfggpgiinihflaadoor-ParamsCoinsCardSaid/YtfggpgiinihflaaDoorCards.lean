/-
  DERIVED. GIVEN WITH THE SEED: THE CARDS: each row of YtfggpgiinihflaaDoorRows.lean that lists a variable, with what it lists TIED to the program's text (the seventh form; the later family's looks); each row that meets fmt, with fmt's text TOLD by the authors' own Lean function (tested against real Go, not proved from fmt's source: count such statements apart). THE CARD IS WHAT COUNTS. Prove the row's statement (the work); the ties are given (YtfggpgiinihflaaDoorTie.lean); close each card by the builder's one call (the guide's Derived/Test/ToyasCard.lean, 'card_holds'). Laid BY PROGRAM, IN A SANDBOX (cutbox-door.mjs). By AI agents, Wed Nov 11 2026. No macro, syntax, notation, axiom, sorry.
-/
import Derived.Test.YtfggpgiinihflaaDoorRows
import GoSem.ClaimSeven
namespace Go.Proofs.YtfggpgiinihflaaDoor
namespace Rows

/-- THE TIED CARD OF 'dominolaw11.ParamsBits'. -/
def paramsBitsCard : Claim7 := { stood := { row := paramsBitsRow, standIns := [], harness := (true, "d4d553dd152a779d0d9042ca5fc2e0a075721da56a6ec31dae3193e855972ddd"), looks := false }, kinds := [], alts := [], laidByText := true, laidKinds := [.data, .data, .data], laidTests := true, laidLooks := .later }
def ParamsBitsCardSaid : Prop := Claim7.holds Tryd.pinned (.plain (OpenSpec.ofChange paramsBitsSpec)) paramsBitsCard

/-- THE TIED CARD OF 'dominolaw11.ParamsCoins'. -/
def paramsCoinsCard : Claim7 := { stood := { row := paramsCoinsRow, standIns := [], harness := (true, "d4d553dd152a779d0d9042ca5fc2e0a075721da56a6ec31dae3193e855972ddd"), looks := false }, kinds := [], alts := [], laidByText := true, laidKinds := [.data, .data, .data], laidTests := true, laidLooks := .later }
def ParamsCoinsCardSaid : Prop := Claim7.holds Tryd.pinned (.plain (OpenSpec.ofChange paramsCoinsSpec)) paramsCoinsCard

/-- THE TIED CARD OF 'dominolaw11.ParamsWhole'. -/
def paramsWholeCard : Claim7 := { stood := { row := paramsWholeRow, standIns := [], harness := (true, "d4d553dd152a779d0d9042ca5fc2e0a075721da56a6ec31dae3193e855972ddd"), looks := false }, kinds := [], alts := [], laidByText := true, laidKinds := [.data, .data, .data], laidTests := true, laidLooks := .later }
def ParamsWholeCardSaid : Prop := Claim7.holds Tryd.pinned (.plain (OpenSpec.ofChange paramsWholeSpec)) paramsWholeCard

/-- THE TIED CARD OF 'dominolaw11.ParamsOrders'. -/
def paramsOrdersCard : Claim7 := { stood := { row := paramsOrdersRow, standIns := [], harness := (true, "d4d553dd152a779d0d9042ca5fc2e0a075721da56a6ec31dae3193e855972ddd"), looks := false }, kinds := [], alts := [], laidByText := true, laidKinds := [.data, .data, .data], laidTests := true, laidLooks := .later }
def ParamsOrdersCardSaid : Prop := Claim7.holds Tryd.pinned (.plain (OpenSpec.ofChange paramsOrdersSpec)) paramsOrdersCard

/-- THE SECOND FORM's CARD OF 'dominolaw11.ParamsBits'. -/
def paramsBitsUptoCard : Claim7 := { stood := { row := paramsBitsUptoRow, standIns := [], harness := (true, "d4d553dd152a779d0d9042ca5fc2e0a075721da56a6ec31dae3193e855972ddd"), looks := false }, kinds := [], alts := [], laidByText := true, laidKinds := [.data, .data, .data], laidTests := true, laidLooks := .later }
def ParamsBitsUptoCardSaid : Prop := Claim7.holds Tryd.pinned (.plain (OpenSpec.upto paramsBitsSpec)) paramsBitsUptoCard

/-- THE SECOND FORM's CARD OF 'dominolaw11.ParamsCoins'. -/
def paramsCoinsUptoCard : Claim7 := { stood := { row := paramsCoinsUptoRow, standIns := [], harness := (true, "d4d553dd152a779d0d9042ca5fc2e0a075721da56a6ec31dae3193e855972ddd"), looks := false }, kinds := [], alts := [], laidByText := true, laidKinds := [.data, .data, .data], laidTests := true, laidLooks := .later }
def ParamsCoinsUptoCardSaid : Prop := Claim7.holds Tryd.pinned (.plain (OpenSpec.upto paramsCoinsSpec)) paramsCoinsUptoCard

/-- THE SECOND FORM's CARD OF 'dominolaw11.ParamsWhole'. -/
def paramsWholeUptoCard : Claim7 := { stood := { row := paramsWholeUptoRow, standIns := [], harness := (true, "d4d553dd152a779d0d9042ca5fc2e0a075721da56a6ec31dae3193e855972ddd"), looks := false }, kinds := [], alts := [], laidByText := true, laidKinds := [.data, .data, .data], laidTests := true, laidLooks := .later }
def ParamsWholeUptoCardSaid : Prop := Claim7.holds Tryd.pinned (.plain (OpenSpec.upto paramsWholeSpec)) paramsWholeUptoCard

/-- THE SECOND FORM's CARD OF 'dominolaw11.ParamsOrders'. -/
def paramsOrdersUptoCard : Claim7 := { stood := { row := paramsOrdersUptoRow, standIns := [], harness := (true, "d4d553dd152a779d0d9042ca5fc2e0a075721da56a6ec31dae3193e855972ddd"), looks := false }, kinds := [], alts := [], laidByText := true, laidKinds := [.data, .data, .data], laidTests := true, laidLooks := .later }
def ParamsOrdersUptoCardSaid : Prop := Claim7.holds Tryd.pinned (.plain (OpenSpec.upto paramsOrdersSpec)) paramsOrdersUptoCard
end Rows
end Go.Proofs.YtfggpgiinihflaaDoor
