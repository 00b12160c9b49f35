/-
  DERIVED. GIVEN WITH THE SEED: THE CARDS: each row of YtfggpgiinihflaaGreatDoorRows.lean that lists a variable, with what it lists TIED to the program's text (the seventh form; the later family's looks); each row that meets fmt, with fmt's text TOLD by the authors' own Lean function (tested against real Go, not proved from fmt's source: count such statements apart). THE CARD IS WHAT COUNTS. Prove the row's statement (the work); the ties are given (YtfggpgiinihflaaGreatDoorTie.lean); close each card by the builder's one call (the guide's Derived/Test/ToyasCard.lean, 'card_holds'). Laid BY PROGRAM, IN A SANDBOX (cutbox-door.mjs). By AI agents, Wed Nov 11 2026. No macro, syntax, notation, axiom, sorry.
-/
import Derived.Test.YtfggpgiinihflaaGreatDoorRows
import GoSem.ClaimSeven
namespace Go.Proofs.YtfggpgiinihflaaGreatDoor
namespace Rows

/-- THE TIED CARD OF 'dominolaw11.ParamsPrimes'. -/
def paramsPrimesCard : Claim7 := { stood := { row := paramsPrimesRow, standIns := [], harness := (true, "32e885615e53447e9cae1b2a56a7d72b5f2339953d476b443ed2d6494f99a3cb"), looks := false }, kinds := [], alts := [], laidByText := true, laidKinds := [.data, .data, .data], laidTests := true, laidLooks := .later }
def ParamsPrimesCardSaid : Prop := Claim7.holds Tryz.pinned (.plain (OpenSpec.ofChange paramsPrimesSpec)) paramsPrimesCard

/-- THE TIED CARD OF 'dominolaw11.ParamsGroups'. -/
def paramsGroupsCard : Claim7 := { stood := { row := paramsGroupsRow, standIns := [], harness := (true, "32e885615e53447e9cae1b2a56a7d72b5f2339953d476b443ed2d6494f99a3cb"), looks := false }, kinds := [], alts := [], laidByText := true, laidKinds := [.data, .data, .data], laidTests := true, laidLooks := .later }
def ParamsGroupsCardSaid : Prop := Claim7.holds Tryz.pinned (.plain (OpenSpec.ofChange paramsGroupsSpec)) paramsGroupsCard

/-- THE TIED CARD OF 'dominolaw11.ParamsChecks'. -/
def paramsChecksCard : Claim7 := { stood := { row := paramsChecksRow, standIns := [], harness := (true, "32e885615e53447e9cae1b2a56a7d72b5f2339953d476b443ed2d6494f99a3cb"), looks := false }, kinds := [], alts := [], laidByText := true, laidKinds := [.data, .data, .data], laidTests := true, laidLooks := .later }
def ParamsChecksCardSaid : Prop := Claim7.holds Tryz.pinned (.plain (OpenSpec.ofChange paramsChecksSpec)) paramsChecksCard

/-- THE TIED CARD OF 'dominolaw11.ParamsGrow'. -/
def paramsGrowCard : Claim7 := { stood := { row := paramsGrowRow, standIns := [], harness := (true, "32e885615e53447e9cae1b2a56a7d72b5f2339953d476b443ed2d6494f99a3cb"), looks := false }, kinds := [], alts := [], laidByText := true, laidKinds := [.data, .data, .data], laidTests := true, laidLooks := .later }
def ParamsGrowCardSaid : Prop := Claim7.holds Tryz.pinned (.plain (OpenSpec.ofChange paramsGrowSpec)) paramsGrowCard

/-- THE SECOND FORM's CARD OF 'dominolaw11.ParamsPrimes'. -/
def paramsPrimesUptoCard : Claim7 := { stood := { row := paramsPrimesUptoRow, standIns := [], harness := (true, "32e885615e53447e9cae1b2a56a7d72b5f2339953d476b443ed2d6494f99a3cb"), looks := false }, kinds := [], alts := [], laidByText := true, laidKinds := [.data, .data, .data], laidTests := true, laidLooks := .later }
def ParamsPrimesUptoCardSaid : Prop := Claim7.holds Tryz.pinned (.plain (OpenSpec.upto paramsPrimesSpec)) paramsPrimesUptoCard

/-- THE SECOND FORM's CARD OF 'dominolaw11.ParamsGroups'. -/
def paramsGroupsUptoCard : Claim7 := { stood := { row := paramsGroupsUptoRow, standIns := [], harness := (true, "32e885615e53447e9cae1b2a56a7d72b5f2339953d476b443ed2d6494f99a3cb"), looks := false }, kinds := [], alts := [], laidByText := true, laidKinds := [.data, .data, .data], laidTests := true, laidLooks := .later }
def ParamsGroupsUptoCardSaid : Prop := Claim7.holds Tryz.pinned (.plain (OpenSpec.upto paramsGroupsSpec)) paramsGroupsUptoCard

/-- THE SECOND FORM's CARD OF 'dominolaw11.ParamsChecks'. -/
def paramsChecksUptoCard : Claim7 := { stood := { row := paramsChecksUptoRow, standIns := [], harness := (true, "32e885615e53447e9cae1b2a56a7d72b5f2339953d476b443ed2d6494f99a3cb"), looks := false }, kinds := [], alts := [], laidByText := true, laidKinds := [.data, .data, .data], laidTests := true, laidLooks := .later }
def ParamsChecksUptoCardSaid : Prop := Claim7.holds Tryz.pinned (.plain (OpenSpec.upto paramsChecksSpec)) paramsChecksUptoCard

/-- THE SECOND FORM's CARD OF 'dominolaw11.ParamsGrow'. -/
def paramsGrowUptoCard : Claim7 := { stood := { row := paramsGrowUptoRow, standIns := [], harness := (true, "32e885615e53447e9cae1b2a56a7d72b5f2339953d476b443ed2d6494f99a3cb"), looks := false }, kinds := [], alts := [], laidByText := true, laidKinds := [.data, .data, .data], laidTests := true, laidLooks := .later }
def ParamsGrowUptoCardSaid : Prop := Claim7.holds Tryz.pinned (.plain (OpenSpec.upto paramsGrowSpec)) paramsGrowUptoCard
end Rows
end Go.Proofs.YtfggpgiinihflaaGreatDoor
