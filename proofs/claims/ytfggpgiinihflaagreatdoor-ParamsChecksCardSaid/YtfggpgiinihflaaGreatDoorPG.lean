/- The law ParamsChecks, closed: for all parameters the law returns true, and each argument reads as before. Condition: the listed tables of math/bits and internal/strconv are tied to the program's text by the card. -/
import Derived.Test.YtfggpgiinihflaaGreatDoorPF
import Derived.Test.YtfggpgiinihflaaGreatDoorCards
import Derived.Test.YtfggpgiinihflaaGreatDoorTie
import Derived.SevenTiedAt
namespace Go.Proofs.YtfggpgiinihflaaGreatDoor
open Go
set_option maxRecDepth 100000
theorem paramsChecks_card : Rows.ParamsChecksCardSaid :=
  Claim7.holds_tied_plain_at .later [] [.data, .data, .data] true (true, "32e885615e53447e9cae1b2a56a7d72b5f2339953d476b443ed2d6494f99a3cb") false
    paramsChecks_said (fun _ h => by cases h) (by kernel_rfl) (fun _ h => by cases h) paramsChecks_row_tie rfl ⟨rfl, rfl⟩ (by kernel_rfl) rfl
    (fun f fn hf hfn => by
      obtain rfl : f = 5 := Option.some.inj ((show Tryz.prog.funcNamed "domino/dominolaw11.ParamsChecks" = some 5 by kernel_rfl).symm.trans hf) |>.symm
      obtain rfl : fn = Tryz.f5 := (Option.some.inj (Tryz.func5.symm.trans hfn)).symm
      exact ⟨by kernel_rfl, fun j t ht => by
        rw [Tryz.params5] at ht
        have hm : t ∈ [53] := by simpa using Array.mem_of_getElem? ht
        have hall : ([53].all fun u => !Tryz.prog.wantsStandIn u) = true := by kernel_rfl
        exact (show Tryz.prog.wantsStandIn t = false by simpa using List.all_eq_true.1 hall t hm)⟩)
    (by kernel_rfl)
#print axioms paramsChecks_card
end Go.Proofs.YtfggpgiinihflaaGreatDoor
