/- The law ParamsGroups, closed: for every number of bits and every tape the law returns true, and each argument reads as before. Condition: the listed tables of math/bits and internal/strconv are tied to the program's text by the card. -/
import Derived.Test.YtdajbcohmnmbpaaGreatDoorGI
import Derived.Test.YtdajbcohmnmbpaaGreatDoorCards
import Derived.Test.YtdajbcohmnmbpaaGreatDoorTie
import Derived.SevenTiedAt
namespace Go.Proofs.YtdajbcohmnmbpaaGreatDoor
open Go
set_option maxRecDepth 100000
set_option maxHeartbeats 4000000
theorem paramsGroups_card : Rows.ParamsGroupsCardSaid :=
  Claim7.holds_tied_plain_at .later [] [.data, .data, .data] true (true, "f8ef4a2d2ab337e3e8602b8c121a47e4764501d3f86a3acf047e000887ae4086") false
    paramsGroups_said (fun _ h => by cases h) (by as_aux_lemma => kernel_rfl) (fun _ h => by cases h) paramsGroups_row_tie rfl ⟨rfl, rfl⟩ (by as_aux_lemma => kernel_rfl) rfl
    (fun f fn hf hfn => by
      obtain rfl : f = 3 := Option.some.inj ((show Tryz.prog.funcNamed "domino/dominolaw11.ParamsGroups" = some 3 by kernel_rfl).symm.trans hf) |>.symm
      obtain rfl : fn = Tryz.f3 := (Option.some.inj (Tryz.func3.symm.trans hfn)).symm
      exact ⟨by as_aux_lemma => kernel_rfl, fun j t ht => by
        rw [Tryz.params3] at ht
        have hm : t ∈ [3, 24] := by simpa using Array.mem_of_getElem? ht
        have hall : ([3, 24].all fun u => !Tryz.prog.wantsStandIn u) = true := by kernel_rfl
        exact (show Tryz.prog.wantsStandIn t = false by simpa using List.all_eq_true.1 hall t hm)⟩)
    (by as_aux_lemma => kernel_rfl)
#print axioms paramsGroups_card
end Go.Proofs.YtdajbcohmnmbpaaGreatDoor
