/- The law ParamsCoins, closed: for every number of bits and every tape the law returns true, and each argument reads as before. Condition: the listed tables of math/bits and internal/strconv are tied to the program's text by the card. -/
import Derived.Test.YtfggpgiinihflaaDoorZI
import Derived.Test.YtfggpgiinihflaaDoorCards
import Derived.Test.YtfggpgiinihflaaDoorTie
import Derived.SevenTiedAt
namespace Go.Proofs.YtfggpgiinihflaaDoor
open Go
set_option maxRecDepth 100000
theorem paramsCoins_card : Rows.ParamsCoinsCardSaid :=
  Claim7.holds_tied_plain_at .later [] [.data, .data, .data] true (true, "d4d553dd152a779d0d9042ca5fc2e0a075721da56a6ec31dae3193e855972ddd") false
    paramsCoins_said (fun _ h => by cases h) (by kernel_rfl) (fun _ h => by cases h) paramsCoins_row_tie rfl ⟨rfl, rfl⟩ (by kernel_rfl) rfl
    (fun f fn hf hfn => by
      obtain rfl : f = 4 := Option.some.inj ((show Tryd.prog.funcNamed "domino/dominolaw11.ParamsCoins" = some 4 by kernel_rfl).symm.trans hf) |>.symm
      obtain rfl : fn = Tryd.f4 := (Option.some.inj (Tryd.func4.symm.trans hfn)).symm
      exact ⟨by kernel_rfl, fun j t ht => by
        rw [Tryd.params4] at ht
        have hm : t ∈ [3, 24] := by simpa using Array.mem_of_getElem? ht
        have hall : ([3, 24].all fun u => !Tryd.prog.wantsStandIn u) = true := by kernel_rfl
        exact (show Tryd.prog.wantsStandIn t = false by simpa using List.all_eq_true.1 hall t hm)⟩)
    (by kernel_rfl)
#print axioms paramsCoins_card
end Go.Proofs.YtfggpgiinihflaaDoor
