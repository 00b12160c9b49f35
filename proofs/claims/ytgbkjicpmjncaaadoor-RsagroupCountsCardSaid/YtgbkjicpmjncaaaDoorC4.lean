/- The law RsagroupCounts, closed: for every group and trapdoor the law returns true, and each argument reads as before. Condition: the listed table of math/bits is tied to the program's text by the card. -/
import Derived.Test.YtgbkjicpmjncaaaDoorQ4
import Derived.Test.YtgbkjicpmjncaaaDoorCards
import Derived.Test.YtgbkjicpmjncaaaDoorTie
import Derived.SevenTiedAt
namespace Go.Proofs.YtgbkjicpmjncaaaDoor
open Go
set_option maxRecDepth 100000
theorem rsagroupCounts_card : Rows.RsagroupCountsCardSaid :=
  Claim7.holds_tied_plain_at .later [] [.data] true (true, "0e71a51b32ffebc51de3e9334d079447e62e9199867d2efc4a37ffac338e5121") false
    rsagroupCounts_said (fun _ h => by cases h) (by kernel_rfl) (fun _ h => by cases h) rsagroupCounts_row_tie rfl ⟨rfl, rfl⟩ (by kernel_rfl) rfl
    (fun f fn hf hfn => by
      obtain rfl : f = 4 := Option.some.inj ((show Tryd.prog.funcNamed "domino/dominolaw10.RsagroupCounts" = some 4 by kernel_rfl).symm.trans hf) |>.symm
      obtain rfl : fn = Tryd.f4 := (Option.some.inj (Tryd.func4.symm.trans hfn)).symm
      exact ⟨by kernel_rfl, fun j t ht => by
        rw [Tryd.params4] at ht
        have hm : t ∈ [24, 26] := by simpa using Array.mem_of_getElem? ht
        have hall : ([24, 26].all fun u => !Tryd.prog.wantsStandIn u) = true := by kernel_rfl
        exact (show Tryd.prog.wantsStandIn t = false by simpa using List.all_eq_true.1 hall t hm)⟩)
    (by kernel_rfl)
#print axioms rsagroupCounts_card
end Go.Proofs.YtgbkjicpmjncaaaDoor
