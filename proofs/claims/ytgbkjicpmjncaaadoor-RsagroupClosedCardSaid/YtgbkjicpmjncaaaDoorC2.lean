/- The law RsagroupClosed, closed: for every group, trapdoor and two numbers the law returns true, and each argument reads as before. Condition: the listed table of math/bits is tied to the program's text by the card. -/
import Derived.Test.YtgbkjicpmjncaaaDoorQ2
import Derived.Test.YtgbkjicpmjncaaaDoorCards
import Derived.Test.YtgbkjicpmjncaaaDoorTie
import Derived.SevenTiedAt
namespace Go.Proofs.YtgbkjicpmjncaaaDoor
open Go
set_option maxRecDepth 100000
theorem rsagroupClosed_card : Rows.RsagroupClosedCardSaid :=
  Claim7.holds_tied_plain_at .later [] [.data] true (true, "0e71a51b32ffebc51de3e9334d079447e62e9199867d2efc4a37ffac338e5121") false
    rsagroupClosed_said (fun _ h => by cases h) (by kernel_rfl) (fun _ h => by cases h) rsagroupClosed_row_tie rfl ⟨rfl, rfl⟩ (by kernel_rfl) rfl
    (fun f fn hf hfn => by
      obtain rfl : f = 3 := Option.some.inj ((show Tryd.prog.funcNamed "domino/dominolaw10.RsagroupClosed" = some 3 by kernel_rfl).symm.trans hf) |>.symm
      obtain rfl : fn = Tryd.f3 := (Option.some.inj (Tryd.func3.symm.trans hfn)).symm
      exact ⟨by kernel_rfl, fun j t ht => by
        rw [Tryd.params3] at ht
        have hm : t ∈ [28, 22] := by simpa using Array.mem_of_getElem? ht
        have hall : ([28, 22].all fun u => !Tryd.prog.wantsStandIn u) = true := by kernel_rfl
        exact (show Tryd.prog.wantsStandIn t = false by simpa using List.all_eq_true.1 hall t hm)⟩)
    (by kernel_rfl)
#print axioms rsagroupClosed_card
end Go.Proofs.YtgbkjicpmjncaaaDoor
