/- The law AccumulatorValues, closed: for every input the law returns true, and each argument reads as before. Condition: the listed table of math/bits is tied to the program's text by the card. -/
import Derived.Test.YtlppcnjaacbhpaaGreatDoorV5
import Derived.Test.YtlppcnjaacbhpaaGreatDoorCards
import Derived.Test.YtlppcnjaacbhpaaGreatDoorTie
import Derived.SevenTiedAt
namespace Go.Proofs.YtlppcnjaacbhpaaGreatDoor
open Go
set_option maxRecDepth 100000
theorem accumulatorValues_card : Rows.AccumulatorValuesCardSaid :=
  Claim7.holds_tied_plain_at .later [] [.data] true (true, "b4e8a04a4a353dc82a018b4cb484e076cacfdd2eb54669318c8a90f8a2ca045f") false
    accumulatorValues_said (fun _ h => by cases h) (by kernel_rfl) (fun _ h => by cases h) accumulatorValues_row_tie rfl ⟨rfl, rfl⟩ (by kernel_rfl) rfl
    (fun f fn hf hfn => by
      obtain rfl : f = 3 := Option.some.inj ((show Tryz.prog.funcNamed "domino/dominolaw35.AccumulatorValues" = some 3 by kernel_rfl).symm.trans hf) |>.symm
      obtain rfl : fn = Tryz.f3 := (Option.some.inj (Tryz.func3.symm.trans hfn)).symm
      exact ⟨by kernel_rfl, fun j t ht => by
        rw [Tryz.params3] at ht
        have hm : t ∈ [27, 25, 22] := by simpa using Array.mem_of_getElem? ht
        have hall : ([27, 25, 22].all fun u => !Tryz.prog.wantsStandIn u) = true := by kernel_rfl
        exact (show Tryz.prog.wantsStandIn t = false by simpa using List.all_eq_true.1 hall t hm)⟩)
    (by kernel_rfl)
#print axioms accumulatorValues_card
end Go.Proofs.YtlppcnjaacbhpaaGreatDoor
