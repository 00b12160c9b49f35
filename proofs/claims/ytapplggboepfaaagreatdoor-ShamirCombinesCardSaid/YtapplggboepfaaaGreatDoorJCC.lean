/- The law ShamirCombines, closed: for all arguments the law returns true, and each argument reads as before. Condition: the listed tables of math/bits and internal/strconv are tied to the program's text by the card. -/
import Derived.Test.YtapplggboepfaaaGreatDoorJCR
import Derived.Test.YtapplggboepfaaaGreatDoorCards
import Derived.Test.YtapplggboepfaaaGreatDoorTie
import Derived.SevenTiedAt
namespace Go.Proofs.YtapplggboepfaaaGreatDoor
open Go
set_option maxRecDepth 100000
set_option maxHeartbeats 4000000
theorem shamirCombines_card : Rows.ShamirCombinesCardSaid :=
  Claim7.holds_tied_plain_at .later [] [.data, .data, .data] true (true, "05c144a7ee29a98fbbd39aae36986f6b667d27c965db92ea45d85d743e6aeaaf") false
    shamirCombines_said (fun _ h => by cases h) (by as_aux_lemma => kernel_rfl) (fun _ h => by cases h) shamirCombines_row_tie rfl ⟨rfl, rfl⟩ (by as_aux_lemma => kernel_rfl) rfl
    (fun f fn hf hfn => by
      obtain rfl : f = 4 := Option.some.inj ((show Tryz.prog.funcNamed "domino/dominolaw19.ShamirCombines" = some 4 by kernel_rfl).symm.trans hf) |>.symm
      obtain rfl : fn = Tryz.f4 := (Option.some.inj (Tryz.func4.symm.trans hfn)).symm
      exact ⟨by as_aux_lemma => kernel_rfl, fun j t ht => by
        rw [Tryz.params4] at ht
        have hm : t ∈ [25, 38, 28] := by simpa using Array.mem_of_getElem? ht
        have hall : ([25, 38, 28].all fun u => !Tryz.prog.wantsStandIn u) = true := by kernel_rfl
        exact (show Tryz.prog.wantsStandIn t = false by simpa using List.all_eq_true.1 hall t hm)⟩)
    (by as_aux_lemma => kernel_rfl)
#print axioms shamirCombines_card
end Go.Proofs.YtapplggboepfaaaGreatDoor
