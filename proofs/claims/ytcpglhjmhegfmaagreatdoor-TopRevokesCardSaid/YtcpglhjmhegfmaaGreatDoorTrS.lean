/- The law TopRevokes, closed: for every history the law returns true, and the argument reads as before. Condition: the listed table of math/bits is tied to the program's text by the card. -/
import Derived.Test.YtcpglhjmhegfmaaGreatDoorTrR
import Derived.Test.YtcpglhjmhegfmaaGreatDoorCards
import Derived.Test.YtcpglhjmhegfmaaGreatDoorTie
import Derived.SevenTiedAt
namespace Go.Proofs.YtcpglhjmhegfmaaGreatDoor
open Go
set_option maxRecDepth 100000
set_option maxHeartbeats 4000000
theorem topRevokes_card : Rows.TopRevokesCardSaid :=
  Claim7.holds_tied_plain_at .later [] [.data] true (true, "131092a94642dd57fa1f145dd9cf968062fcfa566adabb2bf616715f9ad8e067") false
    topRevokes_said (fun _ h => by cases h) (by as_aux_lemma => kernel_rfl) (fun _ h => by cases h) topRevokes_row_tie rfl ⟨rfl, rfl⟩ (by as_aux_lemma => kernel_rfl) rfl
    (fun f fn hf hfn => by
      obtain rfl : f = 3 := Option.some.inj ((show Tryz.prog.funcNamed "domino/dominotop.TopRevokes" = some 3 by kernel_rfl).symm.trans hf) |>.symm
      obtain rfl : fn = Tryz.f3 := (Option.some.inj (Tryz.func3.symm.trans hfn)).symm
      exact ⟨by as_aux_lemma => kernel_rfl, fun j t ht => by
        rw [Tryz.params3] at ht
        have hm : t ∈ [32] := by simpa using Array.mem_of_getElem? ht
        have hall : ([32].all fun u => !Tryz.prog.wantsStandIn u) = true := by kernel_rfl
        exact (show Tryz.prog.wantsStandIn t = false by simpa using List.all_eq_true.1 hall t hm)⟩)
    (by as_aux_lemma => kernel_rfl)
#print axioms topRevokes_card
end Go.Proofs.YtcpglhjmhegfmaaGreatDoor
