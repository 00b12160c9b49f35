/- The law ShamirEvals, closed: for all points the law returns true, and the argument reads as before. Condition: the listed tables of math/bits and internal/strconv are tied to the program's text by the card. -/
import Derived.Test.YtlcmlbdgibjmlaaGreatDoorSt
import Derived.Test.YtlcmlbdgibjmlaaGreatDoorCards
import Derived.Test.YtlcmlbdgibjmlaaGreatDoorTie
import Derived.SevenTiedAt
namespace Go.Proofs.YtlcmlbdgibjmlaaGreatDoor
open Go
set_option maxRecDepth 100000
set_option maxHeartbeats 4000000
theorem shamirEvals_card : Rows.ShamirEvalsCardSaid :=
  Claim7.holds_tied_plain_at .later [] [.data, .data, .data] true (true, "f3eec1e59e8f4eca7df376bc36cd1c74261139614487d6d65afed7b2638b530b") false
    shamirEvals_said (fun _ h => by cases h) (by as_aux_lemma => kernel_rfl) (fun _ h => by cases h) shamirEvals_row_tie rfl ⟨rfl, rfl⟩ (by as_aux_lemma => kernel_rfl) rfl
    (fun f fn hf hfn => by
      obtain rfl : f = 3 := Option.some.inj ((show Tryz.prog.funcNamed "domino/dominolaw19.ShamirEvals" = some 3 by kernel_rfl).symm.trans hf) |>.symm
      obtain rfl : fn = Tryz.f3 := (Option.some.inj (Tryz.func3.symm.trans hfn)).symm
      exact ⟨by as_aux_lemma => kernel_rfl, fun j t ht => by
        rw [Tryz.params3] at ht
        have hm : t ∈ [25] := by simpa using Array.mem_of_getElem? ht
        have hall : ([25].all fun u => !Tryz.prog.wantsStandIn u) = true := by kernel_rfl
        exact (show Tryz.prog.wantsStandIn t = false by simpa using List.all_eq_true.1 hall t hm)⟩)
    (by as_aux_lemma => kernel_rfl)
#print axioms shamirEvals_card
end Go.Proofs.YtlcmlbdgibjmlaaGreatDoor
