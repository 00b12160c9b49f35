/- The law ShamirSplits, closed: for all arguments the law returns true, and each argument reads as before. Condition: the listed tables of math/bits and internal/strconv are tied to the program's text by the card. -/
import Derived.Test.YtlcmlbdgibjmlaaGreatDoorSzR
import Derived.Test.YtlcmlbdgibjmlaaGreatDoorCards
import Derived.Test.YtlcmlbdgibjmlaaGreatDoorTie
import Derived.SevenTiedAt
namespace Go.Proofs.YtlcmlbdgibjmlaaGreatDoor
open Go
set_option maxRecDepth 100000
set_option maxHeartbeats 4000000
theorem shamirSplits_card : Rows.ShamirSplitsCardSaid :=
  Claim7.holds_tied_plain_at .later [] [.data, .data, .data] true (true, "f3eec1e59e8f4eca7df376bc36cd1c74261139614487d6d65afed7b2638b530b") false
    shamirSplits_said (fun _ h => by cases h) (by as_aux_lemma => kernel_rfl) (fun _ h => by cases h) shamirSplits_row_tie rfl ⟨rfl, rfl⟩ (by as_aux_lemma => kernel_rfl) rfl
    (fun f fn hf hfn => by
      obtain rfl : f = 4 := Option.some.inj ((show Tryz.prog.funcNamed "domino/dominolaw19.ShamirSplits" = some 4 by kernel_rfl).symm.trans hf) |>.symm
      obtain rfl : fn = Tryz.f4 := (Option.some.inj (Tryz.func4.symm.trans hfn)).symm
      exact ⟨by as_aux_lemma => kernel_rfl, fun j t ht => by
        rw [Tryz.params4] at ht
        have hm : t ∈ [34, 36] := by simpa using Array.mem_of_getElem? ht
        have hall : ([34, 36].all fun u => !Tryz.prog.wantsStandIn u) = true := by kernel_rfl
        exact (show Tryz.prog.wantsStandIn t = false by simpa using List.all_eq_true.1 hall t hm)⟩)
    (by as_aux_lemma => kernel_rfl)
#print axioms shamirSplits_card
end Go.Proofs.YtlcmlbdgibjmlaaGreatDoor
