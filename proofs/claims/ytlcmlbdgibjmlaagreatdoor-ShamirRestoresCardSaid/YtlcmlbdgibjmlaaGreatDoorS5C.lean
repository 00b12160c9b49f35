/- The law ShamirRestores, closed: for all arguments the law returns true, and each argument reads as before. Condition: the listed tables of math/bits and internal/strconv are tied to the program's text by the card. -/
import Derived.Test.YtlcmlbdgibjmlaaGreatDoorS5R
import Derived.Test.YtlcmlbdgibjmlaaGreatDoorCards
import Derived.Test.YtlcmlbdgibjmlaaGreatDoorTie
import Derived.SevenTiedAt
namespace Go.Proofs.YtlcmlbdgibjmlaaGreatDoor
open Go
set_option maxRecDepth 100000
set_option maxHeartbeats 4000000
theorem shamirRestores_card : Rows.ShamirRestoresCardSaid :=
  Claim7.holds_tied_plain_at .later [] [.data, .data, .data] true (true, "f3eec1e59e8f4eca7df376bc36cd1c74261139614487d6d65afed7b2638b530b") false
    shamirRestores_said (fun _ h => by cases h) (by as_aux_lemma => kernel_rfl) (fun _ h => by cases h) shamirRestores_row_tie rfl ⟨rfl, rfl⟩ (by as_aux_lemma => kernel_rfl) rfl
    (fun f fn hf hfn => by
      obtain rfl : f = 6 := Option.some.inj ((show Tryz.prog.funcNamed "domino/dominolaw19.ShamirRestores" = some 6 by kernel_rfl).symm.trans hf) |>.symm
      obtain rfl : fn = Tryz.f6 := (Option.some.inj (Tryz.func6.symm.trans hfn)).symm
      exact ⟨by as_aux_lemma => kernel_rfl, fun j t ht => by
        rw [Tryz.params6] at ht
        have hm : t ∈ [34, 36, 5] := by simpa using Array.mem_of_getElem? ht
        have hall : ([34, 36, 5].all fun u => !Tryz.prog.wantsStandIn u) = true := by kernel_rfl
        exact (show Tryz.prog.wantsStandIn t = false by simpa using List.all_eq_true.1 hall t hm)⟩)
    (by as_aux_lemma => kernel_rfl)
#print axioms shamirRestores_card
end Go.Proofs.YtlcmlbdgibjmlaaGreatDoor
