/- The law ClsignMeans, closed: for all arguments the law returns true, and each argument reads as before. Condition: the listed tables of math/bits and internal/strconv are tied to the program's text by the card. -/
import Derived.Test.YtkdbemdobfddoaaGreatDoorMnFaR
import Derived.Test.YtkdbemdobfddoaaGreatDoorCards
import Derived.Test.YtkdbemdobfddoaaGreatDoorTie
import Derived.SevenTiedAt
namespace Go.Proofs.YtkdbemdobfddoaaGreatDoor
open Go
set_option maxRecDepth 100000
set_option maxHeartbeats 4000000
theorem clsignMeans_card : Rows.ClsignMeansCardSaid :=
  Claim7.holds_tied_plain_at .later [] [.data, .data, .data] true (true, "6bbb3aaa2c82f3e945f715f4d1b27fd5deb414cb23a07e5f739bdfc03e2ea8e9") false
    clsignMeans_said (fun _ h => by cases h) (by as_aux_lemma => kernel_rfl) (fun _ h => by cases h) clsignMeans_row_tie rfl ⟨rfl, rfl⟩ (by as_aux_lemma => kernel_rfl) rfl
    (fun f fn hf hfn => by
      obtain rfl : f = 6 := Option.some.inj ((show Tryz.prog.funcNamed "domino/dominolaw30.ClsignMeans" = some 6 by kernel_rfl).symm.trans hf) |>.symm
      obtain rfl : fn = Tryz.f6 := (Option.some.inj (Tryz.func6.symm.trans hfn)).symm
      exact ⟨by as_aux_lemma => kernel_rfl, fun j t ht => by
        rw [Tryz.params6] at ht
        have hm : t ∈ [37, 62, 57] := by simpa using Array.mem_of_getElem? ht
        have hall : ([37, 62, 57].all fun u => !Tryz.prog.wantsStandIn u) = true := by kernel_rfl
        exact (show Tryz.prog.wantsStandIn t = false by simpa using List.all_eq_true.1 hall t hm)⟩)
    (by as_aux_lemma => kernel_rfl)
#print axioms clsignMeans_card
end Go.Proofs.YtkdbemdobfddoaaGreatDoor
