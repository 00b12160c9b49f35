/- The law RsagroupDraws, closed: for every group and every tape the law returns true, and each argument reads as before. Condition: the listed tables of math/bits and internal/strconv are tied to the program's text by the card. -/
import Derived.Test.YteifbhmfjchfjaaGreatDoorDe
import Derived.Test.YteifbhmfjchfjaaGreatDoorCards
import Derived.Test.YteifbhmfjchfjaaGreatDoorTie
import Derived.SevenTiedAt
namespace Go.Proofs.YteifbhmfjchfjaaGreatDoor
open Go
set_option maxRecDepth 100000
set_option maxHeartbeats 4000000
theorem rsagroupDraws_card : Rows.RsagroupDrawsCardSaid :=
  Claim7.holds_tied_plain_at .later [] [.data, .data, .data] true (true, "0f2ac1a9519ee9b72ab93166ac82ebaab652ccd008751c78698cddfde18703a6") false
    rsagroupDraws_said (fun _ h => by cases h) (by as_aux_lemma => kernel_rfl) (fun _ h => by cases h) rsagroupDraws_row_tie rfl ⟨rfl, rfl⟩ (by as_aux_lemma => kernel_rfl) rfl
    (fun f fn hf hfn => by
      obtain rfl : f = 5 := Option.some.inj ((show Tryz.prog.funcNamed "domino/dominolaw10.RsagroupDraws" = some 5 by kernel_rfl).symm.trans hf) |>.symm
      obtain rfl : fn = Tryz.f5 := (Option.some.inj (Tryz.func5.symm.trans hfn)).symm
      exact ⟨by as_aux_lemma => kernel_rfl, fun j t ht => by
        rw [Tryz.params5] at ht
        have hm : t ∈ [37, 24] := by simpa using Array.mem_of_getElem? ht
        have hall : ([37, 24].all fun u => !Tryz.prog.wantsStandIn u) = true := by kernel_rfl
        exact (show Tryz.prog.wantsStandIn t = false by simpa using List.all_eq_true.1 hall t hm)⟩)
    (by as_aux_lemma => kernel_rfl)
#print axioms rsagroupDraws_card
end Go.Proofs.YteifbhmfjchfjaaGreatDoor
