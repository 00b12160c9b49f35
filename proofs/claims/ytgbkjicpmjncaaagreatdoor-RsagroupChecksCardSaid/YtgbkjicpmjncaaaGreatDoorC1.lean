/- The law RsagroupChecks, closed: for every group, trapdoor and number the law returns true, and each argument reads as before. Condition: the listed table of math/bits is tied to the program's text by the card. -/
import Derived.Test.YtgbkjicpmjncaaaGreatDoorQ1
import Derived.Test.YtgbkjicpmjncaaaGreatDoorCards
import Derived.Test.YtgbkjicpmjncaaaGreatDoorTie
import Derived.SevenTiedAt
namespace Go.Proofs.YtgbkjicpmjncaaaGreatDoor
open Go
set_option maxRecDepth 100000
theorem rsagroupChecks_card : Rows.RsagroupChecksCardSaid :=
  Claim7.holds_tied_plain_at .later [] [.data] true (true, "cc8dbb16de1be597d859024f808df4e843bcc98922845d2aa0b640c0676c460e") false
    rsagroupChecks_said (fun _ h => by cases h) (by kernel_rfl) (fun _ h => by cases h) rsagroupChecks_row_tie rfl ⟨rfl, rfl⟩ (by kernel_rfl) rfl
    (fun f fn hf hfn => by
      obtain rfl : f = 3 := Option.some.inj ((show Tryz.prog.funcNamed "domino/dominolaw10.RsagroupChecks" = some 3 by kernel_rfl).symm.trans hf) |>.symm
      obtain rfl : fn = Tryz.f3 := (Option.some.inj (Tryz.func3.symm.trans hfn)).symm
      exact ⟨by kernel_rfl, fun j t ht => by
        rw [Tryz.params3] at ht
        have hm : t ∈ [24, 26, 22] := by simpa using Array.mem_of_getElem? ht
        have hall : ([24, 26, 22].all fun u => !Tryz.prog.wantsStandIn u) = true := by kernel_rfl
        exact (show Tryz.prog.wantsStandIn t = false by simpa using List.all_eq_true.1 hall t hm)⟩)
    (by kernel_rfl)
#print axioms rsagroupChecks_card
end Go.Proofs.YtgbkjicpmjncaaaGreatDoor
