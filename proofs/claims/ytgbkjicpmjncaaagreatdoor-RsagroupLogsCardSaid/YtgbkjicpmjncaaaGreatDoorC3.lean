/- The law RsagroupLogs, closed: for every group, two numbers and limit the law returns true, and each argument reads as before. Condition: the listed table of math/bits is tied to the program's text by the card. -/
import Derived.Test.YtgbkjicpmjncaaaGreatDoorQ3
import Derived.Test.YtgbkjicpmjncaaaGreatDoorCards
import Derived.Test.YtgbkjicpmjncaaaGreatDoorTie
import Derived.SevenTiedAt
namespace Go.Proofs.YtgbkjicpmjncaaaGreatDoor
open Go
set_option maxRecDepth 100000
theorem rsagroupLogs_card : Rows.RsagroupLogsCardSaid :=
  Claim7.holds_tied_plain_at .later [] [.data] true (true, "cc8dbb16de1be597d859024f808df4e843bcc98922845d2aa0b640c0676c460e") false
    rsagroupLogs_said (fun _ h => by cases h) (by kernel_rfl) (fun _ h => by cases h) rsagroupLogs_row_tie rfl ⟨rfl, rfl⟩ (by kernel_rfl) rfl
    (fun f fn hf hfn => by
      obtain rfl : f = 4 := Option.some.inj ((show Tryz.prog.funcNamed "domino/dominolaw10.RsagroupLogs" = some 4 by kernel_rfl).symm.trans hf) |>.symm
      obtain rfl : fn = Tryz.f4 := (Option.some.inj (Tryz.func4.symm.trans hfn)).symm
      exact ⟨by kernel_rfl, fun j t ht => by
        rw [Tryz.params4] at ht
        have hm : t ∈ [39] := by simpa using Array.mem_of_getElem? ht
        have hall : ([39].all fun u => !Tryz.prog.wantsStandIn u) = true := by kernel_rfl
        exact (show Tryz.prog.wantsStandIn t = false by simpa using List.all_eq_true.1 hall t hm)⟩)
    (by kernel_rfl)
#print axioms rsagroupLogs_card
end Go.Proofs.YtgbkjicpmjncaaaGreatDoor
