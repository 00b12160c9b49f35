/- The law ClsignShifts, closed: for all arguments the law returns true, and each argument reads as before. Condition: the listed tables of math/bits and internal/strconv are tied to the program's text by the card. -/
import Derived.Test.YtgkggkpighpdiaaGreatDoorShFeR
import Derived.Test.YtgkggkpighpdiaaGreatDoorCards
import Derived.Test.YtgkggkpighpdiaaGreatDoorTie
import Derived.SevenTiedAt
namespace Go.Proofs.YtgkggkpighpdiaaGreatDoor
open Go
set_option maxRecDepth 100000
set_option maxHeartbeats 4000000
theorem clsignShifts_card : Rows.ClsignShiftsCardSaid :=
 Claim7.holds_tied_plain_at .later [] [.data,.data,.data] true (true,"1050f73f5ef673db3da78601fdbb821e8705825fff90b2f9e8c475f92e796f11") false
  clsignShifts_said (fun _ h=>by cases h) (by as_aux_lemma=>kernel_rfl) (fun _ h=>by cases h) clsignShifts_row_tie rfl ⟨rfl,rfl⟩ (by as_aux_lemma=>kernel_rfl) rfl
  (fun f fn hf hfn=>by
   obtain rfl : f=4:=Option.some.inj ((show Tryz.prog.funcNamed "domino/dominolaw30.ClsignShifts"=some 4 by kernel_rfl).symm.trans hf) |>.symm
   obtain rfl : fn=Tryz.f4:=(Option.some.inj (Tryz.func4.symm.trans hfn)).symm
   exact ⟨by as_aux_lemma=>kernel_rfl,fun j t ht=>by
    rw [Tryz.params4] at ht
    have hm : t ∈ [37,31,51]:=by simpa using Array.mem_of_getElem? ht
    have hall : ([37,31,51].all fun u=>!Tryz.prog.wantsStandIn u)=true:=by kernel_rfl
    exact (show Tryz.prog.wantsStandIn t=false by simpa using List.all_eq_true.1 hall t hm)⟩)
  (by as_aux_lemma=>kernel_rfl)
#print axioms clsignShifts_card
end Go.Proofs.YtgkggkpighpdiaaGreatDoor
