/- The law ClsignMessages, closed: for all arguments the law returns true, and each argument reads as before. Condition: the listed tables of math/bits and internal/strconv are tied to the program's text by the card. -/
import Derived.Test.YtjkccbpmlapgcaaGreatDoorMvFbR
import Derived.Test.YtjkccbpmlapgcaaGreatDoorCards
import Derived.Test.YtjkccbpmlapgcaaGreatDoorTie
import Derived.SevenTiedAt
namespace Go.Proofs.YtjkccbpmlapgcaaGreatDoor
open Go
set_option maxRecDepth 100000
set_option maxHeartbeats 4000000
theorem clsignMessages_card : Rows.ClsignMessagesCardSaid :=
 Claim7.holds_tied_plain_at .later [] [.data,.data,.data] true (true,"887d12a587de5daeaccdf86d869d1d712605c655c3c7bc41ab4d2f545ea7ea31") false
  clsignMessages_said (fun _ h=>by cases h) (by as_aux_lemma=>kernel_rfl) (fun _ h=>by cases h) clsignMessages_row_tie rfl ⟨rfl,rfl⟩ (by as_aux_lemma=>kernel_rfl) rfl
  (fun f fn hf hfn=>by
   obtain rfl : f=3:=Option.some.inj ((show Tryz.prog.funcNamed "domino/dominolaw30.ClsignMessages"=some 3 by kernel_rfl).symm.trans hf) |>.symm
   obtain rfl : fn=Tryz.f3:=(Option.some.inj (Tryz.func3.symm.trans hfn)).symm
   exact ⟨by as_aux_lemma=>kernel_rfl,fun j t ht=>by
    rw [Tryz.params3] at ht
    have hm : t ∈ [37,31]:=by simpa using Array.mem_of_getElem? ht
    have hall : ([37,31].all fun u=>!Tryz.prog.wantsStandIn u)=true:=by kernel_rfl
    exact (show Tryz.prog.wantsStandIn t=false by simpa using List.all_eq_true.1 hall t hm)⟩)
  (by as_aux_lemma=>kernel_rfl)
#print axioms clsignMessages_card
end Go.Proofs.YtjkccbpmlapgcaaGreatDoor
