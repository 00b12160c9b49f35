/- The law ClsignExponents, closed: for all arguments the law returns true, and each argument reads as before. Condition: the listed tables of math/bits and internal/strconv are tied to the program's text by the card. -/
import Derived.Test.YtiacajjpkncomaaGreatDoorExGyR
import Derived.Test.YtiacajjpkncomaaGreatDoorCards
import Derived.Test.YtiacajjpkncomaaGreatDoorTie
import Derived.SevenTiedAt
namespace Go.Proofs.YtiacajjpkncomaaGreatDoor
open Go
set_option maxRecDepth 100000
set_option maxHeartbeats 4000000
theorem clsignExponents_card:Rows.ClsignExponentsCardSaid :=
 Claim7.holds_tied_plain_at .later [] [.data,.data,.data] true (true,"bcceaa2f35030b9c002295ba6d69f8806e62b67ab30d6b358d7fbff8211feda0") false
  clsignExponents_said (fun _ h=>by cases h) (by as_aux_lemma=>kernel_rfl) (fun _ h=>by cases h) clsignExponents_row_tie rfl ⟨rfl,rfl⟩ (by as_aux_lemma=>kernel_rfl) rfl
  (fun f fn hf hfn=>by
   obtain rfl:f=3:=Option.some.inj ((show Tryz.prog.funcNamed "domino/dominolaw30.ClsignExponents"=some 3 by kernel_rfl).symm.trans hf) |>.symm;obtain rfl:fn=Tryz.f3:=(Option.some.inj (Tryz.func3.symm.trans hfn)).symm
   exact ⟨by as_aux_lemma=>kernel_rfl,fun j t ht=>by
    rw [Tryz.params3] at ht;have hm:t∈[37,39]:=by simpa using Array.mem_of_getElem? ht
    have hall:([37,39].all fun u=>!Tryz.prog.wantsStandIn u)=true:=by kernel_rfl
    exact (show Tryz.prog.wantsStandIn t=false by simpa using List.all_eq_true.1 hall t hm)⟩)
  (by as_aux_lemma=>kernel_rfl)
#print axioms clsignExponents_card
end Go.Proofs.YtiacajjpkncomaaGreatDoor
