/- The law ClsignMeans: the walk. Its words serve the other laws on settings too. -/
import Derived.Test.YtiacajjpkncomaaGreatDoorExEf
import Derived.Test.YtiacajjpkncomaaGreatDoorExJA
namespace Go.Proofs.YtiacajjpkncomaaGreatDoor
open Go.RowKit
set_option maxRecDepth 100000
set_option linter.unusedVariables false
set_option maxHeartbeats 8000000
theorem few_facts {ch sl mm mo mg mh wm wo wg wh se at_ ha el es bl ma nm m o z s u h P Q:ByteArray} {rs:List ByteArray} (hf:setFew ch sl mm mo mg mh wm wo wg wh se at_ ha el es bl ma nm m o z s u h P Q rs=true) :
  ((mm.size≤8∧mo.size≤8∧wm.size≤8∧at_.size≤8)∧(el.size≤8∧es.size≤8∧bl.size≤8))∧(m.size≤8∧nm.size≤60∧rs.length≤6):=by
 unfold setFew fewP fewK shS at hf;simp only [List.all_cons,List.all_nil,Bool.and_true,Bool.and_eq_true,decide_eq_true_eq] at hf;obtain ⟨⟨⟨h1,h2,_⟩,⟨h3,_⟩,_,_,_,h4,_,h5,h6,h7,_⟩,⟨⟨h8,_⟩,_,h9,_,h10⟩,_⟩:=hf;exact ⟨⟨⟨h1,h2,h3,h4⟩,h5,h6,h7⟩,h8,h10,h9⟩
theorem par_ok {ch sl mm mo mg mh wm wo wg wh se at_ ha el es bl ma:ByteArray} (h:parS ch sl mm mo mg mh wm wo wg wh se at_ ha el es bl ma=0) :
  ((valid se=true∧valid ha=true∧valid at_=true)∧valid el=true∧valid es=true∧valid bl=true)∧2≤num el∧2≤num es:=by
 obtain ⟨h1,_,h3,_⟩:=parS_zero h;simp only [List.all_cons,List.all_nil,Bool.and_true,Bool.and_eq_true] at h1;unfold twoUp at h3;simp only [List.all_cons,List.all_nil,Bool.and_true,Bool.and_eq_true,decide_eq_true_eq] at h3;obtain ⟨_,_,a1,a2,a3,a4,a5,a6,_⟩:=h1;obtain ⟨_,_,_,_,_,b1,b2,_⟩:=h3;exact ⟨⟨⟨a1,a3,a2⟩,a4,a5,a6⟩,b1,b2⟩
section
variable {w W W':World} {ss:Array Value} {A1 A2 AR:Option Addr} {n1 c1 n2 c2:Nat} {sA sE sV:ByteArray} {rs l1 l2:List ByteArray}
end
end Go.Proofs.YtiacajjpkncomaaGreatDoor
