/- The row of ClsignExponents: for all arguments the law returns true, and each argument reads as before. Condition: the tables of math/bits and of internal/strconv as the program's text lays them (the card ties them). -/
import Derived.Test.YtiacajjpkncomaaGreatDoorExJD
import Derived.Test.YtiacajjpkncomaaGreatDoorExGy
namespace Go.Proofs.YtiacajjpkncomaaGreatDoor
open Go.ChangeShapes Go.WideShapes Go.ChangeAt Go.WideElems Go.RowKit
set_option maxRecDepth 100000
set_option maxHeartbeats 4000000
theorem lifted (os:Os) (started:os.Started) (H:Type) (enc:TypeId × Value→H) :
  ReturnsInHanded {} Tryz.checked os 3 .any (fun w args=>(Rows.clsignExponentsSpec.pre enc Tryz.prog Tryz.f3 [] false w args∧laidMetH Tryz.prog laidL w)∧sizedMet enc Tryz.prog Tryz.f3 (OpenSpec.ofChange Rows.clsignExponentsSpec) false w args)
   (Rows.clsignExponentsSpec.post enc Tryz.prog Tryz.f3 false true false false):=by
 refine returnsInHanded_of_change_and (C:=Tryz.checked) (X:=fun w _=>laidMetH Tryz.prog laidL w) (fun _ _ _ hh h=>h.of_heap hh) ownK started (by kernel_rfl) Tryz.func3
  (ChangeSpec.witness_shaped (enc:=enc) (C:=Tryz.checked) (os:=os) (X:=fun w _=>laidMetH Tryz.prog laidL w) false (World.doorLaid Tryz.prog 400 os) #[.agg #[.string ⟨#[]⟩,.string ⟨#[]⟩,.string ⟨#[]⟩,.string ⟨#[]⟩,.string ⟨#[]⟩,.string ⟨#[]⟩,.string ⟨#[]⟩,.string ⟨#[]⟩,.string ⟨#[]⟩,.string ⟨#[]⟩,.string ⟨#[]⟩,.string ⟨#[]⟩,.string ⟨#[]⟩,.string ⟨#[]⟩,.string ⟨#[]⟩,.string ⟨#[]⟩,.string ⟨#[]⟩,.string ⟨#[]⟩,.string ⟨#[]⟩,.string ⟨#[]⟩,.string ⟨#[]⟩,.string ⟨#[]⟩,.slice none 0 0,.string ⟨#[]⟩,.string ⟨#[]⟩,.string ⟨#[]⟩,.string ⟨#[]⟩],.agg #[.slice none 0 0,.string ⟨#[]⟩,.int .i64 0]] 8 rfl (World.shaped_of_RefB (by kernel_rfl) (by kernel_rfl)) (by kernel_rfl) (by kernel_rfl) (by kernel_rfl) (door_met os _)) ?_
 intro W base args ds gs before hval0 hW _ _ hL _;have hval:∀ (j:Nat) t v,Tryz.f3.params[j]?=some t→args[j]?=some v→Value.okWide Tryz.prog W .any base t v:=hval0;have hW':=hW;obtain ⟨p,q,hA0,hV,rfl,hfz,hnd⟩:=hW;have hA:DataW.TrodAll enc Tryz.prog W 0 (fun _=>true) true Tryz.f3.params.toList args.toList ds p:=hA0;rw [Tryz.params3] at hA hval;obtain ⟨v0,v1,d0,d1,p0,p1,rfl,rfl,rfl,h0,h1⟩:=trodAll_two hA;obtain ⟨rfl,rfl⟩:=trodVars_none hV;obtain ⟨ch,sl,mm,mo,mg,mh,wm,wo,wg,wh,se,at_,ha,el,es,bl,ma,nm,m,o,z,s,u,h,P,Q,AR,nR,cR,rs,rfl,hnR,hmR,hsR⟩:=open_setting (hval 0 37 v0 rfl rfl) h0;obtain ⟨A,n,c,seed,zt,vals,rfl,hn,hm,hsl⟩:=open_tape (hval 1 39 v1 rfl rfl) h1;clear hA0 hval0;simp only [List.append_nil] at hW';refine (law_exponents ch sl mm mo mg mh wm wo wg wh se at_ ha el es bl ma nm m o z s u h P Q AR A nR cR n c rs seed zt vals W hnR hmR hn hm hsR hsl (of_laid hL) (of_laid10 hL)).mono fun e W' ⟨he,hb⟩=>?_
 subst he;have hlt:∀ y∈p0++p1,y.block<W.heap.size:=fun y hy=>hW'.lt y hy
 refine ⟨_,rfl,post_of_below (pa:=p0++p1) (pv:=[]) hW' (fun _ _ _=>trodAll_mk1 (shut_bool Tryz.underlying4 _)) (fun sp hs=>?_) (fun _ _=>rfl) (by simp) hb (ok_one (by kernel_rfl) rfl (okWide_bool_mk Tryz.underlying4 _))⟩
 exact trodAll_mk2
  (WideElems.Trod_stays laidOutK (by kernel_rfl) (of_decide_eq_true (by kernel_rfl)) h0 (fun y hy=>hb.same (hlt y (by simp [hy]))) (fun y hy=>hs y (by simp [hy])))
  (WideElems.Trod_stays laidOutK (by kernel_rfl) (of_decide_eq_true (by kernel_rfl)) h1 (fun y hy=>hb.same (hlt y (by simp [hy]))) (fun y hy=>hs y (by simp [hy])))
theorem clsignExponents_closed:joinedFacts Tryz.prog 3 Tryz.f3 Rows.clsignExponentsSpec Rows.clsignExponentsRow=true:=by kernel_rfl
theorem clsignExponents_said:Rows.ClsignExponentsSaid :=
 OpenClaim.holds_of_wide 3 Tryz.f3 rfl rfl rfl rfl rfl rfl rfl ⟨rfl,rfl,rfl,rfl,rfl⟩ rfl rfl rfl rfl rfl (by kernel_rfl) Tryz.func3 clsignExponents_closed
  (of_decide_eq_true (by kernel_rfl)) (by unfold Func.isWrapper;first|(rw [if_pos (by decide +kernel)];kernel_rfl)|(rw [if_neg (by decide +kernel)];exact ⟨rfl,rfl⟩))
  (fun os started H enc _=>lifted os started H enc)
end Go.Proofs.YtiacajjpkncomaaGreatDoor
