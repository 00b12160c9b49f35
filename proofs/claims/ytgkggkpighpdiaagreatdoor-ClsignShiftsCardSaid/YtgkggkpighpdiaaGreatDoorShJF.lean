/- The law ClsignMeans: the walk. Its words serve the other laws on settings too. The plain law of ClsignShifts: a power of S moves from S^V into A. -/
import Derived.Test.YtgkggkpighpdiaaGreatDoorShEf
import Derived.Test.YtgkggkpighpdiaaGreatDoorShJA
namespace Go.Proofs.YtgkggkpighpdiaaGreatDoor
open Go.RowKit
set_option maxRecDepth 100000
set_option linter.unusedVariables false
set_option maxHeartbeats 8000000
theorem few_facts {ch sl mm mo mg mh wm wo wg wh se at_ ha el es bl ma nm m o z s u h P Q : ByteArray} {rs : List ByteArray} (hf : setFew ch sl mm mo mg mh wm wo wg wh se at_ ha el es bl ma nm m o z s u h P Q rs=true) :
  ((mm.size≤8∧mo.size≤8∧wm.size≤8∧at_.size≤8)∧(el.size≤8∧es.size≤8∧bl.size≤8))∧(m.size≤8∧nm.size≤60∧rs.length≤6):=by
 unfold setFew fewP fewK shS at hf
 simp only [List.all_cons,List.all_nil,Bool.and_true,Bool.and_eq_true,decide_eq_true_eq] at hf
 obtain ⟨⟨⟨h1,h2,_⟩,⟨h3,_⟩,_,_,_,h4,_,h5,h6,h7,_⟩,⟨⟨h8,_⟩,_,h9,_,h10⟩,_⟩:=hf
 exact ⟨⟨⟨h1,h2,h3,h4⟩,h5,h6,h7⟩,h8,h10,h9⟩
theorem list_len {ls : List ByteArray} (h : listS ls=true) : ls.length≤8:=by
 unfold listS at h
 rw [Bool.and_eq_true,decide_eq_true_eq] at h
 exact h.1
theorem par_ok {ch sl mm mo mg mh wm wo wg wh se at_ ha el es bl ma : ByteArray} (h : parS ch sl mm mo mg mh wm wo wg wh se at_ ha el es bl ma=0) :
  ((valid se=true∧valid ha=true∧valid at_=true)∧valid el=true∧valid es=true∧valid bl=true)∧2≤num el∧2≤num es:=by
 obtain ⟨h1,_,h3,_⟩:=parS_zero h
 simp only [List.all_cons,List.all_nil,Bool.and_true,Bool.and_eq_true] at h1
 unfold twoUp at h3
 simp only [List.all_cons,List.all_nil,Bool.and_true,Bool.and_eq_true,decide_eq_true_eq] at h3
 obtain ⟨_,_,a1,a2,a3,a4,a5,a6,_⟩:=h1
 obtain ⟨_,_,_,_,_,b1,b2,_⟩:=h3
 exact ⟨⟨⟨a1,a3,a2⟩,a4,a5,a6⟩,b1,b2⟩
section
variable {w W W' : World} {ss : Array Value} {A1 A2 AR : Option Addr} {n1 c1 n2 c2 : Nat} {sA sE sV : ByteArray} {rs l1 l2 : List ByteArray}
end
end Go.Proofs.YtgkggkpighpdiaaGreatDoor
namespace Go.Proofs.YtgkggkpighpdiaaGreatDoor
open Go.RowKit
set_option maxRecDepth 100000
set_option linter.unusedVariables false
set_option maxHeartbeats 4000000
theorem ver_ok {K : Int} {m o s z se ha at_ el es bl sA sE sV : ByteArray} {rs ats : List ByteArray} (h : verS K m o s z se ha at_ el es bl sA sE sV rs ats=0) :
  K=0∧(ats.all valid=true∧[sA,sE,sV].all valid=true)∧attE se ha at_ rs ats=0∧rangS el es bl sE sV=true∧((isPS sE).2=0∧(isPS sE).1=true)∧hasG m o sA=true∧eqS m s z sA sE sV (msgV m rs ats)=true:=by
 unfold verS at h
 split at h
 · rename_i h0
   split at h
   · rename_i hv
     rw [Bool.and_eq_true] at hv
     split at h
     · rename_i ha1
       unfold verA at h
       split at h
       · rename_i hrg
         split at h
         · rename_i hp2
           split at h
           · rename_i hp1
             split at h
             · rename_i hA
               split at h
               · rename_i heq
                 exact ⟨h0,hv,ha1,hrg,⟨hp2,hp1⟩,hA,heq⟩
               · exact absurd h (by decide)
             · exact absurd h (by decide)
           · exact absurd h (by decide)
         · rename_i hp2
           exact absurd h hp2
       · exact absurd h (by decide)
     · rename_i ha1
       exact absurd h ha1
   · exact absurd h (by decide)
 · rename_i h0
   exact absurd h h0
theorem ver_of {K : Int} {m o s z se ha at_ el es bl sA sE sV : ByteArray} {rs ats : List ByteArray} (h0 : K=0) (hv : ats.all valid=true∧[sA,sE,sV].all valid=true) (ha1 : attE se ha at_ rs ats=0) (hrg : rangS el es bl sE sV=true) (hp : (isPS sE).2=0∧(isPS sE).1=true) (hA : hasG m o sA=true) (heq : eqS m s z sA sE sV (msgV m rs ats)=true) :
  verS K m o s z se ha at_ el es bl sA sE sV rs ats=0:=by
 unfold verS verA
 rw [if_pos h0,if_pos (by rw [Bool.and_eq_true];exact hv),if_pos ha1,if_pos hrg,if_pos hp.1,if_pos hp.2,if_pos hA,if_pos heq]
theorem eq_form (m s A E V : ByteArray) (M : Nat) : msgV m [A,s,B M] [E,V,B 1]=num A ^ num E*(num s ^ num V*M) % num m:=by
 unfold msgV zipE
 simp only [List.zipWith_cons_cons,List.zipWith_nil_right,pwE_cons,pwE_nil,num_B,Nat.pow_one,Nat.mul_one]
def shA (m s A : ByteArray) (r : Nat) : Nat:=num A*num s ^ r % num m
theorem shift_law {K : Int} {nm m o z s u h se ha at_ el es bl sA sE sV : ByteArray} {P : Int} {rs ats : List ByteArray} {r : Nat} (sm : m.size≤8) (hK : K=keyE P nm m o z s u h rs) (hV : verS K m o s z se ha at_ el es bl sA sE sV rs ats=0) (hr : num sE*r≤num sV) :
  verS K m o s z se ha at_ el es bl (B (shA m s sA r)) sE (B (num sV - num sE*r)) rs ats=0:=by
 obtain ⟨h0,⟨hv1,hv2⟩,ha1,hrg,hp,hA,heq⟩:=ver_ok hV
 have hkey:=keyE_zero (hK.symm.trans h0)
 simp only [List.all_cons,List.all_nil,Bool.and_true,Bool.and_eq_true] at hv2
 have hVl:=valid_num_lt hv2.2.2
 have hm0 : 0 < num m:=by have:=hkey.two;omega
 have hAl : shA m s sA r < num m:=Nat.mod_lt _ hm0
 have hml : num m < 18446744073709551616:=natSmall_bound m sm
 refine ver_of h0 ⟨hv1,?_⟩ ha1 ?_ hp ?_ ?_
 · simp only [List.all_cons,List.all_nil,Bool.and_true,Bool.and_eq_true]
   exact ⟨valid_B (u64_lt_lim (by omega)),hv2.2.1,valid_B (by omega)⟩
 · unfold rangS belS at hrg ⊢
   rw [num_B]
   rw [Bool.and_eq_true] at hrg ⊢
   refine ⟨hrg.1,?_⟩
   have h2:=hrg.2
   simp only [Bool.not_eq_true',Bool.and_eq_false_iff,decide_eq_false_iff_not] at h2 ⊢
   omega
 · refine hasG_coprime sm hkey.ho hkey.hs hAl hkey.two ?_
   have gA:=gcd_of_has hkey.ho hA
   have gs:=gcd_of_has hkey.ho hkey.hs
   unfold shA
   rw [← Nat.gcd_rec,Nat.gcd_comm]
   exact Nat.Coprime.mul_left gA (Nat.Coprime.pow_left _ gs)
 · have e1:=eq_of_beq heq
   have key : msgV m [B (shA m s sA r),s,B (msgV m rs ats)] [sE,B (num sV - num sE*r),B 1]=msgV m [sA,s,B (msgV m rs ats)] [sE,sV,B 1]:=by
    rw [eq_form,eq_form,num_B,num_B]
    unfold shA
    rw [Nat.mul_mod,← Nat.pow_mod,← Nat.mul_mod,Nat.mul_pow,← Nat.pow_mul,Nat.mul_assoc,← Nat.mul_assoc (num s ^ (r*num sE)),← Nat.pow_add]
    congr 4
    rw [Nat.mul_comm r]
    omega
   unfold eqS
   rw [key]
   exact heq
end Go.Proofs.YtgkggkpighpdiaaGreatDoor
