/- The walks of package power: one power of one element. Plain words for polynomials modulo a number: values, products, Lagrange's sum. Plain: the extended algorithm for any two numbers. Plain: the polynomial through the points of a polynomial is that polynomial. -/
import Derived.Test.YtiacajjpkncomaaGreatDoorExUU
import Derived.Test.YtiacajjpkncomaaGreatDoorExII
import Derived.OneCell
import Derived.ProofKit
namespace Go.Proofs.YtiacajjpkncomaaGreatDoor
open Go.RowKit
set_option maxRecDepth 100000
set_option linter.unusedVariables false
set_option maxHeartbeats 2000000
theorem GrAt.alloc {w wx:World} {g:Nat} {m o:ByteArray} (h:GrAt w g m o wx) (ob:Obj):GrAt w g m o (wx.alloc ob):=h.next ((Below.refl _ _).alloc (Nat.le_refl _) _)
def TimesAt (w:World) (O G:Nat) (y:Nat) (m:ByteArray):Prop:=w.cell? ⟨O,0,none⟩=some (.string (B y))∧w.frozen? ⟨O,0,none⟩=false∧w.cell? ⟨G,0,none⟩=some (.string m)∧O<w.heap.size∧G<w.heap.size
def TimesPost (w:World) (O:Nat) (z:Nat) (r:Ending) (w':World):Prop:=r=.returned (.tuple #[])∧∃ w1,Below w.heap.size w w1∧w'=w1.setCell ⟨O,0,none⟩ (.string (B z))
theorem power_times (O G x y M:Nat) (w:World) (hy:y<18446744073709551616) (hx:x<18446744073709551616) (hM:M<18446744073709551616) (h0:0<M) (hat:TimesAt w O G y (B M)) :
  Calls Tryz.prog 90 #[.string (B x),.pointer (some ⟨O,0,none⟩),.pointer (some ⟨G,0,none⟩)] w (TimesPost w O (y*x%M)):=by
 have HM:=Lib.hid (fun w=>modular_Mul y x M w hy hx hM h0);obtain ⟨c0,f0,c1,l0,l1⟩:=hat;have HL:=Lib.hid l0;clear hy hx hM h0 l0;generalize y*x%M=z at *
 go_enter Tryz.func90, Tryz.ntmps90
 go_wp2_with (first|(go_at_call 91;(with_reducible refine (HM.out _).mono ?_);rintro e' w1 ⟨rfl,hb1⟩;have hc1:=(hb1.cell (p:=⟨O,0,none⟩) HL.out).trans c0;have hf1:=(hb1.frozen (p:=⟨O,0,none⟩) HL.out).trans f0));exact bodyPost_ret (v:=.tuple #[]) (by simp [results,Tryz.results90,go_sem]) rfl ⟨rfl,w1,hb1,rfl⟩
theorem hasG_two {m o x:ByteArray} (hg:groupE m o=0) (h:hasG m o x=true):1<num m:=by
 unfold groupE at hg
 split at hg
 · rename_i hv
   rw [Bool.and_eq_true] at hv
   split at hg
   · split at hg
     · rename_i h8
       simp only [Bool.and_eq_true,decide_eq_true_eq] at h8;have h9:=h8.2;unfold natCmp at h9;rw [hv.1,valid_B (u64_lt_lim (by decide)),num_B] at h9
       have:¬ num m<8:=fun hlt=>by
        have:=(cmpN_neg (x:=num m) (y:=8)).2 hlt;simp only [Bool.and_self,if_true] at h9;omega
       omega
     · cases hg
   · split at hg
     · cases hg
     · omega
 · cases hg
end Go.Proofs.YtiacajjpkncomaaGreatDoor
namespace Go.Proofs.YtiacajjpkncomaaGreatDoor
def invM (s q:Nat):Nat:=((List.range q).find? (fun x=>s*x%q==1%q)).getD 0
theorem invM_eq {s q x:Nat} (hx:x<q) (h:s*x%q=1%q):invM s q=x:=by
 unfold invM
 cases hf:(List.range q).find? (fun x=>s*x%q==1%q) with
 | none =>
   have:=List.find?_eq_none.1 hf x (List.mem_range.2 hx);simp [h] at this
 | some y =>
   have hy:=List.find?_some hf;have hyq:y<q:=List.mem_range.1 (List.mem_of_find?_eq_some hf);have hy2:s*y%q=1%q:=by simpa using hy
   show y=x;have e1:x*(s*y)%q=x:=by rw [Nat.mul_mod,hy2,← Nat.mul_mod,Nat.mul_one,Nat.mod_eq_of_lt hx]
   have e2:y*(s*x)%q=y:=by rw [Nat.mul_mod,h,← Nat.mul_mod,Nat.mul_one,Nat.mod_eq_of_lt hyq]
   have e3:x*(s*y)=y*(s*x):=by rw [Nat.mul_left_comm,Nat.mul_comm x y,Nat.mul_left_comm]
   rw [e3,e2] at e1;exact e1
theorem invM_ext {s q:Nat} {X Y:Int} (h2:2≤q) (hX:0≤X) (h:((s%q:Nat):Int)*X+q*Y=1):invM s q=X.natAbs%q:=by
 obtain ⟨x,rfl⟩:∃ x:Nat,X=x:=⟨X.natAbs,by omega⟩;rw [Int.natAbs_natCast];refine invM_eq (Nat.mod_lt _ (by omega)) ?_
 have e:((s%q*x:Nat):Int)%(q:Int)=1%(q:Int):=by
  rw [show ((s%q*x:Nat):Int)=1-(q:Int)*Y by rw [Int.natCast_mul];omega];rw [Int.sub_mul_emod_self_left]
 have e2:s%q*x%q=1%q:=by
  have:=e;rw [← Int.natCast_emod,show (1:Int)%(q:Int)=((1%q:Nat):Int) by rw [Int.natCast_emod];rfl] at this;exact Int.ofNat.inj this
 rw [← e2,Nat.mul_mod s (x%q),Nat.mod_mod,← Nat.mul_mod,Nat.mul_mod (s%q) x,Nat.mod_mod,← Nat.mul_mod]
end Go.Proofs.YtiacajjpkncomaaGreatDoor
namespace Go.Proofs.YtiacajjpkncomaaGreatDoor
def exS (a b:Nat):Nat→Nat × Nat × Int × Int × Int × Int
 | 0=>(a,b,1,0,0,1)
 | j+1=>((exS a b j).2.1,(exS a b j).1%(exS a b j).2.1,(exS a b j).2.2.2.1,(exS a b j).2.2.1-(((exS a b j).1/(exS a b j).2.1:Nat):Int)*(exS a b j).2.2.2.1,
   (exS a b j).2.2.2.2.2,(exS a b j).2.2.2.2.1-(((exS a b j).1/(exS a b j).2.1:Nat):Int)*(exS a b j).2.2.2.2.2)
def gA (a b j:Nat):Nat:=(exS a b j).1
def gB (a b j:Nat):Nat:=(exS a b j).2.1
def gX (a b j:Nat):Int:=(exS a b j).2.2.1
def gY (a b j:Nat):Int:=(exS a b j).2.2.2.2.1
theorem gA_succ (a b j:Nat):gA a b (j+1)=gB a b j:=rfl
theorem gB_succ (a b j:Nat):gB a b (j+1)=gA a b j%gB a b j:=rfl
theorem gX_two (a b j:Nat):gX a b (j+2)=gX a b j-((gA a b j/gB a b j:Nat):Int)*gX a b (j+1):=rfl
theorem gY_two (a b j:Nat):gY a b (j+2)=gY a b j-((gA a b j/gB a b j:Nat):Int)*gY a b (j+1):=rfl
structure EInv (a b j:Nat) (u0 u1 v0 v1:Nat):Prop where
 sgn:(gX a b j=u0∧gX a b (j+1)=-(u1:Int)∧gY a b j=-(v0:Int)∧gY a b (j+1)=v1)∨(gX a b j=-(u0:Int)∧gX a b (j+1)=u1∧gY a b j=v0∧gY a b (j+1)=-(v1:Int))
 hb:gA a b j*u1+gB a b j*u0=b
 ha:gA a b j*v1+gB a b j*v0=a
 hg:Nat.gcd (gA a b j) (gB a b j)=Nat.gcd a b
 bz:(a:Int)*gX a b j+b*gY a b j=gA a b j
 bz1:(a:Int)*gX a b (j+1)+b*gY a b (j+1)=gB a b j
 big:1≤j→gB a b j<gA a b j∧u0≤u1
theorem EInv.start (a b:Nat):EInv a b 0 1 0 0 1 :=
 ⟨.inl ⟨rfl,by simp [gX,exS],by simp [gY,exS],rfl⟩,by simp [gA,gB,exS],by simp [gA,gB,exS],rfl,by simp [gX,gY,gA,exS],by simp [gX,gY,gB,exS],fun h=>absurd h (by decide)⟩
theorem EInv.next {a b j u0 u1 v0 v1:Nat} (h:EInv a b j u0 u1 v0 v1) (hB:gB a b j≠0):EInv a b (j+1) u1 (u0+gA a b j/gB a b j*u1) v1 (v0+gA a b j/gB a b j*v1):=by
 obtain ⟨sgn,hb,ha,hg,bz,bz1,big⟩:=h;have hdm:=Nat.div_add_mod (gA a b j) (gB a b j);obtain ⟨q,hq⟩:∃ q,q=gA a b j/gB a b j:=⟨_,rfl⟩;obtain ⟨r,hr⟩:∃ r,r=gA a b j%gB a b j:=⟨_,rfl⟩;have hx:=gX_two a b j;have hy:=gY_two a b j;have hbs:=gB_succ a b j;have has:=gA_succ a b j;rw [← hq] at hx hy ⊢;rw [← hr] at hbs;rw [← hq,← hr] at hdm
 have key:∀ s t:Nat,gB a b j*(s+q*t)+r*t=gA a b j*t+gB a b j*s:=by
  intro s t;rw [← hdm,Nat.add_mul,Nat.mul_add,Nat.mul_assoc];omega
 refine ⟨?_,?_,?_,?_,?_,?_,fun _=>⟨?_,?_⟩⟩
 · rcases sgn with ⟨e1,e2,e3,e4⟩|⟨e1,e2,e3,e4⟩
   · right
     refine ⟨e2,?_,e4,?_⟩
     · rw [hx,e1,e2];simp only [Int.natCast_add,Int.natCast_mul,Int.mul_neg];omega
     · rw [hy,e3,e4];simp only [Int.natCast_add,Int.natCast_mul];omega
   · left
     refine ⟨e2,?_,e4,?_⟩
     · rw [hx,e1,e2];simp only [Int.natCast_add,Int.natCast_mul];omega
     · rw [hy,e3,e4];simp only [Int.natCast_add,Int.natCast_mul,Int.mul_neg];omega
 · rw [has,hbs,key];exact hb
 · rw [has,hbs,key];exact ha
 · rw [has,hbs,← hg,hr,Nat.gcd_comm (gA a b j),Nat.gcd_rec (gB a b j) (gA a b j),Nat.gcd_comm]
 · rw [has];exact bz1
 · rw [hx,hy,hbs]
   have e:(r:Int)=(gA a b j:Int)-(gB a b j:Int)*(q:Int):=by rw [← hdm];simp only [Int.natCast_add,Int.natCast_mul];omega
   rw [e,← bz,← bz1,Int.mul_sub,Int.mul_sub,Int.add_mul];have e1:(a:Int)*((q:Int)*gX a b (j+1))=(a:Int)*gX a b (j+1)*(q:Int):=by rw [Int.mul_comm (q:Int),Int.mul_assoc]
   have e2:(b:Int)*((q:Int)*gY a b (j+1))=(b:Int)*gY a b (j+1)*(q:Int):=by rw [Int.mul_comm (q:Int),Int.mul_assoc]
   rw [e1,e2];omega
 · rw [has,hbs,hr];exact Nat.mod_lt _ (Nat.pos_of_ne_zero hB)
 · by_cases hj:1≤j
   · have:=big hj
     have hq1:1≤q:=by rw [hq];exact Nat.div_pos (Nat.le_of_lt this.1) (Nat.pos_of_ne_zero hB)
     have:=Nat.mul_le_mul_right u1 hq1;omega
   · have:j=0:=by omega
     subst this
     have hu1:u1=0:=by
      have e:gX a b 1=0:=rfl
      rcases sgn with ⟨_,e2,_⟩|⟨_,e2,_⟩
      · rw [e] at e2;omega
      · rw [e] at e2;omega
     rw [hu1];exact Nat.zero_le _
theorem EInv.all {a b:Nat}:∀ j,(∀ i,i<j→gB a b i≠0)→∃ u0 u1 v0 v1,EInv a b j u0 u1 v0 v1
 | 0,_=>⟨1,0,0,1,EInv.start a b⟩
 | j+1,h=>by
   obtain ⟨u0,u1,v0,v1,hi⟩:=EInv.all j (fun i hi=>h i (by omega));exact ⟨_,_,_,_,hi.next (h j (by omega))⟩
theorem e_bounds {a b K j:Nat} (ha:a<K) (hb:b<K) (hK:2≤K) (hj:∀ i,i<j→gB a b i≠0) (h:gB a b j≠0) :
  gA a b j<K∧gB a b j<K∧(gX a b j).natAbs<K∧(gX a b (j+1)).natAbs<K∧(gY a b j).natAbs<K∧(gY a b (j+1)).natAbs<K ∧
  (((gA a b j/gB a b j:Nat):Int)*gX a b (j+1)).natAbs<K∧(((gA a b j/gB a b j:Nat):Int)*gY a b (j+1)).natAbs<K∧gA a b j/gB a b j<K:=by
 have hAB:∀ i,i≤j→gA a b i<K∧gB a b i<K:=by
  intro i
  induction i with
  | zero=>exact fun _=>⟨ha,hb⟩
  | succ i ih =>
    intro hi;obtain ⟨h1,h2⟩:=ih (by omega);exact ⟨h2,Nat.lt_trans (Nat.mod_lt _ (Nat.pos_of_ne_zero (hj i (by omega)))) h2⟩
 obtain ⟨u0,u1,v0,v1,hi⟩:=EInv.all j hj;obtain ⟨hA,hB⟩:=hAB j (Nat.le_refl _);have hqB:=Nat.div_mul_le_self (gA a b j) (gB a b j);obtain ⟨q,hq⟩:∃ q,q=gA a b j/gB a b j:=⟨_,rfl⟩;have hqA:q≤gA a b j:=by rw [hq];exact Nat.div_le_self _ _
 rw [← hq] at hqB ⊢
 have b0:u0≤b:=by
  have:=hi.hb;have h2:u0≤gB a b j*u0:=Nat.le_mul_of_pos_left _ (Nat.pos_of_ne_zero h);omega
 have c0:v0≤a:=by
  have:=hi.ha;have h2:v0≤gB a b j*v0:=Nat.le_mul_of_pos_left _ (Nat.pos_of_ne_zero h);omega
 have bq:q*u1≤b:=by
  have h1:=Nat.mul_le_mul_right u1 hqA;have:=hi.hb;omega
 have cq:q*v1≤a:=by
  have h1:=Nat.mul_le_mul_right v1 hqA;have:=hi.ha;omega
 have b1:u1<K:=by
  by_cases hz:gA a b j=0
  · have hj0:j=0:=by
     rcases Nat.eq_zero_or_pos j with h0|h0
     · exact h0
     · have:=(hi.big h0).1;omega
    subst hj0;have e:gX a b 1=0:=rfl
    rcases hi.sgn with ⟨_,e2,_⟩|⟨_,e2,_⟩
    · rw [e] at e2;omega
    · rw [e] at e2;omega
  · have h2:u1≤gA a b j*u1:=Nat.le_mul_of_pos_left _ (Nat.pos_of_ne_zero hz)
    have:=hi.hb;omega
 have c1:v1<K:=by
  by_cases hz:gA a b j=0
  · have hj0:j=0:=by
     rcases Nat.eq_zero_or_pos j with h0|h0
     · exact h0
     · have:=(hi.big h0).1;omega
    subst hj0;have e:gY a b 1=1:=rfl
    rcases hi.sgn with ⟨_,_,_,e2⟩|⟨_,_,_,e2⟩
    · rw [e] at e2;omega
    · rw [e] at e2;omega
  · have h2:v1≤gA a b j*v1:=Nat.le_mul_of_pos_left _ (Nat.pos_of_ne_zero hz)
    have:=hi.ha;omega
 have n1:((q:Int)*gX a b (j+1)).natAbs=q*u1:=by
  rw [Int.natAbs_mul]
  rcases hi.sgn with ⟨_,e2,_⟩|⟨_,e2,_⟩<;>rw [e2]<;>simp
 have n2:((q:Int)*gY a b (j+1)).natAbs=q*v1:=by
  rw [Int.natAbs_mul]
  rcases hi.sgn with ⟨_,_,_,e2⟩|⟨_,_,_,e2⟩<;>rw [e2]<;>simp
 refine ⟨hA,hB,?_,?_,?_,?_,by rw [n1];omega,by rw [n2];omega,by omega⟩
 all_goals rcases hi.sgn with ⟨e1,e2,e3,e4⟩|⟨e1,e2,e3,e4⟩<;>omega
theorem e_end {a b j:Nat} (hb0:b≠0) (hj:∀ i,i<j→gB a b i≠0) (h:gB a b j=0) :
  gA a b j=Nat.gcd a b∧(gX a b j).natAbs≤b∧(gY a b j).natAbs≤a+1∧(a:Int)*gX a b j+b*gY a b j=(Nat.gcd a b:Nat)∧(gX a b j<0→0≤gX a b j+((b/Nat.gcd a b:Nat):Int))∧0<Nat.gcd a b:=by
 obtain ⟨u0,u1,v0,v1,hi⟩:=EInv.all j hj
 have hj1:1≤j:=by
  rcases Nat.eq_zero_or_pos j with h0|h0
  · subst h0;exact absurd h hb0
  · exact h0
 have hg:gA a b j=Nat.gcd a b:=by
  have:=hi.hg;rw [h,Nat.gcd_zero_right] at this;exact this
 have hpos:0<Nat.gcd a b:=Nat.gcd_pos_of_pos_right _ (Nat.pos_of_ne_zero hb0);have hbb:=hi.hb;rw [h,Nat.zero_mul,Nat.add_zero,hg] at hbb;have hu:u0≤u1:=(hi.big hj1).2;have hq:b/Nat.gcd a b=u1:=Nat.div_eq_of_eq_mul_right hpos hbb.symm;have hbz:=hi.bz;rw [hg] at hbz;have hu1:u1≤b:=by rw [← hbb];exact Nat.le_mul_of_pos_left _ hpos
 have hv0:v0≤a+1:=by
  obtain ⟨i,rfl⟩:∃ i,j=i+1:=⟨j-1,by omega⟩;obtain ⟨p0,p1,r0,r1,hp⟩:=EInv.all i (fun k hk=>hj k (by omega))
  have hv:v0=r1:=by
   rcases hi.sgn with ⟨_,_,e3,_⟩|⟨_,_,e3,_⟩<;>rcases hp.sgn with ⟨_,_,_,f4⟩|⟨_,_,_,f4⟩<;>rw [e3] at f4<;>omega
  rw [hv];by_cases hz:gA a b i=0
  · have hi0:i=0:=by
     rcases Nat.eq_zero_or_pos i with h0|h0
     · exact h0
     · have:=(hp.big h0).1;omega
    subst hi0;have e:gY a b 1=1:=rfl
    rcases hp.sgn with ⟨_,_,_,e2⟩|⟨_,_,_,e2⟩
    · rw [e] at e2;omega
    · rw [e] at e2;omega
  · have h2:r1≤gA a b i*r1:=Nat.le_mul_of_pos_left _ (Nat.pos_of_ne_zero hz)
    have:=hp.ha;omega
 refine ⟨hg,?_,?_,hbz,?_,hpos⟩
 · rcases hi.sgn with ⟨e1,_⟩|⟨e1,_⟩<;>rw [e1]<;>omega
 · rcases hi.sgn with ⟨_,_,e3,_⟩|⟨_,_,e3,_⟩<;>rw [e3]<;>omega
 · intro _
   rw [hq]
   rcases hi.sgn with ⟨e1,_⟩|⟨e1,_⟩<;>rw [e1]<;>omega
theorem e_stops (a b:Nat):∃ N,gB a b N=0∧∀ i,i<N→gB a b i≠0:=by
 have h:∀ k j,gB a b j≤k→(∀ i,i<j→gB a b i≠0)→∃ N,gB a b N=0∧∀ i,i<N→gB a b i≠0:=by
  intro k
  induction k with
  | zero=>exact fun j hj hi=>⟨j,by omega,hi⟩
  | succ k ih =>
    intro j hj hi;by_cases h0:gB a b j=0
    · exact ⟨j,h0,hi⟩
    · refine ih (j+1) ?_ (fun i hlt=>?_)
      · rw [gB_succ]
        have:=Nat.mod_lt (gA a b j) (Nat.pos_of_ne_zero h0);omega
      · by_cases e:i=j
        · subst e;exact h0
        · exact hi i (by omega)
 exact h _ 0 (Nat.le_refl _) (fun i hi=>absurd hi (Nat.not_lt_zero _))
end Go.Proofs.YtiacajjpkncomaaGreatDoor
namespace Go.Proofs.YtiacajjpkncomaaGreatDoor
end Go.Proofs.YtiacajjpkncomaaGreatDoor
