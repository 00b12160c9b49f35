/- Two words for regions that draw their order, walked step by step: a step whose slot is named; the load of a whole row. A region that draws its order, by an invariant: each operation is walked once, whatever has come up before it. -/
import Derived.Test.YtiacajjpkncomaaGreatDoorExBA
import Derived.Deep.RegionHeld3
import Derived.Laws.Rows
namespace Go.Proofs.YtiacajjpkncomaaGreatDoor
set_option linter.unusedVariables false
theorem run_exec_load_row {P:Program} {o:Oper} {a:Act} {w:World} (ty:TypeId) (x:Operand) (ho:o.op=.load ty x)
  (g:Nat) (hx:a.eval x=.pointer (some ⟨g,0,none⟩)) (t:TypeId) (cs:Array Value) (fr:Nat × Nat) (d:TypeDesc) (hg:w.heap[g]?=some (.cells cs t fr))
  (hu:P.underlying ty=some d) (hd:(match d with|.struct _|.array _ _=>true|_=>false)=true) (hi:(P.info? ty).map (·.size)=some cs.size) :
  (execOp a.eval o).run P w=.ok (.value (.agg cs)) w:=by
 unfold execOp;simp only [ho,hx,Instr.loadAt,Instr.sureAddr,Sem.run_bind,Sem.run_pure,Result.andThen_ok,run_loadVar_row w g t ty cs fr d hg hu hd hi]
section
variable {P:Program} {ops:Array Oper} {Q:Exit→Act→World→Prop} {md:Region.Mode} {S:World→Prop}
theorem wpAnyH_takeD {i:Nat} {oi:Oper} {v:Value} {fuel:Nat} {listed:Array Bool} {a:Act} {w:World} (d:Option Tmp) (hi:ops[i]?=some oi)
  (hs:Region.noSelect ops=true) (hf:Region.free md ops listed i=true) (hr:(Region.ready md ops listed).contains i=true)
  (hQ:∀ c a w,Q (.panic c) (a.put oi.dst v) w→Q (.panic c) a w) (hd:oi.dst=d) (hy:YieldsIf P ops S oi v a) (hS:S w)
  (h:wpAnyH P md ops Q S fuel (listed.setIfInBounds i true) (a.put d v) w):wpAnyH P md ops Q S (fuel+1) listed a w:=by
 subst hd;exact wpAnyH_take hi hs hf hr hQ hy hS h
theorem tk {i:Nat} {oi:Oper} {v:Value} {fuel:Nat} {listed:Array Bool} {a:Act} {w:World} (d:Tmp) (hi:ops[i]?=some oi) (hy:YieldsIf P ops S oi v a)
  (h:wpAnyH P md ops Q S fuel (listed.setIfInBounds i true) (a.put (some d) v) w)
  (hs:Region.noSelect ops=true:=by kernel_rfl) (hf:Region.free md ops listed i=true:=by kernel_rfl) (hr:(Region.ready md ops listed).contains i=true:=by kernel_rfl)
  (hQ:∀ c a w,Q (.panic c) (a.put oi.dst v) w→Q (.panic c) a w:=by exact fun _ _ _ h=>h) (hd:oi.dst=some d:=by rfl) (hS:S w:=by assumption):wpAnyH P md ops Q S (fuel+1) listed a w :=
 wpAnyH_takeD (some d) hi hs hf hr hQ hd hy hS h
theorem sT (l:List Value) (i:Nat) (v:Value):l.toArray.setIfInBounds i v=(l.set i v).toArray:=List.setIfInBounds_toArray l i v
end
def addL (L:Nat→Bool) (i:Nat):Nat→Bool:=fun j=>if j=i then true else L j
section
variable {P:Program} {ops:Array Oper} {Q:Exit→Act→World→Prop} {md:Region.Mode} {S:World→Prop}
structure StpW (p:Prop):Prop where
 out:p
def StepJ (P:Program) (md:Region.Mode) (ops:Array Oper) (Q:Exit→Act→World→Prop) (J:(Nat→Bool)→Act→World→Prop) (i:Nat):Prop :=
 ∀ (o:Oper),ops[i]?=some o→∀ (L:Nat→Bool) (a:Act) (w:World),J L a w→L i=false→(∀ e∈o.after,Region.binds md e=true→L e.on=true) →
  ∀ K':Act→World→Prop,Shut (∀ a w,J (addL L i) a w→K' a w)→if Region.wanted o (yielded ops a.tmps)=true then Oper.wp P o a w K' Q else K' (a.put o.dst undef) w
def StepsJ (P:Program) (md:Region.Mode) (ops:Array Oper) (Q:Exit→Act→World→Prop) (J:(Nat→Bool)→Act→World→Prop) (rs:List Nat):Prop:=∀ i∈rs,StepJ P md ops Q J i
theorem StepsJ.nil {J:(Nat→Bool)→Act→World→Prop}:StepsJ P md ops Q J []:=fun _ h=>by cases h
theorem StepsJ.cons {J:(Nat→Bool)→Act→World→Prop} {i:Nat} {o:Oper} {rs:List Nat} (ho:ops[i]?=some o)
  (h:∀ (L:Nat→Bool) (a:Act) (w:World),J L a w→L i=false→(∀ e∈o.after,Region.binds md e=true→L e.on=true) →
   ∀ K':Act→World→Prop,Shut (∀ a w,J (addL L i) a w→K' a w)→StpW (if Region.wanted o (yielded ops a.tmps)=true then Oper.wp P o a w K' Q else K' (a.put o.dst undef) w))
  (hs:StepsJ P md ops Q J rs):StepsJ P md ops Q J (i::rs):=fun j hj=>by
 rcases List.mem_cons.1 hj with rfl|hj
 · intro o' ho' L a w hJ hL ha K' hK
   obtain rfl:o'=o:=Option.some.inj (ho'.symm.trans ho);exact (h L a w hJ hL ha K' hK).out
 · exact hs j hj
theorem getD_both {listed:Array Bool} {i:Nat} (h:i<listed.size):listed.getD i false=listed.getD i true:=by
 simp [Array.getD,h]
theorem all_listed {listed:Array Bool} (hsz:listed.size=ops.size) (hback:∀ (i:Nat) (o:Oper),ops[i]?=some o→∀ e∈o.after,Region.binds md e=true→e.on<i) (hr:Region.ready md ops listed=[]) :
  ∀ i,i<ops.size→listed.getD i true=true:=by
 intro i
 induction i using Nat.strongRecOn with
 | ind i ih =>
   intro hi
   cases hc:listed.getD i true with
   | true=>rfl
   | false =>
     exfalso
     have:i∈Region.ready md ops listed:=mem_ready.2 ⟨hc,ops[i],Array.getElem?_eq_getElem hi,fun e he hbi=>by
      have hb:=hback i ops[i] (Array.getElem?_eq_getElem hi) e he hbi;rw [getD_both (by omega)]
      exact ih e.on hb (by omega)⟩
     rw [hr] at this
     cases this
theorem wpAnyH_inv (J:(Nat→Bool)→Act→World→Prop) (hS:∀ L a w,J L a w→S w) (hback:∀ (i:Nat) (o:Oper),ops[i]?=some o→∀ e∈o.after,Region.binds md e=true→e.on<i)
  (hstep:StepsJ P md ops Q J (List.range ops.size))
  (hend:∀ L a w,J L a w→(∀ i,i<ops.size→L i=true)→Q .normal a w) :
  ∀ (fuel:Nat) (listed:Array Bool) (a:Act) (w:World),listed.size=ops.size→listed.toList.countP (fun b=>!b)≤fuel→J (fun i=>listed.getD i true) a w→wpAnyH P md ops Q S fuel listed a w:=by
 intro fuel
 induction fuel with
 | zero =>
   intro listed a w hsz hc hJ
   have hall:∀ i,i<ops.size→listed.getD i true=true:=by
    intro i hi;have h0:listed.toList.countP (fun b=>!b)=0:=by omega
    rw [List.countP_eq_zero] at h0;have hi':i<listed.size:=by omega
    have:=h0 (listed[i]) (by simp);simp [Array.getD,hi'];simpa using this
   refine ⟨?_,hend _ _ _ hJ hall⟩;apply List.eq_nil_iff_forall_not_mem.2;intro i hi;have h1:=(mem_ready.1 hi).1;obtain ⟨_,o,ho,_⟩:=mem_ready.1 hi;rw [hall i (Array.getElem?_eq_some_iff.1 ho).1] at h1
   cases h1
 | succ fuel ih =>
   intro listed a w hsz hc hJ;refine ⟨fun hr=>hend _ _ _ hJ (all_listed hsz hback hr),fun i hi=>?_⟩;obtain ⟨h1,o,ho,hall⟩:=mem_ready.1 hi;have hio:i<ops.size:=(Array.getElem?_eq_some_iff.1 ho).1;have hil:i<listed.size:=by omega
   refine wpOp_step ho (fun K' hK=>?_);refine hstep i (List.mem_range.2 hio) o ho _ a w hJ h1 (fun e he hb=>?_) K' (fun a' w' hJ'=>?_)
   · have h2:=hall e he hb
     show listed.getD e.on true=true
     rcases Nat.lt_or_ge e.on listed.size with h3|h3
     · rw [← getD_both h3];exact h2
     · simp [Array.getD,Nat.not_lt.2 h3]
   · refine hK a' w' ⟨hS _ _ _ hJ',ih _ a' w' (by simpa using hsz) ?_ ?_⟩
     · have hb:listed[i]=false:=by simpa [Array.getD,hil] using h1
       have hcount:(listed.toList.set i true).countP (fun b=>!b)+1=listed.toList.countP (fun b=>!b):=by
        have e1:=List.take_append_drop i listed.toList
        have e2:listed.toList.drop i=listed[i]::listed.toList.drop (i+1):=by
         rw [List.drop_eq_getElem_cons (by simpa using hil)];simp
        have e3:listed.toList.set i true=listed.toList.take i++true::listed.toList.drop (i+1):=by
         rw [List.set_eq_take_append_cons_drop,if_pos (by simpa using hil)]
        rw [e3]
        conv=>rhs;rw [← e1,e2,hb]
        rw [List.countP_append,List.countP_append,List.countP_cons,List.countP_cons];simp;omega
       rw [Array.toList_setIfInBounds];omega
     · have:(fun j=>(listed.setIfInBounds i true).getD j true)=addL (fun j=>listed.getD j true) i:=by
        funext j
        unfold addL;by_cases hj:j=i
        · subst hj
          rw [if_pos rfl];simp [Array.getD,hil]
        · rw [if_neg hj,getD_set_ne true (Ne.symm hj)]
       rw [this];exact hJ'
theorem back_of (h:((List.range ops.size).all fun i=>match ops[i]? with|some o=>o.after.all (fun e=>!Region.binds md e||decide (e.on<i))|none=>true)=true):∀ (i:Nat) (o:Oper),ops[i]?=some o→∀ e∈o.after,Region.binds md e=true→e.on<i:=by
 intro i o ho e he hbi;have h1:=List.all_eq_true.1 h i (List.mem_range.2 (Array.getElem?_eq_some_iff.1 ho).1);simp only [ho] at h1;have h2:=Array.all_eq_true_iff_forall_mem.1 h1 e he;rw [hbi] at h2;exact of_decide_eq_true (by simpa using h2)
theorem wpAnyH_gen {fuel:Nat} {listed:Array Bool} {a:Act} {w:World} (h:∀ a0,a=a0→wpAnyH P md ops Q S fuel listed a0 w):wpAnyH P md ops Q S fuel listed a w:=h a rfl
end
end Go.Proofs.YtiacajjpkncomaaGreatDoor
