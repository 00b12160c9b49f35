/- A law of my own for a range over a function whose body leaves in its first round: the iterator may be without end. Made from the kit's lemmas on the loop's record. -/
import Derived.Test.YtiacajjpkncomaaGreatDoorExBR
import Derived.RangeFuncNested
import Derived.RangeFuncBound
import Derived.RangeFuncCalls
import Derived.RangeFuncLeaves
import Derived.RangeFuncFrom
import Derived.Shelf.Abstract
import Derived.Shelf.RegionOpen
import Derived.WalkKit
import Derived.OwnWalkIn
import Derived.TacticsInMore
import Derived.LoopNIn
import Derived.LoopIn
namespace Go.Proofs.YtiacajjpkncomaaGreatDoor
open Go.RowKit Go.Shelf
set_option linter.unusedVariables false
variable {F:Fence} {n:Nat} {P:Program}
def OnceSeq (F:Fence) (n:Nat) (P:Program) (gf:Nat) (lb:Array Value) (v:Value) (w:World):Prop :=
 ∀ (l:Nat) (R:World→Prop) (W:World),Below w.heap.size w W →
  (∀ W1,Below W.heap.size W W1→YieldAt F (n-1) P l #[v] W1 fun e W'=>e=.returned (.bool false)∧R W') →
  CallsIn F n P gf (#[.func (.yield l) #[] #[]]++lb) W fun e W'=>(∃ u,e=.returned u)∧R W'
def oncePost (Ix:Nat→World→Prop) (W:World):Exit→Act→World→Prop
 | .exit id,_,W'=>KeepsOthers W W'∧Ix id W'
 | _,_,_=>False
theorem wpIn_rangeFunc_once {g:Operand} {p:Tmp} {assign body:Code} {Q:Exit→Act→World→Prop} {a:Act} {w:World}
  (hro:F.round=none) (h1:1≤n) {gf:Nat} {lb:Array Value} (hg:a.eval g=.func (.func gf) #[] lb) (hFg:F.fn gf) (eg:∀ args w,(callFunc gf args).run P w=.ok (.enter gf args) w)
  (v:Value) (hseq:OnceSeq F (n-1) P gf lb v w) (I:World→Prop) (Ix:Nat→World→Prop)
  (hIb:∀ W W',I W→Below W.heap.size W W'→I W')
  (hIp:∀ (W:World) (l:Nat) (o o':Obj),I W→w.heap.size≤l→W.heap[l]?=some o→o.isCells=false→I (W.putObj l o'))
  (hXp:∀ (id:Nat) (W:World) (l:Nat) (o o':Obj),Ix id W→w.heap.size≤l→W.heap[l]?=some o→o.isCells=false→Ix id (W.putObj l o'))
  (h0:I w) (a₁:Act)
  (hassign:∀ (l:Nat) (W:World) (K:Act→World→Prop),K a₁ W→assign.wpIn (F.inRound l) (n-1-1) P (Exit.then K (fun _ _ _=>False)) { tmps:=(#[p].zip #[v]).foldl (fun t (p,v)=>t.setIfInBounds p v) a.tmps,defers:=[] } W)
  (hbody:∀ (l:Nat) (W:World),I W→body.wpIn (F.inRound l) (n-1-1) P (oncePost Ix W) a₁ W)
  (hstop:∀ (D:Nat) (id:Nat) (W:World),w.heap.size≤D→Ix id W→W.heap[D]?=some (.deferred (some []))→(Code.exit id).wpIn F n P Q { a with defers:={ target:=.collected D,args:=#[] }::a.defers } W) :
  (Code.rangeFunc g #[p] assign body).wpIn F n P Q a w:=by
 refine wpIn_rangeFunc ?_;intro fn hfn;rw [hro];obtain ⟨rec,hrec⟩:∃ rec:LoopState→Option Code→Loop,rec=fun st pe=>{ state:=st,pending:=pe,fn,tmps:=a.tmps,params:=#[p],assign,body,defers:=w.heap.size }:=⟨_,rfl⟩
 have hb1:Below w.heap.size w ((w.alloc (.deferred (some []))).alloc (.loop (rec .ready none))):=((Below.refl _ w).alloc (Nat.le_refl _) _).alloc (by simp) _
 have hL1:((w.alloc (.deferred (some []))).alloc (.loop (rec .ready none))).heap[w.heap.size+1]?=some (.loop (rec .ready none)):=by
  have:=World.alloc_heap_new (w.alloc (.deferred (some []))) (.loop (rec .ready none));rwa [World.size_alloc] at this
 have hK1:((w.alloc (.deferred (some []))).alloc (.loop (rec .ready none))).heap[w.heap.size]?=some (.deferred (some [])) :=
  (Below.heap_alloc _ _ _ (by simp)).trans (World.alloc_heap_new w _)
 generalize hW1:(w.alloc (.deferred (some []))).alloc (.loop (rec .ready none))=W1 at hb1 hL1 hK1;have hi1:I W1:=hIb _ _ h0 hb1;refine ⟨w.heap.size+1,[{ target:=.collected w.heap.size,args:=#[] }],W1,{ target:=.fn (.func gf) lb,args:=#[.func (.yield (w.heap.size+1)) #[] #[]] },W1,gf,#[.func (.yield (w.heap.size+1)) #[] #[]]++lb,W1,?_,?_,?_,?_,fun _=>h1,?_⟩
 · rw [← hW1,hrec];exact run_enterLoop_outer _ _ _ _ _
 · simp only [resolve,hg]
   simp [go_sem]
 · intro f' hf'
   simp [Target.leads] at hf';subst hf';exact hFg
 · simp [invoke,go_sem,eg]
 refine (hseq (w.heap.size+1) (fun W=>∃ id,Ix id W∧W.heap[w.heap.size+1]?=some (.loop (rec .done (some (.exit id))))∧W.heap[w.heap.size]?=some (.deferred (some []))) W1 hb1 ?_).mono ?_
 · intro W hbW
   have hsz:w.heap.size+1<W1.heap.size:=(Array.getElem?_eq_some_iff.1 hL1).1;have hl:W.heap[w.heap.size+1]?=some (.loop (rec .ready none)):=(hbW.block _ hsz).trans hL1;have hk:W.heap[w.heap.size]?=some (.deferred (some [])):=(hbW.block _ (by omega)).trans hK1;have hlt:w.heap.size+1<W.heap.size:=(Array.getElem?_eq_some_iff.1 hl).1;have hy:=run_yield (P:=P) (args:=#[v]) hl (by rw [hrec];rfl);rw [hrec] at hy;refine ⟨fn,_,assign,body,hy,roundIn_of_wpIn hfn (hassign _ W _ ⟨_,run_beginRound hl (by rw [hrec]),?_⟩)⟩;have hl2:(W.putObj (w.heap.size+1) (.loop { rec .ready none with state:=.busy })).heap[w.heap.size+1]?=some (.loop { rec .ready none with state:=.busy }):=World.putObj_heap_same hlt;have hk2:(W.putObj (w.heap.size+1) (.loop { rec .ready none with state:=.busy })).heap[w.heap.size]?=some (.deferred (some [])):=(World.putObj_heap_other (by omega)).trans hk;refine wpIn_mono (hbody _ _ (hIp _ _ _ _ (hIb _ _ hi1 hbW) (by omega) hl rfl)) ?_;rintro e a3 W3 hp
   cases e with
   | exit id =>
     obtain ⟨hk3,hi3⟩:=hp;have hl3:=hk3.same _ _ hl2 rfl;have hr:=run_endRound (P:=P) (some (.exit id)) hl3;rw [hrec] at hr hl3;refine ⟨_,_,hr,rfl,id,hXp _ _ _ _ _ hi3 (by omega) hl3 rfl,?_,?_⟩
     · rw [hrec];exact World.putObj_heap_same (Array.getElem?_eq_some_iff.1 hl3).1
     · exact (World.putObj_heap_other (by omega)).trans (hk3.same _ _ hk2 rfl)
   | normal=>exact hp.elim
   | ret=>exact hp.elim
   | goto t=>exact hp.elim
   | panic ch=>exact hp.elim
   | outgrown=>exact hp.elim
 · rintro e W2 ⟨⟨u,rfl⟩,id,hx,hl,hk⟩
   have hend:=run_endLoop (P:=P) hl (by rw [hrec];simp);rw [hrec] at hend;rw [hrec] at hl;exact ⟨some (.exit id),_,hend,hstop _ id _ (Nat.le_refl _) (hXp _ _ _ _ _ hx (by omega) hl rfl) ((World.putObj_heap_other (by omega)).trans hk)⟩
end Go.Proofs.YtiacajjpkncomaaGreatDoor
