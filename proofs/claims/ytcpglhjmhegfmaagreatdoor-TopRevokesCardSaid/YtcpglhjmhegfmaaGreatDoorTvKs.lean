/- Loads of a part of a row. -/
import Derived.Test.YtcpglhjmhegfmaaGreatDoorTvUU
import Derived.Test.YtcpglhjmhegfmaaGreatDoorTvBR
import Derived.Test.YtcpglhjmhegfmaaGreatDoorTvY3
import Derived.Test.YtcpglhjmhegfmaaGreatDoorTvKe
import Derived.Test.YtcpglhjmhegfmaaGreatDoorTvU4
import Derived.Test.YtcpglhjmhegfmaaGreatDoorTvII
import Derived.Test.YtcpglhjmhegfmaaGreatDoorTvBM
import Derived.Test.YtcpglhjmhegfmaaGreatDoorTvBH
import Derived.Deep.MidRow
import Derived.RangeFuncBox
import Derived.RangeFuncNested
import Derived.RangeFuncBound
import Derived.RangeFuncCalls
import Derived.RangeFuncLeaves
import Derived.RangeFuncFrom
import Derived.Shelf.Abstract
import Derived.Shelf.RegionOpen
import Derived.WalkKit
import Derived.OwnWalkIn
import Derived.TacticsInMore
import Derived.LoopNIn
import Derived.LoopIn
import Derived.Deep.DeepCutAuto
import Derived.Deep.CutBlock
import Derived.ProofKit
namespace Go.Proofs.YtcpglhjmhegfmaaGreatDoor
open Go.RowKit
set_option maxRecDepth 100000
set_option linter.unusedVariables false
theorem run_loadVar_sub {P : Program} (w : World) (g k : Nat) (t ty : TypeId) (cs cs0 : Array Value) (fr : Nat × Nat) (d : TypeDesc) (hg : w.heap[g]? = some (.cells cs0 t fr)) (hx : cs0.extract k (k + cs.size) = cs)
    (hu : P.underlying ty = some d) (hd : (match d with | .struct _ | .array _ _ => true | _ => false) = true) (hi : (P.info? ty).map (·.size) = some cs.size) :
    (loadVar ty ⟨g, k, none⟩).run P w = .ok (.agg cs) w := by
  have hl : (loadCells ⟨g, k, none⟩ cs.toList.length).run P w = .ok cs.toList.toArray w :=
    run_loadCells_list (P := P) w ⟨g, k, none⟩ cs.toList (fun j v hv => by
      have hadd : (⟨g, k, none⟩ : Addr).add j = ⟨g, k + j, none⟩ := by unfold Addr.add; split <;> simp_all
      rw [hadd, cell_of_row w g (k + j) cs0 t fr hg]
      have hv' : cs[j]? = some v := by simpa using hv
      rw [← hx, Array.getElem?_extract] at hv'
      split at hv'
      · exact hv'
      · cases hv')
  cases hq : P.info? ty with
  | none => simp [hq] at hi
  | some i =>
    have hs : i.size = cs.size := by simpa [hq] using hi
    have hagg : (isAgg ty).run P w = .ok true w := by
      unfold isAgg
      rw [Sem.run_bind, run_underlying hu w]
      cases d <;> simp_all
    simp only [Array.length_toList, Array.toArray_toList] at hl
    simp [loadVar, Sem.run_bind, hagg, sizeOf, typeInfo, hq, hs, hl]
/-- A look whether the goal is a list of operations (for the head of an arm). -/
theorem wpList_look {P : Program} {ops : Array Oper} {rest : List Oper} {o : Oper} {a : Act} {w : World} {Q : Exit → Act → World → Prop} (h : wpList P ops Q (o :: rest) a w) : wpList P ops Q (o :: rest) a w := h
theorem wpList_load_sub {P : Program} {ops : Array Oper} {rest : List Oper} {o : Oper} {a : Act} {w : World} {Q : Exit → Act → World → Prop} (hgd : Region.wanted o (yielded ops a.tmps) = true) (ty : TypeId) (x : Operand) (ho : o.op = .load ty x)
    (g k : Nat) (hx : a.eval x = .pointer (some ⟨g, k, none⟩)) (t : TypeId) (cs cs0 : Array Value) (fr : Nat × Nat) (d : TypeDesc) (hg : w.heap[g]? = some (.cells cs0 t fr)) (hs : cs0.extract k (k + cs.size) = cs)
    (hu : P.underlying ty = some d) (hd : (match d with | .struct _ | .array _ _ => true | _ => false) = true) (hi : (P.info? ty).map (·.size) = some cs.size)
    (h : wpList P ops Q rest (a.put o.dst (.agg cs)) w) : wpList P ops Q (o :: rest) a w :=
  wpList_step fun K hK => by
    rw [if_pos hgd]
    unfold Oper.wp execOp
    simp only [ho, hx, Instr.loadAt, Instr.sureAddr, Sem.run_bind, Sem.run_pure, Result.andThen_ok, run_loadVar_sub w g k t ty cs cs0 fr d hg hs hu hd hi]
    exact hK _ _ h
/-- A row with some of its cells changed. -/
def putL (cs : Array Value) (o : Nat) : List Value → Array Value
  | [] => cs
  | v :: r => putL (cs.setIfInBounds o v) (o + 1) r
/-- One row of memory is changed, and nothing else. -/
structure Put1 (w w' : World) (g : Nat) (cs' : Array Value) (t : TypeId) : Prop where
  blk : w'.heap[g]? = some (.cells cs' t (0, 0))
  oth : ∀ i, i ≠ g → w'.heap[i]? = w.heap[i]?
  size : w'.heap.size = w.heap.size
  bel : ∀ B a, B ≤ g → Below B a w → Below B a w'
theorem put1_setCells (g : Nat) (t : TypeId) : ∀ (vs : List Value) (o : Nat) (w : World) (cs : Array Value), w.heap[g]? = some (.cells cs t (0, 0)) → Put1 w (w.setCells g o vs) g (putL cs o vs) t
  | [], o, w, cs, h => ⟨h, fun _ _ => rfl, rfl, fun _ _ _ h => h⟩
  | v :: r, o, w, cs, h => by
    have h1 := heap_setCell_same w g o cs t v h
    have ih := put1_setCells g t r (o + 1) (w.setCell ⟨g, o, none⟩ v) _ h1
    refine ⟨ih.blk, fun i hi => (ih.oth i hi).trans (heap_setCell_other w ⟨g, o, none⟩ i v hi), ih.size.trans ?_, fun B a hB hb => ih.bel B a hB (hb.setCell hB v)⟩
    rw [setCell_eq_setRow w g o cs t (0, 0) v h]
    simp [World.setRow]
theorem Put1.row {w w' : World} {g i : Nat} {cs' cs : Array Value} {t T : TypeId} (h : Put1 w w' g cs' t) (hi : i ≠ g) (hc : w.heap[i]? = some (.cells cs T (0, 0))) : w'.heap[i]? = some (.cells cs T (0, 0)) := (h.oth i hi).trans hc
theorem there_row {w : World} {g k n : Nat} {cs : Array Value} {t : TypeId} (hg : w.heap[g]? = some (.cells cs t (0, 0))) (hk : k + n ≤ cs.size) : w.there g k n := by
  intro j hj
  refine ⟨?_, frozen_of_row w g _ cs t hg⟩
  rw [cell_of_row w g _ cs t (0, 0) hg, Array.getElem?_eq_getElem (by omega)]
  rfl
theorem wpList_store_sub {P : Program} {ops : Array Oper} {rest : List Oper} {o : Oper} {a : Act} {w : World} {Q : Exit → Act → World → Prop} (hgd : o.guard = none) (ty : TypeId) (x y : Operand) (ho : o.op = .store ty x y)
    (g k : Nat) (hx : a.eval x = .pointer (some ⟨g, k, none⟩)) (vs : List Value) (hy : a.eval y = .agg vs.toArray) (t : TypeId) (cs cs' : Array Value) (hg : w.heap[g]? = some (.cells cs t (0, 0)))
    (hs : putL cs k vs = cs') (hk : k + vs.length ≤ cs.size) (hi : (P.info? ty).map (·.size) = some vs.length) (h1 : ∀ v ∈ vs, v.oneCell' = true)
    (h : ∀ w', Put1 w w' g cs' t → wpList P ops Q rest (a.put o.dst undef) w') : wpList P ops Q (o :: rest) a w :=
  wpList_store_mid hgd ty x y ho g k vs.toArray hx hy (there_row hg (by simpa using hk)) (by simpa using hi) (all_oneCell_toArray h1) (h _ (by subst hs; exact put1_setCells g t vs k w cs hg))
end Go.Proofs.YtcpglhjmhegfmaaGreatDoor
