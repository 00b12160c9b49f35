/- Words for memory: slices of strings that came in; sets of strings (map[api.Nat]bool) that a call makes. -/
import Derived.Test.YtcpglhjmhegfmaaGreatDoorTvBM
import Derived.Test.YtcpglhjmhegfmaaGreatDoorTvBR
import Derived.Maps.Own
import Derived.Maps.OwnOps
import Derived.Maps.OwnSet
import Derived.Maps.Views
import Derived.StringKeys
namespace Go.Proofs.YtcpglhjmhegfmaaGreatDoor
open Go.RowKit
set_option maxRecDepth 100000
set_option linter.unusedVariables false
theorem law_nat : Maps.Keyed Tryz.prog 22 := Maps.string_keyed Tryz.underlying22
/-- A set of strings: block b is a map that holds true at just these. -/
def SetMap (w : World) (b n : Nat) (ls : List ByteArray) : Prop :=
  ∃ D : DataW Unit, w.ownsMap Tryz.prog 22 (plainElem Tryz.prog 4) b n D ∧ Maps.IsMap D ∧
    ∀ s : ByteArray, D.atKey (.string s.data.toList) (.lit (.bool false)) = .lit (.bool (ls.any fun x => x.toList == s.toList))
theorem SetMap.made (w : World) : SetMap (w.alloc (.map #[] 0)) w.heap.size 0 [] :=
  ⟨.map [], World.ownsMap_made _ _ _ _, Maps.isMap_empty, fun s => rfl⟩
theorem SetMap.kept {w w' : World} {b n B : Nat} {ls : List ByteArray} (h : SetMap w b n ls) (hb : Below B w w') (hB : b < B) : SetMap w' b n ls := by
  obtain ⟨D, ⟨es, clock, h1, h2⟩, hm, ha⟩ := h
  exact ⟨D, ⟨es, clock, (hb.block b hB).trans h1, h2⟩, hm, ha⟩
theorem SetMap.lt {w : World} {b n : Nat} {ls : List ByteArray} (h : SetMap w b n ls) : b < w.heap.size := by
  obtain ⟨D, ho, _, _⟩ := h
  exact ho.lt
theorem toList_beq_iff (a b : ByteArray) : (a.toList == b.toList) = decide (a.data.toList = b.data.toList) := by
  rw [Bool.eq_iff_iff, beq_iff_eq, decide_eq_true_eq, ByteArray.toList_eq, ByteArray.toList_eq]
/-- 'm[k]' at elements that are bools. -/
theorem wpList_lookup_set {ops : Array Oper} {rest : List Oper} {o : Oper} {a : Act} {Q : Exit → Act → World → Prop} (w : World)
    (hg : o.guard = none) (m x : Operand) (t : TypeId) (hop : o.op = Op.lookup t m x false) (ht : Tryz.prog.underlying t = some (.map 22 4))
    (b n : Nat) (ls : List ByteArray) (hm : a.eval m = .map (some b)) (hown : SetMap w b n ls) (s : ByteArray) (hx : a.eval x = .string s) (hs : s.size ≤ 1000)
    (hK : wpList Tryz.prog ops Q rest (a.put o.dst (.bool (ls.any fun y => y.toList == s.toList))) w) :
    wpList Tryz.prog ops Q (o :: rest) a w := by
  refine wpList_plain hg fun K' hK' => ?_
  obtain ⟨D, ho, _, ha⟩ := hown
  have hz : (zeroValue 4).run Tryz.prog w = .ok (.bool false) w := by kernel_rfl
  have hkey : keyOf Tryz.prog 22 (.string s) = some (.string s.data.toList) := Go.WideMaps.keyOf_string_mk Tryz.underlying22 (by unfold maxLen; omega)
  obtain ⟨v, ps, hrun, hv⟩ := ho.lookup law_nat ht hz (plainElem_bool Tryz.underlying4 false) hkey
  rw [ha s] at hv
  have hv2 : v = .bool (ls.any fun y => y.toList == s.toList) := by
    unfold plainElem at hv
    rw [Tryz.underlying4] at hv
    cases v <;> simp at hv
    rw [hv.1]
  subst hv2
  unfold Oper.wp
  simp [execOp, hop, hm, hx, hrun, Result.andThen]
  exact hK' _ _ hK
/-- 'm[k] = true'. -/
theorem wpList_put_set {ops : Array Oper} {rest : List Oper} {o : Oper} {a : Act} {Q : Exit → Act → World → Prop} (w : World)
    (hg : o.guard = none) (m x v : Operand) (t : TypeId) (hop : o.op = Op.mapUpdate t m x v) (ht : Tryz.prog.underlying t = some (.map 22 4))
    (b n : Nat) (ls : List ByteArray) (hm : a.eval m = .map (some b)) (hown : SetMap w b n ls) (hn : n ≤ 1000) (s : ByteArray) (hx : a.eval x = .string s) (hv : a.eval v = .bool true) (hs : s.size ≤ 1000)
    (hK : ∀ w', SetMap w' b (n + 1) (s :: ls) → Below b w w' → w.heap.size ≤ w'.heap.size → wpList Tryz.prog ops Q rest (a.put o.dst undef) w') :
    wpList Tryz.prog ops Q (o :: rest) a w := by
  obtain ⟨D, ho, hm', ha⟩ := hown
  have hlt := ho.lt
  have hkey : keyOf Tryz.prog 22 (.string s) = some (.string s.data.toList) := Go.WideMaps.keyOf_string_mk Tryz.underlying22 (by unfold maxLen; omega)
  refine wpList_mapUpdate_own w hg m x v t hop 22 4 law_nat ht _ b n D hm ho (by unfold maxLen; omega) _ _ _ hx hv hkey _ [] (plainElem_bool Tryz.underlying4 true) ?_
  intro w' ho' hgr
  refine hK w' ⟨_, ho', hm'.put _ _, fun s' => ?_⟩ ?_ hgr.size
  · rw [List.any_cons, toList_beq_iff]
    by_cases e : s'.data.toList = s.data.toList
    · rw [e, Maps.atKey_put_same hm' (law_nat.key hkey), decide_eq_true rfl, Bool.true_or]
    · rw [Maps.atKey_put_other (by intro h; exact e (by injection h)), ha s', decide_eq_false (fun h => e h.symm), Bool.false_or]
  · exact (Below.refl b w).grown hgr (Nat.le_of_lt hlt) (fun g hg => by injection hg with hg; omega)
end Go.Proofs.YtcpglhjmhegfmaaGreatDoor
