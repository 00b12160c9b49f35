/- The walk of params.numbers. -/
import Derived.Test.YtapplggboepfaaaGreatDoorBR
import Derived.Deep.RegionHeld3
namespace Go.Proofs.YtapplggboepfaaaGreatDoor
open Go.RowKit
set_option maxRecDepth 100000
set_option linter.unusedVariables false
set_option maxHeartbeats 4000000

theorem nat_infoE : ∃ i : TypeInfo, Tryz.prog.info? 25 = some i ∧ i.zero = some (.string ByteArray.empty) ∧ i.size = 1 ∧ i.bytes = 16 := by
  obtain ⟨i, hi, hz⟩ := Option.map_eq_some_iff.1 nat_info
  simp only [Prod.mk.injEq] at hz
  exact ⟨i, hi, hz.1, hz.2.1, hz.2.2⟩
theorem strs_one (l : List ByteArray) : ∀ v ∈ l.map Value.string, v.oneCell' = true := by
  intro v hv
  obtain ⟨n, _, rfl⟩ := List.mem_map.mp hv
  rfl
/-- append of a row of strings onto a row of the call's own. -/
theorem wpList_append_S {w : World} {ops : Array Oper} {rest : List Oper} {o : Oper} {a : Act} {Q : Exit → Act → World → Prop} (hgd : o.guard = none) (s x : Operand)
    (ho : o.op = .call { callee := .builtin .append, args := #[s, x], argTypes := #[28, 28] })
    (base : Nat) (v : Value) (n : Nat) (ls : List ByteArray) (hs : a.eval s = v) (hown : OwnS w base v n ls)
    (A : Option Addr) (m c : Nat) (N : List ByteArray) (hx : a.eval x = .slice A m c) (hN : SLs w w.heap.size A N) (hm : N.length = m) (hsz : n + m ≤ 100000) (hbase : base ≤ w.heap.size)
    (h : ∀ v' w', OwnS w' base v' (n + m) (ls ++ N) → w.grownBy w' v.ownBlock → (v'.ownBlock = v.ownBlock ∨ v'.ownBlock = some w.heap.size) → wpList Tryz.prog ops Q rest (a.put o.dst v') w') : wpList Tryz.prog ops Q (o :: rest) a w := by
  obtain ⟨i, hi, hz, hs1, hb1⟩ := nat_infoE
  refine wpList_append_any w hgd s x 28 ho base 25 i (.string ByteArray.empty) 1 16 Tryz.underlying28 hi hz hs1 hb1 rfl (by decide) v n (ls.map Value.string) hs hown.2 w.heap.size A m c (N.map Value.string) hx (hN.reads hm) (strs_one N) (by unfold maxLen; omega) (by omega) hbase ?_
  intro v' w' h2 h3 h4
  refine h v' w' ⟨by rw [List.length_append, hown.1, hm], ?_⟩ h3 h4
  rw [List.map_append]; exact h2
theorem OwnS.blockOf {w : World} {base n : Nat} {v : Value} {ls : List ByteArray} (h : OwnS w base v n ls) : ∀ k, v.ownBlock = some k → base ≤ k ∧ k < w.heap.size := by
  intro k hk
  rcases h.2.2 with ⟨rfl, _⟩ | ⟨g, cap, cur, rfl, h1, hg, rest⟩
  · cases hk
  · cases hk
    exact ⟨h1, (Array.getElem?_eq_some_iff.1 hg).1⟩
end Go.Proofs.YtapplggboepfaaaGreatDoor
