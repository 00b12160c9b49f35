/- wallet: slices.Clone of counts. -/
import Derived.Test.YtlheedcnmfekoaaWv
namespace Go.Proofs.Ytlheedcnmfekoaa
open Go.RowKit
set_option maxRecDepth 100000
set_option linter.unusedVariables false
set_option maxHeartbeats 4000000

theorem usedE : ∃ i : TypeInfo, Try.prog.info? 56 = some i ∧ i.zero = some (.agg #[.string ByteArray.empty, .int .i64 0, .int .i64 0]) ∧ i.size = 3 ∧ i.bytes = 32 := by
  have h : (Try.prog.info? 56).map (fun i => (i.zero, i.size, i.bytes)) = some (some (.agg #[.string ByteArray.empty, .int .i64 0, .int .i64 0]), 3, 32) := by kernel_rfl
  obtain ⟨i, h1, h2, h3, h4⟩ := info_parts h
  exact ⟨i, h1, h2, h3, h4⟩
theorem cellsU_one (us : List Uz) : ∀ u ∈ cellsU us, u.oneCell' = true := by
  induction us with
  | nil => intro u hu; cases hu
  | cons x r ih =>
    obtain ⟨s, p, c⟩ := x
    intro u hu
    simp only [cellsU, List.mem_cons] at hu
    rcases hu with rfl | rfl | rfl | hu
    · rfl
    · rfl
    · rfl
    · exact ih u hu
/-- A row of the call's own, as a slice of counts. -/
theorem SlU.of_own {w : World} {base : Nat} {v : Value} {n : Nat} {us : List Uz} (h : w.ownsRow base 56 3 v n (cellsU us)) (hn : us.length = n) : ∃ A c, v = .slice A n c ∧ SlU w (fun g => base ≤ g ∧ g < w.heap.size) A us := by
  rcases h.2 with ⟨rfl, h0⟩ | ⟨g, cap, cur, rfl, hb, hg, _⟩
  · exact ⟨none, 0, by rw [h0], fun hx => absurd hx (by omega)⟩
  · refine ⟨some ⟨g, 0, none⟩, cap, rfl, fun _ => ⟨g, 0, rfl, ⟨hb, (Array.getElem?_eq_some_iff.1 hg).1⟩, fun j u hu => ?_⟩⟩
    have := h.cells (g := g) rfl j u hu
    rwa [addr_add] at this
theorem clone_U (us : List Uz) (A : Option Addr) (n c : Nat) (S : Nat → Prop) (w : World) (hn : us.length = n) (hm : n ≤ 100000) (h : SlU w S A us) (hS : ∀ g, S g → g < w.heap.size) :
    Calls Try.prog 63 #[.slice A n c] w fun e w' => ∃ A' c', e = .returned (.slice A' n c') ∧ SlU w' (fun g => w.heap.size ≤ g ∧ g < w'.heap.size) A' us ∧ Below w.heap.size w w' := by
  obtain ⟨i, hi, hz, hs1, hb1⟩ := usedE
  have q24 : ∀ w : World, (binOp .eql 26 (.slice A n c) (.slice none 0 0)).run Try.prog w = .ok (.bool A.isNone) w := fun w => Lib.run_eql_slice_nil w _ _ A n c 0 0 Try.underlying26
  cases A with
  | none =>
    have h0 : us = [] := by
      cases us with
      | nil => rfl
      | cons x r => obtain ⟨g, off, e, _⟩ := h (by simp); cases e
    subst h0
    obtain rfl : n = 0 := by rw [← hn]; rfl
    clear h hS hn hm
    go_enter Try.func63, Try.ntmps63
    go_wp2_with fail
    go_ret
    exact ⟨none, _, rfl, fun hx => absurd hx (by simp), Below.refl _ _⟩
  | some ad =>
    have HR := Lib.hid (show Reads (w.alloc (.cells #[] 56)) (w.alloc (.cells #[] 56)).heap.size 3 (some ad) n (cellsU us) from ⟨by rw [cellsU_len, hn], fun hx => by
      obtain ⟨g, off, e, hg, hc⟩ := h (by rw [hn]; exact hx)
      refine ⟨_, e, Nat.lt_of_lt_of_le (hS g hg) (by simp), fun j u hu => ?_⟩
      rw [addr_add]
      exact Lib.cell?_alloc_some _ (hc j u hu)⟩)
    have HN := Lib.hid hn
    clear h hS hn
    go_enter Try.func63, Try.ntmps63
    go_wp2_with (at_builtin; go_loud (refine wpList_append_any _ rfl _ _ 26 rfl w.heap.size 56 i (.agg #[.string ByteArray.empty, .int .i64 0, .int .i64 0]) 3 32 Try.underlying26 hi hz hs1 hb1 rfl (by decide) _ 0 [] rfl (World.ownsRow_made w #[] 0 (Nat.le_refl _) (Nat.zero_le _) rfl) _ (some ad) n c (cellsU us) rfl HR.out (cellsU_one us) (by unfold maxLen; omega) (by omega) (by simp) ?_))
    intro v' w1 hown hgrow hnil
    obtain ⟨A', c', rfl, hs⟩ := SlU.of_own (n := n) (by simpa using hown) HN.out
    go_wp2
    go_ret
    exact ⟨A', c', rfl, hs, ((Below.refl _ w).alloc (Nat.le_refl _) _).grown hgrow (by simp) (by intro k hk; simp [Value.ownBlock] at hk; omega)⟩

end Go.Proofs.Ytlheedcnmfekoaa
