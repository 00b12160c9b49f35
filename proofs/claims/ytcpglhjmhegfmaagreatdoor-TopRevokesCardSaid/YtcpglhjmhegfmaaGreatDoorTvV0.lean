/- What the rows of the accumulator share: opened keys and lists of numbers. -/
import Derived.Test.YtcpglhjmhegfmaaGreatDoorTvQ0
import Derived.Test.YtcpglhjmhegfmaaGreatDoorTvUm2
import Derived.Deep.Slices
namespace Go.Proofs.YtcpglhjmhegfmaaGreatDoor
open Go.ChangeShapes Go.WideShapes Go.ChangeAt Go.WideElems Go.RowKit Go.Deep
set_option maxRecDepth 100000
set_option linter.unusedVariables false
theorem c8K : Tryz.prog.cellsOf 27 = 8 := by kernel_rfl
theorem c1S : Tryz.prog.cellsOf 9 = 1 := by kernel_rfl
theorem c1L : Tryz.prog.cellsOf 25 = 1 := by kernel_rfl
theorem slice_cells {W : World} {v : Value} (hok : ∃ r b0, Value.okWide Tryz.prog W r b0 25 v) : v.cells = #[v] := by
  obtain ⟨r, b0, hok⟩ := hok
  cases v <;> first | rfl | (exfalso; simp [Value.okWide, Tryz.underlying25, Cell.okWide, Cell.ok] at hok)
theorem open_nats {H : Type} {enc : TypeId × Value → H} {W : World} {base : Nat} {sp : Nat → Bool} {held : Bool} {v : Value} {d : DataW H} {ps : List MemPlace}
    (h : DataW.Trod enc Tryz.prog W base sp held 25 v d ps) (hok : ∃ r b0, Value.okWide Tryz.prog W r b0 25 v) :
    ∃ (A : Option Addr) (n c : Nat) (ls : List ByteArray), v = .slice A n c ∧ ls.length = n ∧ n ≤ maxLen ∧ SLs W W.heap.size A ls := by
  have hv := slice_cells hok
  obtain ⟨fuel, hf⟩ := h
  rw [hv] at hf
  rcases open_slice Tryz.underlying25 hf with ⟨h0, _⟩ | ⟨a, len, cap, m, n, D, Pl, hcs, hb, hl, hm, hmm, hxx, hi⟩
  · have : v = .slice none 0 0 := by simpa using h0
    exact ⟨none, 0, 0, [], this, rfl, Nat.zero_le _, SLs.nil_⟩
  · have hv' : v = .slice (some a) len cap := by simpa using hcs
    have hle : len ≤ m := by rw [hmm]; split <;> omega
    have hat : ∀ i, i < len → ∃ s : ByteArray, W.cell? (a.add i) = some (.string s) := fun i hi' => by
      obtain ⟨cs', hc, ht⟩ := hi i (by omega)
      rw [c1N, Nat.mul_one] at hc
      obtain ⟨s, e, _, _⟩ := DataW.trod_string Tryz.underlying22 ht
      subst e
      obtain ⟨_, _, hat⟩ := World.cells?_some hc
      have := hat 0 (by simp)
      refine ⟨s, ?_⟩
      have e2 : (a.add i).add 0 = a.add i := by simp [Addr.add]
      rw [e2] at this
      simpa using this
    have hex : ∃ ls : List ByteArray, ls.length = len ∧ ∀ i, i < len → W.cell? (a.add i) = some (.string (ls.getD i ByteArray.empty)) := by
      clear hv' hcs hi hm hl hmm hle hv hf hxx
      induction len with
      | zero => exact ⟨[], rfl, fun i hi => absurd hi (Nat.not_lt_zero _)⟩
      | succ k ih =>
        obtain ⟨ls, h1, h2⟩ := ih (fun i hi => hat i (by omega))
        obtain ⟨s, hs⟩ := hat k (by omega)
        refine ⟨ls ++ [s], by simp [h1], fun i hi => ?_⟩
        by_cases e : i = k
        · subst e
          rw [hs, List.getD_eq_getElem?_getD, List.getElem?_append_right (by omega), h1]
          simp
        · rw [h2 i (by omega), List.getD_eq_getElem?_getD, List.getD_eq_getElem?_getD, List.getElem?_append_left (by omega)]
    obtain ⟨ls, h1, h2⟩ := hex
    refine ⟨some a, len, cap, ls, hv', h1, by omega, fun hne => ⟨a, rfl, ?_, fun j hj => h2 j (by omega)⟩⟩
    have h0 : 0 < len := by rw [← h1]; exact List.length_pos_iff.2 hne
    have hc0 := h2 0 h0
    have e2 : a.add 0 = a := by simp [Addr.add]
    rw [e2] at hc0
    exact World.block_lt_of_cell? W _ hc0
theorem wf_u8 {n : Int} (h : (Lit.int .u8 n).wf = true) : ∃ k : Nat, n = k ∧ k < 256 := by
  simp [Lit.wf, IntKind.min, IntKind.max, IntKind.bits, IntKind.signed] at h
  exact ⟨n.toNat, by omega, by omega⟩
theorem open_u8 {H : Type} {enc : TypeId × Value → H} {W : World} {base : Nat} {sp : Nat → Bool} {held : Bool} {v : Value} {d : DataW H} {ps : List MemPlace}
    (h : DataW.Trod enc Tryz.prog W base sp held 5 v d ps) (hok : ∃ r b0, Value.okWide Tryz.prog W r b0 5 v) : ∃ k : Nat, v = .int .u8 k ∧ k < 256 := by
  have hv : v.cells = #[v] := by
    obtain ⟨r, b0, hok⟩ := hok
    cases v <;> first | rfl | (exfalso; simp [Value.okWide, Tryz.underlying5, Cell.okWide, Cell.ok] at hok)
  obtain ⟨fuel, hf⟩ := h
  obtain ⟨a, e, _, hw⟩ := DataW.trod_int Tryz.underlying5 hf
  rw [hv] at e
  obtain ⟨k, rfl, hk⟩ := wf_u8 hw
  exact ⟨k, by simpa using e, hk⟩
end Go.Proofs.YtcpglhjmhegfmaaGreatDoor
