/- Words for rows: groups, trapdoors and numbers as arguments. -/
import Derived.Test.YtdajbcohmnmbpaaGreatDoorZQ
namespace Go.Proofs.YtdajbcohmnmbpaaGreatDoor
open Go.ChangeShapes Go.WideShapes Go.ChangeAt Go.WideElems Go.RowKit
set_option maxRecDepth 100000

theorem c2G : Tryz.prog.cellsOf 30 = 2 := by kernel_rfl
theorem c2T : Tryz.prog.cellsOf 37 = 2 := by kernel_rfl
theorem open_pair {H : Type} {enc : TypeId × Value → H} {W : World} {base b0 : Nat} {sp : Nat → Bool} {held : Bool} {r : Reach} {t : TypeId} {f0 f1 : Field} {v : Value} {d : DataW H} {ps : List MemPlace}
    (hu : Tryz.prog.underlying t = some (.struct #[f0, f1])) (hc : Tryz.prog.cellsOf t = 2) (h0 : f0.type = 28 ∧ f0.offset = 0) (h1 : f1.type = 28 ∧ f1.offset = 1)
    (hok : Value.okWide Tryz.prog W r b0 t v) (h : DataW.Trod enc Tryz.prog W base sp held t v d ps) : ∃ a b : ByteArray, v = .agg #[.string a, .string b] := by
  obtain ⟨cs, rfl, hsz⟩ := okWide_struct hu hok
  rw [hc] at hsz
  obtain ⟨l⟩ := cs
  match l, hsz with
  | [c0, c1], _ =>
  obtain ⟨fuel, hf⟩ := h
  obtain ⟨y0, y1, m, hx, _, hy0, hy1⟩ := trod_struct2 hu hf
  rw [h0.1, h0.2] at hy0
  rw [h1.1, h1.2] at hy1
  obtain ⟨a, e0, _, _⟩ := DataW.trod_string Tryz.underlying28 hy0
  obtain ⟨b, e1, _, _⟩ := DataW.trod_string Tryz.underlying28 hy1
  simp [Value.cells, c1N] at e0 e1
  subst e0 e1
  exact ⟨a, b, rfl⟩
theorem open_nat {H : Type} {enc : TypeId × Value → H} {W : World} {base : Nat} {sp : Nat → Bool} {held : Bool} {v : Value} {d : DataW H} {ps : List MemPlace}
    (h : DataW.Trod enc Tryz.prog W base sp held 28 v d ps) (hok : ∃ r b0, Value.okWide Tryz.prog W r b0 28 v) : ∃ a : ByteArray, v = .string a := by
  have hv : v.cells = #[v] := by
    obtain ⟨r, b0, hok⟩ := hok
    cases v <;> first | rfl | (exfalso; simp [Value.okWide, Tryz.underlying28, Cell.okWide, Cell.ok] at hok)
  obtain ⟨fuel, hf⟩ := h
  obtain ⟨a, e, _, _⟩ := DataW.trod_string Tryz.underlying28 hf
  rw [hv] at e
  exact ⟨a, by simpa using e⟩
theorem and2 {a b : Bool} (h1 : a = true) (h2 : b = true) : (a && b) = true := by rw [h1, h2]; rfl

end Go.Proofs.YtdajbcohmnmbpaaGreatDoor
