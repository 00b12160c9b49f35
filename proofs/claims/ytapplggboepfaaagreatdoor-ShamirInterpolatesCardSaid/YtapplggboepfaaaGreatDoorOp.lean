/- Words for rows: a law's points, opened. -/
import Derived.Test.YtapplggboepfaaaGreatDoorZQ
import Derived.Test.YtapplggboepfaaaGreatDoorSQ
namespace Go.Proofs.YtapplggboepfaaaGreatDoor
open Go.ChangeShapes Go.WideShapes Go.ChangeAt Go.WideElems Go.RowKit
set_option maxRecDepth 100000
set_option maxHeartbeats 4000000

theorem c5P : Tryz.prog.cellsOf 46 = 5 := by kernel_rfl
theorem open_points {H : Type} {enc : TypeId × Value → H} {W : World} {base b0 : Nat} {sp : Nat → Bool} {held : Bool} {r : Reach} {v : Value} {d : DataW H} {ps : List MemPlace}
    (hok : Value.okWide Tryz.prog W r b0 46 v) (h : DataW.Trod enc Tryz.prog W base sp held 46 v d ps) :
    ∃ (q x : ByteArray) (AX AY : Option Addr) (nX cX nY cY : Nat) (z : Int) (xs ys : List ByteArray), v = .agg #[.string q, .slice AX nX cX, .slice AY nY cY, .string x, .int .i64 z] ∧ xs.length = nX ∧ ys.length = nY ∧ SLs W W.heap.size AX xs ∧ SLs W W.heap.size AY ys := by
  obtain ⟨cs, rfl, hsz⟩ := okWide_struct Tryz.underlying46 hok
  rw [c5P] at hsz
  obtain ⟨l⟩ := cs
  match l, hsz with
  | [c0, c1, c2, c3, c4], _ =>
  obtain ⟨fuel, hf⟩ := h
  obtain ⟨xs, m, _, _, _, hlen, hfs⟩ := DataW.trod_struct Tryz.underlying46 hf
  match xs, hlen with
  | [y0, y1, y2, y3, y4], _ =>
  have f0 := hfs 0 _ rfl
  have f1 := hfs 1 _ rfl
  have f2 := hfs 2 _ rfl
  have f3 := hfs 3 _ rfl
  have f4 := hfs 4 _ rfl
  simp [Value.cells, c1L, c1N, c1I] at f0 f1 f2 f3 f4
  obtain ⟨q, e0, _, _⟩ := DataW.trod_string Tryz.underlying25 f0
  obtain ⟨AX, nX, cX, vx, rfl, hnx, _, hsx⟩ := open_nats f1
  obtain ⟨AY, nY, cY, vy, rfl, hny, _, hsy⟩ := open_nats f2
  obtain ⟨x, e3, _, _⟩ := DataW.trod_string Tryz.underlying25 f3
  obtain ⟨z, e4, _, _⟩ := DataW.trod_int Tryz.underlying3 f4
  simp at e0 e3 e4
  subst e0 e3 e4
  exact ⟨q, x, AX, AY, nX, cX, nY, cY, z, vx, vy, rfl, hnx, hny, hsx, hsy⟩

end Go.Proofs.YtapplggboepfaaaGreatDoor
