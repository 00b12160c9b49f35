/- Package modular: powers. A range over a function that yields the binary digits of a number. Package modular: Exp. -/
import Derived.RangeFuncNested
import Derived.RangeFuncBound
import Derived.RangeFuncCalls
import Derived.RangeFuncLeaves
import Derived.Shelf.Abstract
import Derived.Shelf.RegionOpen
import Derived.WalkKit
import Derived.OwnWalkIn
import Derived.TacticsInMore
import Derived.LoopNIn
import Derived.LoopIn
import Derived.Test.YtapplggboepfaaaGreatDoorBM
namespace Go.Proofs.YtapplggboepfaaaGreatDoor
open Go.RowKit Go.Shelf
set_option maxRecDepth 100000
set_option linter.unusedVariables false
set_option maxHeartbeats 1000000
attribute [local go_sem] Oper.semAt_some

/-- The binary digits of a number, the most significant one first. -/
def bitsL (s : ByteArray) : List Bool := (List.range (natBits s)).map fun i => natBit s (natBits s - 1 - i)
theorem bitsL_length (s : ByteArray) : (bitsL s).length = natBits s := by simp [bitsL]
theorem bitsL_take_succ (s : ByteArray) (k : Nat) (h : k < natBits s) : (bitsL s).take (k + 1) = (bitsL s).take k ++ [natBit s (natBits s - 1 - k)] := by
  rw [List.take_succ_eq_append_getElem (by rw [bitsL_length]; exact h)]
  simp [bitsL]
theorem natBits_le {s : ByteArray} (hv : valid s = true) : natBits s ≤ 1024 := by
  unfold natBits bitsN
  rw [if_pos hv]
  split
  · omega
  · rename_i h0
    have h1 := valid_num_lt hv
    have h2 := (Nat.log2_lt (k := 8 * 128) h0).2 (Nat.lt_of_lt_of_eq h1 (lim_eq.trans (pow_256 128).symm))
    clear h1
    omega
theorem lt_pow_bitsN' (n : Nat) : n < 2 ^ bitsN n := by
  unfold bitsN
  split
  · omega
  · exact Nat.lt_log2_self
theorem keeps_below {W W' : World} (h : Below W.heap.size W W') : KeepsOthers W W' :=
  ⟨h.size, fun k o hk _ => (h.block k (Array.getElem?_eq_some_iff.1 hk).1).trans hk⟩

/-- A box reads as before. -/
def Kb (Bn : Nat) (W W' : World) : Prop := W'.cell? ⟨Bn, 0, none⟩ = W.cell? ⟨Bn, 0, none⟩
theorem Kb.t {Bn : Nat} {A C D : World} (h : Kb Bn A C) (k : Kb Bn C D) : Kb Bn A D := Eq.trans k h
theorem Kb.b {Bn n : Nat} (hB : Bn < n) (W : World) (l : Nat) (o o' : Obj) (hl : n ≤ l) (_ : W.heap[l]? = some o) (_ : o.isCells = false) (_ : o.isWalk = false) : Kb Bn W (W.putObj l o') :=
  World.cell?_of_block (World.putObj_heap_other (by show Bn ≠ l; omega))
/-- A power by the digits of the exponent. -/
def powL (a m : Nat) (l : List Bool) : Nat := l.foldl (fun o b => if b then (o * o % m) * a % m else o * o % m) (1 % m)
theorem powL_snoc (a m : Nat) (l : List Bool) (b : Bool) : powL a m (l ++ [b]) = if b then (powL a m l * powL a m l % m) * a % m else powL a m l * powL a m l % m := by
  simp [powL]
theorem sq_mod (x m : Nat) : (x % m) * (x % m) % m = x * x % m := (Nat.mul_mod x x m).symm
theorem powL_take (a m : Nat) (s : ByteArray) (hv : valid s = true) (k : Nat) (hk : k ≤ natBits s) : powL (a % m) m ((bitsL s).take k) = a ^ (num s / 2 ^ (natBits s - k)) % m := by
  induction k with
  | zero =>
    have h1 : num s < 2 ^ natBits s := by
      unfold natBits; rw [if_pos hv]; exact lt_pow_bitsN' (num s)
    rw [Nat.sub_zero, Nat.div_eq_of_lt h1]
    simp [powL]
  | succ k ih =>
    rw [bitsL_take_succ s k (by omega), powL_snoc, ih (by omega)]
    have e : natBits s - k = (natBits s - (k + 1)) + 1 := by omega
    have hb : natBit s (natBits s - 1 - k) = (num s / 2 ^ (natBits s - (k + 1)) % 2 == 1) := by
      unfold natBit; rw [hv, show natBits s - 1 - k = natBits s - (k + 1) by omega]; rfl
    rw [hb, e]
    generalize natBits s - (k + 1) = i
    rw [Nat.pow_succ, ← Nat.div_div_eq_div_mul]
    generalize num s / 2 ^ i = q
    by_cases ho : q % 2 = 1
    · rw [ho, if_pos (by rfl), sq_mod, mul_mod_l, Nat.mul_mod, Nat.mod_mod, ← Nat.mul_mod, ← Nat.pow_add, ← Nat.pow_succ]
      congr 2; omega
    · have : q % 2 = 0 := by omega
      rw [this, if_neg (by simp), sq_mod, ← Nat.pow_add]
      congr 2; omega
theorem powL_all (a m : Nat) (s : ByteArray) (hv : valid s = true) : powL (a % m) m (bitsL s) = a ^ num s % m := by
  have := powL_take a m s hv (natBits s) (Nat.le_refl _)
  rw [Nat.sub_self, Nat.pow_zero, Nat.div_one, List.take_of_length_le (by rw [bitsL_length]; omega)] at this
  exact this
theorem powL_lt (a m : Nat) (h : 0 < m) (l : List Bool) : powL a m l < m := by
  rcases List.eq_nil_or_concat l with rfl | ⟨l', b, rfl⟩
  · exact Nat.mod_lt _ h
  · rw [List.concat_eq_append, powL_snoc]; split <;> exact Nat.mod_lt _ h

end Go.Proofs.YtapplggboepfaaaGreatDoor

namespace Go.Proofs.YtapplggboepfaaaGreatDoor
open Go.RowKit Go.Shelf
set_option maxRecDepth 100000
set_option linter.unusedVariables false
set_option maxHeartbeats 2000000
attribute [local go_sem] Oper.semAt_some

theorem exp_boxes {w w1 : World} {x y : ByteArray} {T : TypeId} (hb1 : Below (w.heap.size + 1 + 1) ((w.alloc (Obj.cells #[Value.string x] T)).alloc (Obj.cells #[Value.string y] T)) w1) :
    w1.cell? ⟨w.heap.size, 0, none⟩ = some (.string x) ∧ w1.cell? ⟨w.heap.size + 1, 0, none⟩ = some (.string y) ∧ w1.frozen? ⟨w.heap.size, 0, none⟩ = false ∧ w.heap.size + 1 < w1.heap.size ∧ w.heap.size < w1.heap.size ∧ Below w.heap.size w w1 := by
  have hz1 := hb1.size
  simp only [World.size_alloc] at hz1
  refine ⟨?_, ?_, ?_, by omega, by omega, ?_⟩
  · exact (hb1.cell (p := ⟨w.heap.size, 0, none⟩) (by simp; omega)).trans (by simp [go_sem])
  · exact (hb1.cell (p := ⟨w.heap.size + 1, 0, none⟩) (by simp)).trans (by simp [go_sem])
  · exact (hb1.frozen (p := ⟨w.heap.size, 0, none⟩) (by simp; omega)).trans (by simp [go_sem])
  · exact (((Below.refl _ _).alloc (Nat.le_refl _) _).alloc (by simp) _).trans (hb1.mono (by omega))
theorem cell_lt {w : World} {g o : Nat} {v : Value} (h : w.cell? ⟨g, o, none⟩ = some v) : g < w.heap.size := by
  rcases Nat.lt_or_ge g w.heap.size with h2 | h2
  · exact h2
  · simp [World.cell?, Array.getElem?_eq_none h2] at h
theorem B_one : B 1 = ⟨#[1]⟩ := rfl
end Go.Proofs.YtapplggboepfaaaGreatDoor
