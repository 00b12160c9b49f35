/- The walks of primegroup.IsGenerator and of the reference's: both are Has and not 1. The walks on parameters: Numbers of the reference, less, unit, numbers. The walks on parameters: Short of the law file. The walks of package params: the closures of Check and Sizes. The walks of the reference on parameters: Add, Mul where nothing overflows; Sizes over the error of Check. The walk of the reference's Sizes over the error of Check. -/
import Derived.Test.YtapplggboepfaaaGreatDoorSE
import Derived.Test.YtapplggboepfaaaGreatDoorRG
import Derived.Test.YtapplggboepfaaaGreatDoorBW
import Derived.Test.YtapplggboepfaaaGreatDoorRA
namespace Go.Proofs.YtapplggboepfaaaGreatDoor
open Go.RowKit
set_option maxRecDepth 100000
set_option linter.unusedVariables false
set_option maxHeartbeats 1000000

/-- Whether a number generates a group of prime order. -/
def genS (m o x : ByteArray) : Bool := pgHas m o x && !(x.toList == [1])
end Go.Proofs.YtapplggboepfaaaGreatDoor

namespace Go.Proofs.YtapplggboepfaaaGreatDoor
open Go.RowKit
set_option maxRecDepth 100000
set_option linter.unusedVariables false
set_option maxHeartbeats 4000000

theorem r01_OfL (i : Int) (n : Nat) (w : World) (h : i = (n : Int)) (hn : n < 18446744073709551616) : Calls Tryz.prog 24 #[.int .u64 i] w fun e w' => e = .returned (.string (B n)) ∧ Below w.heap.size w w' := by
  subst h
  exact r01_Of n w hn
/-- Whether a number is a unit greater than 1. -/
def unitS (m o x : ByteArray) : Bool := hasS m o x && !(x.toList == (B 1).toList)
end Go.Proofs.YtapplggboepfaaaGreatDoor

namespace Go.Proofs.YtapplggboepfaaaGreatDoor
open Go.RowKit
set_option maxRecDepth 100000
set_option linter.unusedVariables false
set_option maxHeartbeats 4000000

/-- All numbers have at most 8 bytes. -/
def shortS (ls : List ByteArray) : Bool := ls.all fun s => decide (s.size ≤ 8)
theorem shortS_no {ls : List ByteArray} {k : Nat} (hk : k < ls.length) (h : ¬ (ls.getD k ByteArray.empty).size ≤ 8) : shortS ls = false := by
  unfold shortS
  rw [List.all_eq_false]
  refine ⟨ls[k], List.getElem_mem hk, ?_⟩
  rw [sgetD_lt hk] at h
  simpa using h
theorem shortS_yes {ls : List ByteArray} (h : ∀ j, j < ls.length → (ls.getD j ByteArray.empty).size ≤ 8) : shortS ls = true := by
  unfold shortS
  rw [List.all_eq_true]
  intro x hx
  obtain ⟨j, hj, rfl⟩ := List.getElem_of_mem hx
  have := h j hj
  rw [sgetD_lt hj] at this
  simpa using this
theorem meas17 {k : Nat} (h : k < 17) : 17 - (intOf (.int .i64 ((k : Int) + 1))).toNat < 17 - (intOf (.int .i64 (k : Int))).toNat := by
  simp only [intOf]
  omega
end Go.Proofs.YtapplggboepfaaaGreatDoor

namespace Go.Proofs.YtapplggboepfaaaGreatDoor
open Go.RowKit
set_option maxRecDepth 100000
set_option linter.unusedVariables false
set_option maxHeartbeats 4000000

theorem cell_in' {W : World} {a : Addr} {v : Value} (h : W.cell? a = some v) : a.block < W.heap.size := by
  rcases Nat.lt_or_ge a.block W.heap.size with h2 | h2
  · exact h2
  · simp [World.cell?, Array.getElem?_eq_none h2] at h
theorem natural_AddV (x y : Nat) (w : World) (hx : x < lim) (hy : y < lim) (hxy : x + y < lim) :
    Calls Tryz.prog 101 #[.string (B x), .string (B y)] w fun e w' => e = .returned (.tuple #[.string (B (x + y)), .int .i64 0]) ∧ Below w.heap.size w w' := by
  have := natural_Add (B x) (B y) w
  have e : natAdd (B x) (B y) = (B (x + y), 0) := by
    unfold natAdd fitted; rw [valid_B hx, valid_B hy, num_B, num_B, if_pos hxy]; rfl
  rw [e] at this
  exact this
theorem natural_MulV (x y : Nat) (w : World) (hx : x < lim) (hy : y < lim) (hxy : x * y < lim) :
    Calls Tryz.prog 133 #[.string (B x), .string (B y)] w fun e w' => e = .returned (.tuple #[.string (B (x * y)), .int .i64 0]) ∧ Below w.heap.size w w' := by
  have := natural_Mul (B x) (B y) w
  have e : natMul (B x) (B y) = (B (x * y), 0) := by
    unfold natMul fitted; rw [valid_B hx, valid_B hy, num_B, num_B, if_pos hxy]; rfl
  rw [e] at this
  exact this

end Go.Proofs.YtapplggboepfaaaGreatDoor

namespace Go.Proofs.YtapplggboepfaaaGreatDoor
open Go.RowKit
set_option maxRecDepth 100000
set_option linter.unusedVariables false
set_option maxHeartbeats 4000000

theorem r01_AddV (x y : Nat) (w : World) (hx : x < lim) (hy : y < lim) (hxy : x + y < lim) :
    Calls Tryz.prog 114 #[.string (B x), .string (B y)] w fun e w' => e = .returned (.tuple #[.string (B (x + y)), .int .i64 0]) ∧ Below w.heap.size w w' := by
  have KV := Lib.hid (fun w => r01_Valid (B x) w)
  have KW := Lib.hid (fun w => r01_Valid (B y) w)
  rw [valid_B hx] at KV
  rw [valid_B hy] at KW
  have KP := Lib.hid (fun w => r01_Plus x y w (Nat.le_trans (valid_size (valid_B hx)) (by decide)) (Nat.le_trans (valid_size (valid_B hy)) (by decide)))
  have KF := Lib.hid (fun w => r01_fit (x + y) w)
  have hf : fitted (x + y) = (B (x + y), 0) := by unfold fitted; rw [if_pos hxy]
  rw [hf] at KF
  obtain ⟨r, hr⟩ : ∃ r, r = x + y := ⟨_, rfl⟩
  rw [← hr] at KP KF ⊢
  clear hx hy hxy hf hr
  go_enter Tryz.func114, Tryz.ntmps114
  go_wp2_with (first
    | (go_at_call 32; (with_reducible refine (KV.out _).mono ?_); rintro e w1 ⟨rfl, rfl⟩)
    | (go_at_call 32; (with_reducible refine (KW.out _).mono ?_); rintro e w1 ⟨rfl, rfl⟩)
    | (go_at_call 138; (with_reducible refine (KP.out _).mono ?_); rintro e w2 ⟨rfl, hb2⟩)
    | (go_at_call 141; (with_reducible refine (KF.out _).mono ?_); rintro e w3 ⟨rfl, rfl⟩))
  go_ret2
  exact ⟨rfl, hb2⟩
theorem r01_MulV (x y : Nat) (w : World) (hx : x < lim) (hy : y < lim) (hxy : x * y < lim) :
    Calls Tryz.prog 142 #[.string (B x), .string (B y)] w fun e w' => e = .returned (.tuple #[.string (B (x * y)), .int .i64 0]) ∧ Below w.heap.size w w' := by
  have := r01_Mul (B x) (B y) w
  have e : natMul (B x) (B y) = (B (x * y), 0) := by
    unfold natMul fitted; rw [valid_B hx, valid_B hy, num_B, num_B, if_pos hxy]; rfl
  rw [e] at this
  exact this

end Go.Proofs.YtapplggboepfaaaGreatDoor

namespace Go.Proofs.YtapplggboepfaaaGreatDoor
open Go.RowKit
set_option maxRecDepth 100000
set_option linter.unusedVariables false
set_option maxHeartbeats 4000000

end Go.Proofs.YtapplggboepfaaaGreatDoor
