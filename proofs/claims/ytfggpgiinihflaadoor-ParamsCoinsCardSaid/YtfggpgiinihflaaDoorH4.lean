/- The walks of package hash: the constants and the state at the beginning. -/
import Derived.Test.YtfggpgiinihflaaDoorH3
namespace Go.Proofs.YtfggpgiinihflaaDoor
open Go.RowKit
set_option maxRecDepth 100000
set_option linter.unusedVariables false
set_option maxHeartbeats 2000000

theorem C32.farCells {g b : Nat} {T : TypeId} {L : List Nat} (hp : g ≠ b) : ∀ (vs : List Value) (o : Nat) (w : World), C32 w g T L → C32 (w.setCells b o vs) g T L := by
  intro vs
  induction vs with
  | nil => intro o w h; exact h
  | cons v vs ih => intro o w h; exact ih (o + 1) _ (h.far hp v)
theorem hash_constants (w : World) : Calls Tryd.prog 92 #[] w fun e w' => e = .returned (.agg (u32Cells consts)) ∧ Below w.heap.size w w' := by
  have z := C32.new w 122 (List.replicate 64 0)
  have hs := C32.setAll consts z rfl
  have HS := Lib.hid hs
  have Z := Lib.hid z
  clear hs z
  go_enter Tryd.func92, Tryd.ntmps92
  go_wp2_with (first | (refine wpList_store_mid rfl 122 _ _ rfl w.heap.size 0 (u32Cells consts) rfl rfl Z.out.there rfl (u32Cells_one _) ?_))
  refine bodyPost_ret (v := .agg (u32Cells consts)) ?_ rfl ⟨rfl, Below.setCells (Nat.le_refl _) _ _ _ ((Below.refl _ _).alloc (Nat.le_refl _) _)⟩
  exact results_cell_row Tryd.results92 _ _ w.heap.size 122 (u32Cells consts) (0, 0) _ rfl HS.out Tryd.underlying122 rfl rfl
theorem hash_first (w : World) : Calls Tryd.prog 85 #[] w fun e w' => e = .returned (.agg (u32Cells state0)) ∧ Below w.heap.size w w' := by
  have z := C32.new w 115 (List.replicate 8 0)
  have hs := C32.setAll state0 z rfl
  have HS := Lib.hid hs
  have Z := Lib.hid z
  clear hs z
  go_enter Tryd.func85, Tryd.ntmps85
  go_wp2_with (first | (refine wpList_store_mid rfl 115 _ _ rfl w.heap.size 0 (u32Cells state0) rfl rfl Z.out.there rfl (u32Cells_one _) ?_))
  refine bodyPost_ret (v := .agg (u32Cells state0)) ?_ rfl ⟨rfl, Below.setCells (Nat.le_refl _) _ _ _ ((Below.refl _ _).alloc (Nat.le_refl _) _)⟩
  exact results_cell_row Tryd.results85 _ _ w.heap.size 115 (u32Cells state0) (0, 0) _ rfl HS.out Tryd.underlying115 rfl rfl

end Go.Proofs.YtfggpgiinihflaaDoor
