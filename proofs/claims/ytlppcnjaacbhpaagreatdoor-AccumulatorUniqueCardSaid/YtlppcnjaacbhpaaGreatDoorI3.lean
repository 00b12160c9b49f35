/- Package integer: Of at 0 and 1; the extended algorithm. -/
import Derived.Test.YtlppcnjaacbhpaaGreatDoorI2
namespace Go.Proofs.YtlppcnjaacbhpaaGreatDoor
open Go.RowKit
set_option maxRecDepth 100000
set_option linter.unusedVariables false
set_option maxHeartbeats 400000

theorem integer_Of0 (w : World) :
    Calls Tryz.prog 131 #[.int .i64 0] w fun e w' => e = .returned (iz 0) ∧ Below w.heap.size w w' := by
  have hcv : IntKind.u64.wrap 0 = 0 := by decide
  go_enter Tryz.func131, Tryz.ntmps131
  go_wp2_with (first | (go_at_call 70; (with_reducible refine (natural_Of' 0 0 _ rfl (by decide)).mono ?_); rintro e w1 ⟨rfl, hb1⟩; have hcw1 := (bcell hb1).1; have hfw1 := (bcell hb1).2; have hs1 := hb1.size; have hq1 : w.heap.size < w1.heap.size := by { simp at hs1; omega }) | (go_at_call 75; (with_reducible refine (integer_made _ _ _).mono ?_); rintro e w2 ⟨rfl, hb2⟩; have hcw2 := (bcell hb2).1; have hfw2 := (bcell hb2).2; have hs2 := hb2.size; have hq2 : w.heap.size < w2.heap.size := by { omega }))
  exact bodyPost_ret (v := .agg #[.bool false, .string (B 0)]) (by simp [results, Tryz.results131, go_sem, hcw2, hcw1, hq1]) rfl ⟨rfl, ((below2 (below2 ((Below.refl _ _).alloc (Nat.le_refl _) _) hb1) hb2).setCell (by simp) _).setCell (by simp) _⟩
theorem integer_Of1 (w : World) :
    Calls Tryz.prog 131 #[.int .i64 1] w fun e w' => e = .returned (iz 1) ∧ Below w.heap.size w w' := by
  go_enter Tryz.func131, Tryz.ntmps131
  go_wp2_with (first | (go_at_call 70; (with_reducible refine (natural_Of' 1 1 _ rfl (by decide)).mono ?_); rintro e w1 ⟨rfl, hb1⟩; have hcw1 := (bcell hb1).1; have hfw1 := (bcell hb1).2; have hs1 := hb1.size; have hq1 : w.heap.size < w1.heap.size := by { simp at hs1; omega }) | (go_at_call 75; (with_reducible refine (integer_made _ _ _).mono ?_); rintro e w2 ⟨rfl, hb2⟩; have hcw2 := (bcell hb2).1; have hfw2 := (bcell hb2).2; have hs2 := hb2.size; have hq2 : w.heap.size < w2.heap.size := by { omega }))
  exact bodyPost_ret (v := .agg #[.bool false, .string (B 1)]) (by simp [results, Tryz.results131, go_sem, hcw2, hcw1, hq1]) rfl ⟨rfl, ((below2 (below2 ((Below.refl _ _).alloc (Nat.le_refl _) _) hb1) hb2).setCell (by simp) _).setCell (by simp) _⟩


end Go.Proofs.YtlppcnjaacbhpaaGreatDoor
