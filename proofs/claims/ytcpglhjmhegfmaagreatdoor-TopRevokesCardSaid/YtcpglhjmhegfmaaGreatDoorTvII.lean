/- The walks of package integer. Package integer: the contracts over integers. Package integer: Of at 0 and 1; the extended algorithm. Package integer: the closure of the extended algorithm. Package integer: the extended algorithm at 7 and 15. -/
import Derived.Test.YtcpglhjmhegfmaaGreatDoorTvBM
import Derived.Deep.DeepCutAuto
import Derived.Deep.CutBlock
namespace Go.Proofs.YtcpglhjmhegfmaaGreatDoor
open Go.RowKit
set_option maxRecDepth 100000
set_option linter.unusedVariables false
set_option maxHeartbeats 400000
theorem integer_made (s : Bool) (a : ByteArray) (w : World) :
    Calls Tryz.prog 48 #[.bool s, .string a] w fun e w' => e = .returned (.agg #[.bool (s && !a.toList.isEmpty), .string a]) ∧ Below w.heap.size w w' := by
  cases s
  · go_enter Tryz.func48, Tryz.ntmps48
    go_wp2_with fail
    exact bodyPost_ret (v := .agg #[.bool false, .string a]) (by simp [results, Tryz.results48, go_sem]) rfl ⟨rfl, (Below.refl _ _).alloc (Nat.le_refl _) _⟩
  · go_enter Tryz.func48, Tryz.ntmps48
    go_wp2_with fail
    exact bodyPost_ret (v := .agg #[.bool (!a.toList.isEmpty), .string a]) (by simp [results, Tryz.results48, go_sem]) rfl ⟨rfl, (Below.refl _ _).alloc (Nat.le_refl _) _⟩
theorem integer_Valid (s : Bool) (a : ByteArray) (w : World) :
    Calls Tryz.prog 79 #[.agg #[.bool s, .string a]] w fun e w' => e = .returned (.bool (valid a && !(s && a.toList.isEmpty))) ∧ Below w.heap.size w w' := by
  have F0 := Lib.hid (show Below w.heap.size w (w.alloc (.cells #[.bool s, .string a] 78)) from (Below.refl _ _).alloc (Nat.le_refl _) _)
  cases hv : valid a
  · go_enter Tryz.func79, Tryz.ntmps79
    go_wp2_with (go_at_call 13; refine (natural_Valid _ _).mono ?_; rintro e w' ⟨rfl, rfl⟩)
    go_ret
    exact ⟨rfl, F0.out⟩
  · cases s
    · go_enter Tryz.func79, Tryz.ntmps79
      go_wp2_with (go_at_call 13; refine (natural_Valid _ _).mono ?_; rintro e w' ⟨rfl, rfl⟩)
      go_ret
      exact ⟨rfl, F0.out⟩
    · go_enter Tryz.func79, Tryz.ntmps79
      go_wp2_with (go_at_call 13; refine (natural_Valid _ _).mono ?_; rintro e w' ⟨rfl, rfl⟩)
      go_ret
      exact ⟨rfl, F0.out⟩
theorem integer_From (n : Nat) (w : World) (hn : Hid (n < lim)) :
    Calls Tryz.prog 32 #[.string (B n)] w fun e w' => e = .returned (.agg #[.bool false, .string (B n)]) ∧ Below w.heap.size w w' := by
  have hv := valid_B hn.out
  go_enter Tryz.func32, Tryz.ntmps32
  go_wp2_with (first | (go_at_call 13; refine (natural_Valid _ _).mono ?_; rintro e w' ⟨rfl, rfl⟩) | (go_at_call 48; (with_reducible refine (integer_made _ _ _).mono ?_); rintro e w2 ⟨rfl, hb2⟩; have hcw2 := (bcell hb2).1; have hfw2 := (bcell hb2).2; have hs2 := hb2.size; have hq3 : w.heap.size < w2.heap.size := by { simp at hs2; omega }))
  exact bodyPost_ret (v := .agg #[.bool false, .string (B n)]) (by simp [results, Tryz.results32, go_sem, hcw2]) rfl ⟨rfl, ((below2 ((Below.refl _ _).alloc (Nat.le_refl _) _) hb2).setCell (by simp) _).setCell (by simp) _⟩
end Go.Proofs.YtcpglhjmhegfmaaGreatDoor
namespace Go.Proofs.YtcpglhjmhegfmaaGreatDoor
open Go.RowKit
set_option maxRecDepth 100000
set_option linter.unusedVariables false
set_option maxHeartbeats 400000
end Go.Proofs.YtcpglhjmhegfmaaGreatDoor
namespace Go.Proofs.YtcpglhjmhegfmaaGreatDoor
open Go.RowKit
set_option maxRecDepth 100000
set_option linter.unusedVariables false
set_option maxHeartbeats 400000
end Go.Proofs.YtcpglhjmhegfmaaGreatDoor
namespace Go.Proofs.YtcpglhjmhegfmaaGreatDoor
open Go.RowKit
set_option maxRecDepth 100000
set_option linter.unusedVariables false
set_option maxHeartbeats 400000
end Go.Proofs.YtcpglhjmhegfmaaGreatDoor
namespace Go.Proofs.YtcpglhjmhegfmaaGreatDoor
open Go.RowKit
set_option maxRecDepth 100000
set_option linter.unusedVariables false
set_option maxHeartbeats 400000
end Go.Proofs.YtcpglhjmhegfmaaGreatDoor
