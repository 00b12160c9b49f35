/- The walks of package integer. Package integer: the contracts over integers. Package integer: Of at 0 and 1; the extended algorithm. Package integer: the closure of the extended algorithm. Package integer: the extended algorithm at 7 and 15. -/
import Derived.Test.YtjhlddlocpkhkaaGreatTwBM
import Derived.Deep.DeepCutAuto
import Derived.Deep.CutBlock
namespace Go.Proofs.YtjhlddlocpkhkaaGreat
open Go.RowKit
set_option maxRecDepth 100000
set_option linter.unusedVariables false
set_option maxHeartbeats 400000
theorem integer_made (s : Bool) (a : ByteArray) (w : World) :
    Calls Tryz.prog 132 #[.bool s, .string a] w fun e w' => e = .returned (.agg #[.bool (s && !a.toList.isEmpty), .string a]) ∧ Below w.heap.size w w' := by
  cases s
  · go_enter Tryz.func132, Tryz.ntmps132
    go_wp2_with fail
    exact bodyPost_ret (v := .agg #[.bool false, .string a]) (by simp [results, Tryz.results132, go_sem]) rfl ⟨rfl, (Below.refl _ _).alloc (Nat.le_refl _) _⟩
  · go_enter Tryz.func132, Tryz.ntmps132
    go_wp2_with fail
    exact bodyPost_ret (v := .agg #[.bool (!a.toList.isEmpty), .string a]) (by simp [results, Tryz.results132, go_sem]) rfl ⟨rfl, (Below.refl _ _).alloc (Nat.le_refl _) _⟩
theorem integer_Valid (s : Bool) (a : ByteArray) (w : World) :
    Calls Tryz.prog 127 #[.agg #[.bool s, .string a]] w fun e w' => e = .returned (.bool (valid a && !(s && a.toList.isEmpty))) ∧ Below w.heap.size w w' := by
  have F0 := Lib.hid (show Below w.heap.size w (w.alloc (.cells #[.bool s, .string a] 129)) from (Below.refl _ _).alloc (Nat.le_refl _) _)
  cases hv : valid a
  · go_enter Tryz.func127, Tryz.ntmps127
    go_wp2_with (go_at_call 90; refine (natural_Valid _ _).mono ?_; rintro e w' ⟨rfl, rfl⟩)
    go_ret
    exact ⟨rfl, F0.out⟩
  · cases s
    · go_enter Tryz.func127, Tryz.ntmps127
      go_wp2_with (go_at_call 90; refine (natural_Valid _ _).mono ?_; rintro e w' ⟨rfl, rfl⟩)
      go_ret
      exact ⟨rfl, F0.out⟩
    · go_enter Tryz.func127, Tryz.ntmps127
      go_wp2_with (go_at_call 90; refine (natural_Valid _ _).mono ?_; rintro e w' ⟨rfl, rfl⟩)
      go_ret
      exact ⟨rfl, F0.out⟩
/-- A valid integer's form. -/
def IntOk (s : Bool) (n : Nat) : Prop := n < lim ∧ (s && (B n).toList.isEmpty) = false
theorem integer_Valid' (s : Bool) (n : Nat) (w : World) (h : Hid (IntOk s n)) :
    Calls Tryz.prog 127 #[.agg #[.bool s, .string (B n)]] w fun e w' => e = .returned (.bool true) ∧ Below w.heap.size w w' := by
  have := integer_Valid s (B n) w
  rw [valid_B h.out.1, h.out.2] at this
  exact this
end Go.Proofs.YtjhlddlocpkhkaaGreat
namespace Go.Proofs.YtjhlddlocpkhkaaGreat
open Go.RowKit
set_option maxRecDepth 100000
set_option linter.unusedVariables false
set_option maxHeartbeats 400000
end Go.Proofs.YtjhlddlocpkhkaaGreat
namespace Go.Proofs.YtjhlddlocpkhkaaGreat
open Go.RowKit
set_option maxRecDepth 100000
set_option linter.unusedVariables false
set_option maxHeartbeats 400000
end Go.Proofs.YtjhlddlocpkhkaaGreat
namespace Go.Proofs.YtjhlddlocpkhkaaGreat
open Go.RowKit
set_option maxRecDepth 100000
set_option linter.unusedVariables false
set_option maxHeartbeats 400000
end Go.Proofs.YtjhlddlocpkhkaaGreat
namespace Go.Proofs.YtjhlddlocpkhkaaGreat
open Go.RowKit
set_option maxRecDepth 100000
set_option linter.unusedVariables false
set_option maxHeartbeats 400000
theorem small_lim {n : Nat} (h : n < 300) : n < lim := Nat.lt_trans h (by decide)
end Go.Proofs.YtjhlddlocpkhkaaGreat
