/- The walks of shamir: check, below, value, Eval; prime.Is in general. -/
import Derived.Test.YtcpglhjmhegfmaaGreatDoorTvRB
import Derived.Test.YtcpglhjmhegfmaaGreatDoorTvUU
import Derived.Test.YtcpglhjmhegfmaaGreatDoorTvBW
import Derived.Test.YtcpglhjmhegfmaaGreatDoorTvBP
import Derived.Test.YtcpglhjmhegfmaaGreatDoorTvBR
import Derived.Test.YtcpglhjmhegfmaaGreatDoorTvBI
import Derived.Test.YtcpglhjmhegfmaaGreatDoorTvII
import Derived.Test.YtcpglhjmhegfmaaGreatDoorTvBM
import Derived.Test.YtcpglhjmhegfmaaGreatDoorTvZM1
import Derived.Deep.RegionHeld3
import Derived.ProofKit
import Derived.Deep.DeepCutAuto
import Derived.Deep.CutBlock
namespace Go.Proofs.YtcpglhjmhegfmaaGreatDoor
open Go.RowKit
set_option maxRecDepth 100000
set_option linter.unusedVariables false
set_option maxHeartbeats 4000000
theorem prime_Is (s : ByteArray) (w : World) (hT : Tab w) :
    Calls Tryz.prog 26 #[.string s] w fun e w' => e = .returned (.tuple #[.bool (isPS s).1, .int .i64 (isPS s).2]) ∧ Below w.heap.size w w' := by
  have hr : isPS s = (decide ((smallS s).2 = 0) && isS (smallS s).1, (smallS s).2) := rfl
  have KS := fun w => prime_small s w
  have hlt := smallS_lt s
  obtain ⟨x, hx⟩ : ∃ x, x = (smallS s).1 := ⟨_, rfl⟩
  obtain ⟨er, he⟩ : ∃ er, er = (smallS s).2 := ⟨_, rfl⟩
  rw [← hx, ← he] at hr
  rw [← hx] at hlt
  simp only [← hx, ← he] at KS
  have KS := Lib.hid KS
  have KI := Lib.hid (fun w (hT : Tab w) => prime_is x w hlt hT)
  have HT := Lib.hid hT
  rw [hr]
  by_cases h0 : er = 0
  · subst h0
    clear hr hx he hlt hT
    go_enter Tryz.func26, Tryz.ntmps26
    go_wp2_with (first
      | (go_at_call 41; (with_reducible refine (KS.out _).mono ?_); rintro e w1 ⟨rfl, rfl⟩)
      | (go_at_call 42; (with_reducible refine (KI.out _ HT.out).mono ?_); rintro e w2 ⟨rfl, hb2⟩; have HB2 := Lib.hid hb2; clear hb2))
    go_ret2
    exact ⟨by simp, HB2.out⟩
  · have k0 : (er == 0) = false := by rw [beq_eq_false_iff_ne]; exact h0
    have H0 := Lib.hid h0
    clear hr hx he hlt hT h0
    go_enter Tryz.func26, Tryz.ntmps26
    go_wp2_with (first
      | (go_at_call 41; (with_reducible refine (KS.out _).mono ?_); rintro e w1 ⟨rfl, rfl⟩))
    go_ret2
    exact ⟨by simp [H0.out], Below.refl _ _⟩
end Go.Proofs.YtcpglhjmhegfmaaGreatDoor
