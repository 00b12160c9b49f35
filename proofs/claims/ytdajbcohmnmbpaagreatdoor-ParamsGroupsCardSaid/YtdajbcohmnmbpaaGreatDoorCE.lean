/- The walks of the reference: Same of package 06; power, isPrime of package 11. -/
import Derived.Test.YtdajbcohmnmbpaaGreatDoorCS
import Derived.Test.YtdajbcohmnmbpaaGreatDoorPR
import Derived.Test.YtdajbcohmnmbpaaGreatDoorPQ
namespace Go.Proofs.YtdajbcohmnmbpaaGreatDoor
open Go.RowKit
set_option maxRecDepth 100000
set_option linter.unusedVariables false
set_option maxHeartbeats 4000000

theorem r11_power (k : Nat) (w : World) (h : k ≤ 63) : Calls Tryz.prog 119 #[.int .i64 k] w fun e w' => e = .returned (.int .u64 ((2 ^ k : Nat) : Int)) ∧ w = w' := by
  have p1 : (0 : Int) ≤ (k : Int) := by omega
  have p2 : (k : Int) < 64 := by omega
  have hp : (2 : Nat) ^ k ≤ 2 ^ 63 := Nat.pow_le_pow_right (by decide) h
  have w1 : (k : Int) % 18446744073709551616 = (k : Int) := by omega
  have w2 : ((2 : Int) ^ k) % 18446744073709551616 = ((2 ^ k : Nat) : Int) := by
    have e : ((2 : Int) ^ k) = ((2 ^ k : Nat) : Int) := by simp
    rw [e]
    generalize (2 : Nat) ^ k = P at *
    omega
  clear hp
  go_enter Tryz.func119, Tryz.ntmps119
  go_wp2_with fail
  go_ret
  exact ⟨ret_int (by rw [IntKind.wrap_u64]; exact w2), rfl⟩
theorem r11_isPrime (n : Nat) (w : World) (hn : n < 18446744073709551616) : Calls Tryz.prog 53 #[.int .u64 n] w fun e w' => e = .returned (.bool (isS n)) ∧ Below w.heap.size w w' := by
  have KO := Lib.hid (fun w => r01_Of n w hn)
  have KI := Lib.hid (fun w => r04_Is_B n w hn)
  obtain ⟨b, hb⟩ : ∃ b, b = isS n := ⟨_, rfl⟩
  rw [← hb] at KI ⊢
  clear hn hb
  go_enter Tryz.func53, Tryz.ntmps53
  go_wp2_with (first
    | (go_at_call 54; (with_reducible refine (KO.out _).mono ?_); rintro e w1 ⟨rfl, hb1⟩; have HB1 := Lib.hid hb1; clear hb1)
    | (go_at_call 89; (with_reducible refine (KI.out _).mono ?_); rintro e w2 ⟨rfl, hb2⟩; have HB2 := Lib.hid (HB1.out.trans (hb2.mono HB1.out.size)); clear hb2))
  go_ret
  exact ⟨rfl, HB2.out⟩
end Go.Proofs.YtdajbcohmnmbpaaGreatDoor
