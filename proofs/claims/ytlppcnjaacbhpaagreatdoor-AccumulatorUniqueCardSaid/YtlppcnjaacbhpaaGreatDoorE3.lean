/- Package modular: Inverse at 7 and 15, Power; rsagroup.Root at two inputs. -/
import Derived.Test.YtlppcnjaacbhpaaGreatDoorE2
import Derived.Test.YtlppcnjaacbhpaaGreatDoorI5
namespace Go.Proofs.YtlppcnjaacbhpaaGreatDoor
open Go.RowKit
set_option maxRecDepth 100000
set_option linter.unusedVariables false
set_option maxHeartbeats 1000000

theorem extended_lit (w : World) :
    Calls Tryz.prog 103 #[.string (B 7), .string (B 15)] w fun e w' => e = .returned (.tuple #[.string (B 1), .agg #[.bool false, .string (B 13)], .agg #[.bool true, .string (B 6)], .int .i64 0]) ∧ Below w.heap.size w w' := integer_Extended_7_15 w
theorem B_beq1' (n : Nat) : ((B n).toList == [1]) = decide (n = 1) := B_beq1 n
theorem modular_Inverse_7_15 (w : World) :
    Calls Tryz.prog 66 #[.string (B 7), .string (B 15)] w fun e w' => e = .returned (.tuple #[.string (B 13), .int .i64 0]) ∧ Below w.heap.size w w' := by
  have hck := modular_check11 (B 7) (B 15) 22 22 w
  rw [checkErr11 (small_lim (by decide)) (small_lim (by decide)) (by decide)] at hck
  have HCK := Lib.hid hck
  have HR1 := Lib.hid (show ∀ w, Calls Tryz.prog 104 #[.string (B 7), .string (B 15)] w fun e w' => e = .returned (.string (B 7)) ∧ Below w.heap.size w w' from fun w => modular_reduced 7 15 w (by decide) (by decide) (by decide))
  have HR2 := Lib.hid (show ∀ w, Calls Tryz.prog 104 #[.string (B 13), .string (B 15)] w fun e w' => e = .returned (.string (B 13)) ∧ Below w.heap.size w w' from fun w => modular_reduced 13 15 w (by decide) (by decide) (by decide))
  have k1 : ((B 1).toList == [1]) = true := by rw [B_beq1]; rfl
  clear hck
  go_enter Tryz.func66, Tryz.ntmps66
  go_wp2_with (first | (go_at_call 102; refine HCK.out.mono ?_; rintro e w1 ⟨rfl, hb1⟩) | (go_at_call 104; (with_reducible refine (HR1.out _).mono ?_); rintro e w2 ⟨rfl, hb2⟩) | (go_at_call 103; (with_reducible refine (extended_lit _).mono ?_); rintro e w3 ⟨rfl, hb3⟩; have hs3 := hb3.size) | (go_at_call 104; (with_reducible refine (HR2.out _).mono ?_); rintro e w4 ⟨rfl, hb4⟩))
  go_ret2
  have hb13 := below2 (below2 hb1 hb2) hb3
  exact ⟨rfl, below2 ((hb13.alloc hb13.size _).alloc (by have := hb13.size; simp; omega) _) hb4⟩
theorem modular_Power (a m e : Nat) (w : World) (ha : a < 18446744073709551616) (hm : m < 18446744073709551616) (h0 : 0 < m) (he : e < lim) :
    Calls Tryz.prog 67 #[.string (B a), .agg #[.bool false, .string (B e)], .string (B m)] w fun r w' => r = .returned (.tuple #[.string (B (a ^ e % m)), .int .i64 0]) ∧ Below w.heap.size w w' := by
  have hve := valid_B he
  have hck : Calls Tryz.prog 102 #[.slice (some ⟨w.heap.size + 1, 0, none⟩) 1 1, .slice (some ⟨w.heap.size + 1 + 1, 0, none⟩) 1 1] (((w.alloc (.cells #[.bool false, .string (B e)] 89)).alloc (.cells #[.string (B a)] 22)).alloc (.cells #[.string (B m)] 22)) fun e' w' => e' = .returned (.int .i64 0) ∧ Below (w.heap.size + 1) (w.alloc (.cells #[.bool false, .string (B e)] 89)) w' := by
    have := modular_check11 (B a) (B m) 22 22 (w.alloc (.cells #[.bool false, .string (B e)] 89))
    rw [checkErr11 (u64_lt_lim ha) (u64_lt_lim hm) (by omega)] at this
    simp only [World.size_alloc] at this
    exact this
  have HCK := Lib.hid hck
  have hex := fun w => modular_Exp a m (B e) w ha hm h0 hve
  rw [num_B] at hex
  have HE := Lib.hid hex
  clear hck hex ha hm h0 he
  generalize a ^ e % m = R at *
  go_enter Tryz.func67, Tryz.ntmps67
  go_wp2_with (first | (go_at_call 60; refine (natural_Valid _ _).mono ?_; rintro e w' ⟨rfl, rfl⟩) | (go_at_call 102; refine HCK.out.mono ?_; rintro e w1 ⟨rfl, hb1⟩; have hc1 := fun o => hb1.cell (p := ⟨w.heap.size, o, none⟩) (by simp); have hs1 := hb1.size; simp only [World.size_alloc] at hs1) | (go_at_call 105; (with_reducible refine (HE.out _).mono ?_); rintro e w2 ⟨rfl, hb2⟩))
  go_ret2
  exact ⟨rfl, below2 (((Below.refl _ _).alloc (Nat.le_refl _) _).trans (hb1.mono (by omega))) hb2⟩

end Go.Proofs.YtlppcnjaacbhpaaGreatDoor
