/- The examples of the chapter on accumulators. -/
import Derived.Test.YtlppcnjaacbhpaaGreatDoorU8
import Derived.Test.YtlppcnjaacbhpaaGreatDoorE3
import Derived.Test.YtlppcnjaacbhpaaGreatDoorG4
import Derived.Test.YtlppcnjaacbhpaaGreatDoorR2
namespace Go.Proofs.YtlppcnjaacbhpaaGreatDoor
open Go.RowKit
set_option maxRecDepth 100000
set_option linter.unusedVariables false
set_option maxHeartbeats 4000000

theorem e77_16 : elementS (B 77) (B 0) (B 7) (B 11) (B 16) = 0 := by decide +kernel
theorem o77' : orderS (B 7) (B 11) = (B 15, 0) := by decide +kernel
theorem q77_16 : squareS 16 7 11 = true := by decide +kernel
theorem element_lit16 (w : World) (hT : Tab w) :
    Calls Tryz.prog 61 #[.agg #[.string (B 77), .string ⟨#[]⟩], .agg #[.string (B 7), .string (B 11)], .string (B 16)] w fun e w' => e = .returned (.int .i64 0) ∧ Below w.heap.size w w' := by
  have := rsagroup_element (B 77) (B 0) (B 7) (B 11) (B 16) w (B_size_le'.2 (by decide)) hT
  rw [e77_16] at this
  exact this
theorem order_lit' (w : World) (hT : Tab w) :
    Calls Tryz.prog 63 #[.agg #[.string (B 7), .string (B 11)]] w fun e w' => e = .returned (.tuple #[.string (B 15), .int .i64 0]) ∧ Below w.heap.size w w' := by
  have := rsagroup_Order (B 7) (B 11) w hT
  rw [o77'] at this
  exact this
theorem square_lit16 (w : World) :
    Calls Tryz.prog 62 #[.agg #[.string (B 7), .string (B 11)], .string (B 16)] w fun e w' => e = .returned (.bool true) ∧ Below w.heap.size w w' := by
  have := rsagroup_square 16 7 11 w (by decide) (by decide) (by decide) (by decide) (by decide)
  rw [q77_16] at this
  exact this
theorem gcd_lit7' (w : World) : Calls Tryz.prog 64 #[.string (B 7), .string (B 15)] w fun e w' => e = .returned (.tuple #[.string (B 1), .int .i64 0]) ∧ Below w.heap.size w w' :=
  natural_Gcd 7 15 w (by decide) (by decide)
theorem power_lit16 (w : World) : Calls Tryz.prog 67 #[.string (B 16), .agg #[.bool false, .string (B 13)], .string (B 77)] w fun e w' => e = .returned (.tuple #[.string (B 37), .int .i64 0]) ∧ Below w.heap.size w w' :=
  modular_Power 16 77 13 w (by decide) (by decide) (by decide) (small_lim (by decide))
theorem from_lit' (w : World) : Calls Tryz.prog 45 #[.string (B 13)] w fun e w' => e = .returned (.agg #[.bool false, .string (B 13)]) ∧ Below w.heap.size w w' :=
  integer_From 13 w (Lib.hid (small_lim (by decide)))
theorem rsagroup_Root_16 (w : World) (hT : Tab w) :
    Calls Tryz.prog 40 #[.agg #[.string (B 77), .string ⟨#[]⟩], .agg #[.string (B 7), .string (B 11)], .string (B 16), .string (B 7)] w fun e w' => e = .returned (.tuple #[.string (B 37), .int .i64 0]) ∧ Below w.heap.size w w' := by
  have v4 := valid_B (show 16 < lim from small_lim (by decide))
  have v7 := valid_B (show 7 < lim from small_lim (by decide))
  have HT := Lib.hid ((hT.alloc (.cells #[.string (B 77), .string ⟨#[]⟩] 24)).alloc (.cells #[.string (B 7), .string (B 11)] 47))
  have F0 := Lib.hid (show Below w.heap.size w ((w.alloc (.cells #[.string (B 77), .string ⟨#[]⟩] 24)).alloc (.cells #[.string (B 7), .string (B 11)] 47)) from ((Below.refl _ _).alloc (Nat.le_refl _) _).alloc (by simp) _)
  have k1 : ((B 1).toList == (B 1).toList) = true := by simp
  clear hT
  go_enter Tryz.func40, Tryz.ntmps40
  go_wp2_with (first | (go_at_call 60; refine (natural_Valid _ _).mono ?_; rintro e w' ⟨rfl, rfl⟩) | (go_at_call 61; refine (element_lit16 _ HT.out).mono ?_; rintro e w1 ⟨rfl, hb1⟩; have hcw1 := (bcell hb1).1; have hT1 := Lib.hid (HT.out.below hb1); have hs1 := hb1.size; have hq1 : w.heap.size + 1 < w1.heap.size := by { simp at hs1; omega }) | (go_at_call 62; refine (square_lit16 _).mono ?_; rintro e w2 ⟨rfl, hb2⟩; have hcw2 := (bcell hb2).1; have hT2 := Lib.hid (hT1.out.below hb2); have hs2 := hb2.size; have hq2 : w.heap.size + 1 < w2.heap.size := by { omega }) | (go_at_call 63; refine (order_lit' _ hT2.out).mono ?_; rintro e w3 ⟨rfl, hb3⟩; have hcw3 := (bcell hb3).1; have hs3 := hb3.size) | (go_at_call 64; (with_reducible refine (gcd_lit7' _).mono ?_); rintro e w4 ⟨rfl, hb4⟩; have hcw4 := (bcell hb4).1; have hs4 := hb4.size) | (go_at_call 65; refine (rsagroup_one _).mono ?_; rintro e w5 ⟨rfl, hb5⟩; have hcw5 := (bcell hb5).1; have hs5 := hb5.size) | (go_at_call 66; (with_reducible refine (modular_Inverse_7_15 _).mono ?_); rintro e w6 ⟨rfl, hb6⟩; have hcw6 := (bcell hb6).1; have hs6 := hb6.size))
  have hq6 : w.heap.size < w6.heap.size := by simp at hs1; omega
  have g6 : w6.cell? ⟨w.heap.size, 0, none⟩ = some (.string (B 77)) := by
    have hb16 := below2 (below2 (below2 (below2 (below2 hb1 hb2) hb3) hb4) hb5) hb6
    rw [hb16.cell (p := ⟨w.heap.size, 0, none⟩) (by simp; omega)]
    simp [go_sem]
  have HBB := Lib.hid (below2 (below2 (below2 (below2 (below2 (below2 F0.out hb1) hb2) hb3) hb4) hb5) hb6)
  clear hcw1 hcw2 hcw3 hcw4 hcw5 hcw6 hs2 hs3 hs4 hs5 hs6 hs1 hq1 hq2 HT hT1 hT2 F0 hb1 hb2 hb3 hb4 hb5 hb6 v4 v7 k1
  go_region_with (first | (go_at_call 45; (with_reducible refine (from_lit' _).mono ?_); rintro e w7 ⟨rfl, hb7⟩; have hb67 : Below w6.heap.size w6 w7 := by { first | exact hb7 | exact ((Below.refl _ w6).drew).trans hb7 }; have hcw7 := (bcell hb67).1) | (go_at_call 67; (with_reducible refine (power_lit16 _).mono ?_); rintro e w8 ⟨rfl, hb8⟩; have hb68 : Below w6.heap.size w6 w8 := by { first | exact below2 hb67 hb8 | exact below2 hb67 (((Below.refl _ _).drew).trans hb8) }))
  all_goals
    go_wp2_with fail
    go_ret2
    exact ⟨rfl, below2 HBB.out hb68⟩


theorem law35_num (z : Int) (n : Nat) (w : World) (hz : z = n) (hn : n < 18446744073709551616) :
    Calls Tryz.prog 19 #[.int .u64 z] w fun e w' => e = .returned (.string (B n)) ∧ Below w.heap.size w w' := by
  have H := Lib.hid (fun w => r01_Of' z n w hz hn)
  clear hz hn
  go_enter Tryz.func19, Tryz.ntmps19
  go_wp2_with (first | (go_at_call 39; refine (H.out _).mono ?_; rintro e w1 ⟨rfl, hb1⟩))
  go_ret
  exact ⟨rfl, hb1⟩

end Go.Proofs.YtlppcnjaacbhpaaGreatDoor
