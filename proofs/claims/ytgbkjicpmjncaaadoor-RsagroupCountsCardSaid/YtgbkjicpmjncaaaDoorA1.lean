/- The chapter's examples: the group with the modulus 77. -/
import Derived.Test.YtgbkjicpmjncaaaDoorE3
namespace Go.Proofs.YtgbkjicpmjncaaaDoor
open Go.RowKit
set_option maxRecDepth 100000
set_option linter.unusedVariables false
set_option maxHeartbeats 1000000

theorem e77_4 : elementS (B 77) (B 0) (B 7) (B 11) (B 4) = 0 := by decide +kernel
theorem e77_36 : elementS (B 77) (B 0) (B 7) (B 11) (B 36) = 0 := by decide +kernel
theorem e77_2 : elementS (B 77) (B 0) (B 7) (B 11) (B 2) = 0 := by decide +kernel
theorem o77 : orderS (B 7) (B 11) = (B 15, 0) := by decide +kernel
theorem c77 : checkS (B 77) (B 0) (B 7) (B 11) = 0 := by decide +kernel
theorem g77_4 : isGenS (B 77) (B 0) (B 7) (B 11) (B 4) = (true, 0) := by decide +kernel
theorem g77_36 : isGenS (B 77) (B 0) (B 7) (B 11) (B 36) = (false, 0) := by decide +kernel
theorem s77_2 : isSquareS (B 77) (B 0) (B 7) (B 11) (B 2) = (false, 0) := by decide +kernel
theorem l77 : logS (B 77) (B 0) (B 4) (B 64) 20 = (3, true) := by decide +kernel
theorem q77 : squareS 4 7 11 = true := by decide +kernel

theorem element_lit (w : World) (hT : Tab w) :
    Calls Tryd.prog 27 #[.agg #[.string (B 77), .string ⟨#[]⟩], .agg #[.string (B 7), .string (B 11)], .string (B 4)] w fun e w' => e = .returned (.int .i64 0) ∧ Below w.heap.size w w' := by
  have := rsagroup_element (B 77) (B 0) (B 7) (B 11) (B 4) w (B_size_le'.2 (by decide)) hT
  rw [e77_4] at this
  exact this
theorem order_lit (w : World) (hT : Tab w) :
    Calls Tryd.prog 12 #[.agg #[.string (B 7), .string (B 11)]] w fun e w' => e = .returned (.tuple #[.string (B 15), .int .i64 0]) ∧ Below w.heap.size w w' := by
  have := rsagroup_Order (B 7) (B 11) w hT
  rw [o77] at this
  exact this
theorem square_lit (w : World) :
    Calls Tryd.prog 28 #[.agg #[.string (B 7), .string (B 11)], .string (B 4)] w fun e w' => e = .returned (.bool true) ∧ Below w.heap.size w w' := by
  have := rsagroup_square 4 7 11 w (by decide) (by decide) (by decide) (by decide) (by decide)
  rw [q77] at this
  exact this
theorem gcd_lit7 (w : World) : Calls Tryd.prog 20 #[.string (B 7), .string (B 15)] w fun e w' => e = .returned (.tuple #[.string (B 1), .int .i64 0]) ∧ Below w.heap.size w w' :=
  natural_Gcd 7 15 w (by decide) (by decide)
theorem gcd_lit3 (w : World) : Calls Tryd.prog 20 #[.string (B 3), .string (B 15)] w fun e w' => e = .returned (.tuple #[.string (B 3), .int .i64 0]) ∧ Below w.heap.size w w' :=
  natural_Gcd 3 15 w (by decide) (by decide)
theorem power_lit (w : World) : Calls Tryd.prog 41 #[.string (B 4), .agg #[.bool false, .string (B 13)], .string (B 77)] w fun e w' => e = .returned (.tuple #[.string (B 53), .int .i64 0]) ∧ Below w.heap.size w w' :=
  modular_Power 4 77 13 w (by decide) (by decide) (by decide) (small_lim (by decide))
theorem from_lit (w : World) : Calls Tryd.prog 42 #[.string (B 13)] w fun e w' => e = .returned (.agg #[.bool false, .string (B 13)]) ∧ Below w.heap.size w w' :=
  integer_From 13 w (Lib.hid (small_lim (by decide)))
theorem rsagroup_Root_3 (w : World) (hT : Tab w) :
    Calls Tryd.prog 23 #[.agg #[.string (B 77), .string ⟨#[]⟩], .agg #[.string (B 7), .string (B 11)], .string (B 4), .string (B 3)] w fun e w' => e = .returned (.tuple #[.string ⟨#[]⟩, .int .i64 9]) ∧ Below w.heap.size w w' := by
  have v4 := valid_B (show 4 < lim from small_lim (by decide))
  have v3 := valid_B (show 3 < lim from small_lim (by decide))
  have HT := Lib.hid ((hT.alloc (.cells #[.string (B 77), .string ⟨#[]⟩] 24)).alloc (.cells #[.string (B 7), .string (B 11)] 26))
  have F0 := Lib.hid (show Below w.heap.size w ((w.alloc (.cells #[.string (B 77), .string ⟨#[]⟩] 24)).alloc (.cells #[.string (B 7), .string (B 11)] 26)) from ((Below.refl _ _).alloc (Nat.le_refl _) _).alloc (by simp) _)
  have k1 : ((B 3).toList == (B 1).toList) = false := by rw [B_beq]; rfl
  clear hT
  go_enter Tryd.func23, Tryd.ntmps23
  go_wp2_with (first | (go_at_call 15; refine (natural_Valid _ _).mono ?_; rintro e w' ⟨rfl, rfl⟩) | (go_at_call 27; refine (element_lit _ HT.out).mono ?_; rintro e w1 ⟨rfl, hb1⟩; have hcw1 := (bcell hb1).1; have hT1 := Lib.hid (HT.out.below hb1); have hs1 := hb1.size; have hq1 : w.heap.size + 1 < w1.heap.size := by { simp at hs1; omega }) | (go_at_call 28; refine (square_lit _).mono ?_; rintro e w2 ⟨rfl, hb2⟩; have hcw2 := (bcell hb2).1; have hT2 := Lib.hid (hT1.out.below hb2); have hs2 := hb2.size; have hq2 : w.heap.size + 1 < w2.heap.size := by { omega }) | (go_at_call 12; refine (order_lit _ hT2.out).mono ?_; rintro e w3 ⟨rfl, hb3⟩; have hcw3 := (bcell hb3).1) | (go_at_call 20; (with_reducible refine (gcd_lit3 _).mono ?_); rintro e w4 ⟨rfl, hb4⟩) | (go_at_call 21; refine (rsagroup_one _).mono ?_; rintro e w5 ⟨rfl, hb5⟩))
  go_ret2
  exact ⟨rfl, below2 (below2 (below2 (below2 (below2 F0.out hb1) hb2) hb3) hb4) hb5⟩
theorem rsagroup_Root_7 (w : World) (hT : Tab w) :
    Calls Tryd.prog 23 #[.agg #[.string (B 77), .string ⟨#[]⟩], .agg #[.string (B 7), .string (B 11)], .string (B 4), .string (B 7)] w fun e w' => e = .returned (.tuple #[.string (B 53), .int .i64 0]) ∧ Below w.heap.size w w' := by
  have v4 := valid_B (show 4 < lim from small_lim (by decide))
  have v7 := valid_B (show 7 < lim from small_lim (by decide))
  have HT := Lib.hid ((hT.alloc (.cells #[.string (B 77), .string ⟨#[]⟩] 24)).alloc (.cells #[.string (B 7), .string (B 11)] 26))
  have F0 := Lib.hid (show Below w.heap.size w ((w.alloc (.cells #[.string (B 77), .string ⟨#[]⟩] 24)).alloc (.cells #[.string (B 7), .string (B 11)] 26)) from ((Below.refl _ _).alloc (Nat.le_refl _) _).alloc (by simp) _)
  have k1 : ((B 1).toList == (B 1).toList) = true := by simp
  clear hT
  go_enter Tryd.func23, Tryd.ntmps23
  go_wp2_with (first | (go_at_call 15; refine (natural_Valid _ _).mono ?_; rintro e w' ⟨rfl, rfl⟩) | (go_at_call 27; refine (element_lit _ HT.out).mono ?_; rintro e w1 ⟨rfl, hb1⟩; have hcw1 := (bcell hb1).1; have hT1 := Lib.hid (HT.out.below hb1); have hs1 := hb1.size; have hq1 : w.heap.size + 1 < w1.heap.size := by { simp at hs1; omega }) | (go_at_call 28; refine (square_lit _).mono ?_; rintro e w2 ⟨rfl, hb2⟩; have hcw2 := (bcell hb2).1; have hT2 := Lib.hid (hT1.out.below hb2); have hs2 := hb2.size; have hq2 : w.heap.size + 1 < w2.heap.size := by { omega }) | (go_at_call 12; refine (order_lit _ hT2.out).mono ?_; rintro e w3 ⟨rfl, hb3⟩; have hcw3 := (bcell hb3).1; have hs3 := hb3.size) | (go_at_call 20; (with_reducible refine (gcd_lit7 _).mono ?_); rintro e w4 ⟨rfl, hb4⟩; have hcw4 := (bcell hb4).1; have hs4 := hb4.size) | (go_at_call 21; refine (rsagroup_one _).mono ?_; rintro e w5 ⟨rfl, hb5⟩; have hcw5 := (bcell hb5).1; have hs5 := hb5.size) | (go_at_call 40; (with_reducible refine (modular_Inverse_7_15 _).mono ?_); rintro e w6 ⟨rfl, hb6⟩; have hcw6 := (bcell hb6).1; have hs6 := hb6.size))
  have hq6 : w.heap.size < w6.heap.size := by simp at hs1; omega
  have g6 : w6.cell? ⟨w.heap.size, 0, none⟩ = some (.string (B 77)) := by
    have hb16 := below2 (below2 (below2 (below2 (below2 hb1 hb2) hb3) hb4) hb5) hb6
    rw [hb16.cell (p := ⟨w.heap.size, 0, none⟩) (by simp; omega)]
    simp [go_sem]
  have HBB := Lib.hid (below2 (below2 (below2 (below2 (below2 (below2 F0.out hb1) hb2) hb3) hb4) hb5) hb6)
  clear hcw1 hcw2 hcw3 hcw4 hcw5 hcw6 hs2 hs3 hs4 hs5 hs6 hs1 hq1 hq2 HT hT1 hT2 F0 hb1 hb2 hb3 hb4 hb5 hb6 v4 v7 k1
  go_region_with (first | (go_at_call 42; (with_reducible refine (from_lit _).mono ?_); rintro e w7 ⟨rfl, hb7⟩; have hb67 : Below w6.heap.size w6 w7 := by { first | exact hb7 | exact ((Below.refl _ w6).drew).trans hb7 }; have hcw7 := (bcell hb67).1) | (go_at_call 41; (with_reducible refine (power_lit _).mono ?_); rintro e w8 ⟨rfl, hb8⟩; have hb68 : Below w6.heap.size w6 w8 := by { first | exact below2 hb67 hb8 | exact below2 hb67 (((Below.refl _ _).drew).trans hb8) }))
  all_goals
    go_wp2_with fail
    go_ret2
    exact ⟨rfl, below2 HBB.out hb68⟩

theorem law10_small (w : World) :
    Calls Tryd.prog 22 #[] w fun e w' => e = .returned (.tuple #[.agg #[.string (B 77), .string ⟨#[]⟩], .agg #[.string (B 7), .string (B 11)]]) ∧ Below w.heap.size w w' := by
  go_enter Tryd.func22, Tryd.ntmps22
  go_wp2_with (first | (go_at_call 13; (with_reducible refine (natural_Of' 77 77 _ rfl (by decide)).mono ?_); rintro e w1 ⟨rfl, hb1⟩; have hcw1 := (bcell hb1).1; have hfw1 := (bcell hb1).2; have hs1 := hb1.size; have hq1 : w.heap.size + 1 < w1.heap.size := by { simp at hs1; omega }; have hr1 : w.heap.size < w1.heap.size := by { simp at hs1; omega }) | (go_at_call 13; (with_reducible refine (natural_Of' 7 7 _ rfl (by decide)).mono ?_); rintro e w2 ⟨rfl, hb2⟩; have hcw2 := (bcell hb2).1; have hfw2 := (bcell hb2).2; have hs2 := hb2.size; have hq2 : w.heap.size + 1 < w2.heap.size := by { omega }; have hr2 : w.heap.size < w2.heap.size := by { omega }) | (go_at_call 13; (with_reducible refine (natural_Of' 11 11 _ rfl (by decide)).mono ?_); rintro e w3 ⟨rfl, hb3⟩; have hcw3 := (bcell hb3).1; have hfw3 := (bcell hb3).2; have hs3 := hb3.size))
  have hb13 := below2 (below2 hb1 hb2) hb3
  have z0 : w3.cell? ⟨w.heap.size, 0, none⟩ = some (.string ⟨#[]⟩) := by rw [hb13.cell (p := ⟨w.heap.size, 0, none⟩) (by simp; omega)]; simp [go_sem]
  have z1 : w3.cell? ⟨w.heap.size, 1, none⟩ = some (.string ⟨#[]⟩) := by rw [hb13.cell (p := ⟨w.heap.size, 1, none⟩) (by simp; omega)]; simp [go_sem]
  have y0 : w3.cell? ⟨w.heap.size + 1, 0, none⟩ = some (.string ⟨#[]⟩) := by rw [hb13.cell (p := ⟨w.heap.size + 1, 0, none⟩) (by simp)]; simp [go_sem]
  have y1 : w3.cell? ⟨w.heap.size + 1, 1, none⟩ = some (.string ⟨#[]⟩) := by rw [hb13.cell (p := ⟨w.heap.size + 1, 1, none⟩) (by simp)]; simp [go_sem]
  have F0 : Below w.heap.size w w3 := below2 (below2 (below2 (((Below.refl _ _).alloc (Nat.le_refl _) _).alloc (by simp) _) hb1) hb2) hb3
  exact bodyPost_ret (v := .tuple #[.agg #[.string (B 77), .string ⟨#[]⟩], .agg #[.string (B 7), .string (B 11)]]) (by simp [results, Tryd.results22, go_sem, z0, z1, y0, y1]) rfl ⟨rfl, (((F0.setCell (by simp) _).setCell (by simp) _).setCell (by simp) _).setCell (by simp) _⟩
/-- All numbers have at most 8 bytes. -/
def fewS (ls : List ByteArray) : Bool := ls.all fun s => decide (s.size ≤ 8)
theorem law10_few (ls : List ByteArray) (n g : Nat) (w : World) (hn : ls.length = n) (hm : n ≤ 1000) (hrow : SRow w g ls) :
    Calls Tryd.prog 5 #[.slice (some ⟨g, 0, none⟩) n n] w fun e w' => e = .returned (.bool (fewS ls)) ∧ w = w' := by
  have HN := Lib.hid hn
  have HR := Lib.hid hrow
  clear hn hrow
  go_enter Tryd.func5, Tryd.ntmps5
  go_wp2
  go_loop [3] (fun c => ∃ k : Nat, k ≤ n ∧ c = .int .i64 k ∧ ∀ j, j < k → decide ((ls.getD j ByteArray.empty).size ≤ 8) = true) (fun c => n - (intOf c).toNat)
  case atStart => exact ⟨0, by omega, rfl, fun j h => absurd h (by omega)⟩
  case round =>
    obtain ⟨k, hk, rfl, hall⟩ := hrel
    have HA := Lib.hid hall
    clear hall
    by_cases hlt : k < n
    · have hc := HR.out k (by have := HN.out; omega)
      obtain ⟨s, hs⟩ : ∃ s, ls.getD k ByteArray.empty = s := ⟨_, rfl⟩
      rw [hs] at hc
      have HS := Lib.hid hs
      clear hs
      by_cases h8 : s.size ≤ 8
      · have k1 : decide ((8 : Int) < (s.size : Int)) = false := by simp; omega
        go_wp2
        go_round
        case rel => exact ⟨k + 1, by omega, by go_num, fun j hj => by
          by_cases e : j = k
          · subst e; rw [HS.out]; exact decide_eq_true h8
          · exact HA.out j (by omega)⟩
        case measure => simp [intOf]; omega
      · have k1 : decide ((8 : Int) < (s.size : Int)) = true := by simp; omega
        have HF : Hid (fewS ls = false) := Lib.hid (all_not' (p := fun s => decide (s.size ≤ 8)) (k := k) (by rw [HN.out]; exact hlt) (by rw [HS.out]; exact decide_eq_false h8))
        go_wp2
        go_ret
        exact ⟨ret_bool HF.out.symm, rfl⟩
    · obtain rfl : k = n := by omega
      have HF : Hid (fewS ls = true) := Lib.hid (all_of' (p := fun s => decide (s.size ≤ 8)) (fun j hj => HA.out j (by rw [HN.out] at hj; exact hj)))
      go_wp2
      go_ret
      exact ⟨ret_bool HF.out.symm, rfl⟩

end Go.Proofs.YtgbkjicpmjncaaaDoor
