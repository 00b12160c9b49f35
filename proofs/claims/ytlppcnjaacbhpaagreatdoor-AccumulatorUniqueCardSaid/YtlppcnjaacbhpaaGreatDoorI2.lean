/- Package integer: the contracts over integers. -/
import Derived.Test.YtlppcnjaacbhpaaGreatDoorI1
namespace Go.Proofs.YtlppcnjaacbhpaaGreatDoor
open Go.RowKit
set_option maxRecDepth 100000
set_option linter.unusedVariables false
set_option maxHeartbeats 400000

/-- An integer's value. -/
def iz (z : Int) : Value := .agg #[.bool (decide (z < 0)), .string (B z.natAbs)]
theorem iz_eq (s : Bool) (n : Nat) : Value.agg #[.bool (s && !(B n).toList.isEmpty), .string (B n)] = iz (if s then -(n : Int) else n) := by
  unfold iz
  rw [B_isEmpty]
  cases s
  · have : ¬ ((n : Int) < 0) := by omega
    simp [this]
  · by_cases h : n = 0
    · subst h; rfl
    · simp [h]; omega
theorem iz_ok (z : Int) (h : z.natAbs < lim) : IntOk (decide (z < 0)) z.natAbs := by
  refine ⟨h, ?_⟩
  rw [B_isEmpty]
  by_cases hz : z = 0
  · subst hz; rfl
  · have : z.natAbs ≠ 0 := by omega
    simp [this]
/-- The sum of two integers. -/
theorem integer_Add (x y : Int) (w : World) (hx : x.natAbs < lim) (hy : y.natAbs < lim) (hxy : x.natAbs + y.natAbs < lim) :
    Calls Tryz.prog 135 #[iz x, iz y] w fun e w' => e = .returned (.tuple #[iz (x + y), .int .i64 0]) ∧ Below w.heap.size w w' := by
  have ox := Lib.hid (iz_ok x hx)
  have oy := Lib.hid (iz_ok y hy)
  unfold iz
  by_cases hs : decide (x < 0) = decide (y < 0)
  · have := integer_Add_same (decide (x < 0)) x.natAbs y.natAbs w ox (hs ▸ oy) hxy
    rw [iz_eq] at this
    rw [← hs]
    rw [show (if decide (x < 0) = true then -((x.natAbs + y.natAbs : Nat) : Int) else ((x.natAbs + y.natAbs : Nat) : Int)) = x + y by
      rw [decide_eq_decide] at hs
      by_cases h : x < 0
      · have := hs.1 h; rw [if_pos (by simp [h])]; omega
      · have : ¬ y < 0 := fun k => h (hs.2 k); rw [if_neg (by simp [h])]; omega] at this
    exact this
  · have hn : decide (y < 0) = !decide (x < 0) := by
      cases h1 : decide (x < 0) <;> cases h2 : decide (y < 0) <;> simp_all
    rw [hn] at oy ⊢
    rw [decide_eq_decide] at hs
    by_cases hl : x.natAbs < y.natAbs
    · have := integer_Add_lt (decide (x < 0)) x.natAbs y.natAbs w ox oy hl
      rw [iz_eq] at this
      rw [show (if (!decide (x < 0)) = true then -((y.natAbs - x.natAbs : Nat) : Int) else ((y.natAbs - x.natAbs : Nat) : Int)) = x + y by
        by_cases h : x < 0
        · have : ¬ y < 0 := fun k => hs ⟨fun _ => k, fun _ => h⟩
          rw [if_neg (by simp [h])]; omega
        · have : y < 0 := Decidable.by_contra fun k => hs ⟨fun h' => absurd h' h, fun h' => absurd h' k⟩
          rw [if_pos (by simp [h])]; omega] at this
      exact this
    · have := integer_Add_ge (decide (x < 0)) x.natAbs y.natAbs w ox oy (by omega)
      rw [iz_eq] at this
      rw [show (if decide (x < 0) = true then -((x.natAbs - y.natAbs : Nat) : Int) else ((x.natAbs - y.natAbs : Nat) : Int)) = x + y by
        by_cases h : x < 0
        · have : ¬ y < 0 := fun k => hs ⟨fun _ => k, fun _ => h⟩
          rw [if_pos (by simp [h])]; omega
        · have : y < 0 := Decidable.by_contra fun k => hs ⟨fun h' => absurd h' h, fun h' => absurd h' k⟩
          rw [if_neg (by simp [h])]; omega] at this
      exact this
theorem integer_Neg' (x : Int) (w : World) (hx : Hid (x.natAbs < lim)) :
    Calls Tryz.prog 150 #[iz x] w fun e w' => e = .returned (iz (-x)) ∧ Below w.heap.size w w' := by
  have := integer_Neg (decide (x < 0)) x.natAbs w (Lib.hid (iz_ok x hx.out))
  rw [iz_eq] at this
  rw [show (if (!decide (x < 0)) = true then -(x.natAbs : Int) else (x.natAbs : Int)) = -x by
    by_cases h : x < 0
    · rw [if_neg (by simp [h])]; omega
    · rw [if_pos (by simp [h])]; omega] at this
  exact this
theorem integer_Mul' (x y : Int) (w : World) (hx : x.natAbs < lim) (hy : y.natAbs < lim) (hxy : (x * y).natAbs < lim) :
    Calls Tryz.prog 133 #[iz x, iz y] w fun e w' => e = .returned (.tuple #[iz (x * y), .int .i64 0]) ∧ Below w.heap.size w w' := by
  have h1 : (x * y).natAbs = x.natAbs * y.natAbs := Int.natAbs_mul x y
  have := integer_Mul (decide (x < 0)) (decide (y < 0)) x.natAbs y.natAbs w (Lib.hid (iz_ok x hx)) (Lib.hid (iz_ok y hy)) (h1 ▸ hxy)
  rw [iz_eq] at this
  rw [show (if (decide (x < 0) != decide (y < 0)) = true then -((x.natAbs * y.natAbs : Nat) : Int) else ((x.natAbs * y.natAbs : Nat) : Int)) = x * y by
    rw [← h1]
    by_cases h : x < 0
    · by_cases k : y < 0
      · rw [if_neg (by simp [h, k])]; have := Int.mul_pos_of_neg_of_neg h k; omega
      · rw [if_pos (by simp [h, k])]; have := Int.mul_nonpos_of_nonpos_of_nonneg (Int.le_of_lt h) (Int.not_lt.1 k); omega
    · by_cases k : y < 0
      · rw [if_pos (by simp [h, k])]; have := Int.mul_nonpos_of_nonneg_of_nonpos (Int.not_lt.1 h) (Int.le_of_lt k); omega
      · rw [if_neg (by simp [h, k])]; have := Int.mul_nonneg (Int.not_lt.1 h) (Int.not_lt.1 k); omega] at this
  exact this


theorem integer_Sub (x y : Int) (w : World) (hx : x.natAbs < lim) (hy : y.natAbs < lim) (hxy : x.natAbs + y.natAbs < lim) :
    Calls Tryz.prog 134 #[iz x, iz y] w fun e w' => e = .returned (.tuple #[iz (x - y), .int .i64 0]) ∧ Below w.heap.size w w' := by
  have HA := Lib.hid (fun w => integer_Add x (-y) w hx (by omega) (by omega))
  have HN := Lib.hid (fun w => integer_Neg' y w (Lib.hid hy))
  have HB := Lib.hid (fun w => integer_both _ _ _ _ w (Lib.hid (iz_ok x hx)) (Lib.hid (iz_ok y hy)))
  rw [show x + -y = x - y from rfl] at HA
  generalize x - y = d at *
  generalize -y = my at *
  unfold iz at *
  generalize decide (x < 0) = sx at *
  generalize decide (y < 0) = sy at *
  generalize decide (d < 0) = sd at *
  generalize decide (my < 0) = smy at *
  generalize x.natAbs = nx at *
  generalize y.natAbs = ny at *
  generalize d.natAbs = nd at *
  generalize my.natAbs = nmy at *
  clear hx hy hxy
  have F0 := Lib.hid (show Below w.heap.size w (((w.alloc (.cells #[.bool sx, .string (B nx)] 89)).alloc (.cells #[.bool sy, .string (B ny)] 89)).alloc (.cells #[.bool false, .string E0] 89)) from (((Below.refl _ _).alloc (Nat.le_refl _) _).alloc (by simp) _).alloc (by simp; omega) _)
  go_enter Tryz.func134, Tryz.ntmps134
  go_wp2_with (first | (go_at_call 149; (with_reducible refine (HB.out _).mono ?_); rintro e w1 ⟨rfl, hb1⟩; have hcw1 := (bcell hb1).1; have hfw1 := (bcell hb1).2; have hs1 := hb1.size; have hq1 : w.heap.size + 1 + 1 < w1.heap.size := by { simp at hs1; omega }; have hq2 : w.heap.size + 1 < w1.heap.size := by { omega }; have hq3 : w.heap.size < w1.heap.size := by { omega }))
  go_region_with (first | (go_at_call 150; (with_reducible refine (HN.out _).mono ?_); rintro e w2 ⟨rfl, hb2⟩; have hb12 : Below w1.heap.size w1 w2 := by { first | exact hb2 | exact ((Below.refl _ w1).drew).trans hb2 }; have hcw2 := (bcell hb12).1; have hfw2 := (bcell hb12).2; have hs2 := hb2.size; have hq4 : w.heap.size + 1 + 1 < w2.heap.size := by { first | omega | (simp at hs2; omega) }; have hq5 : w.heap.size < w2.heap.size := by { omega }) | (go_at_call 135; (with_reducible refine (HA.out _).mono ?_); rintro e w3 ⟨rfl, hb3⟩; have hb13 : Below w1.heap.size w1 w3 := by { first | exact below2 hb12 hb3 | exact below2 hb12 (((Below.refl _ _).drew).trans hb3) }; have hcw3 := (bcell hb13).1; have hfw3 := (bcell hb13).2; have hs3 := hb3.size; have hq6 : w.heap.size + 1 + 1 < w3.heap.size := by { first | omega | (simp at hs3; omega) }))
  all_goals
    go_wp2_with fail
    exact bodyPost_ret (v := .tuple #[.agg #[.bool sd, .string (B nd)], .int .i64 0]) (by simp [results, Tryz.results134, go_sem, hcw3, hcw1, hq1]) rfl ⟨rfl, by
      have b1 := below2 (below2 F0.out hb1) hb13
      refine Below.trans b1 ?_
      exact ((Below.refl _ _).setCell (by simp; omega) _).setCell (by simp; omega) _⟩


end Go.Proofs.YtlppcnjaacbhpaaGreatDoor
