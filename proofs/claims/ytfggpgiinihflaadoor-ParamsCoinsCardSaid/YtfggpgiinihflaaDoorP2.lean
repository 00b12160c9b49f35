/- The walks of package prime: products and powers. -/
import Derived.Test.YtfggpgiinihflaaDoorP1
import Derived.Test.YtfggpgiinihflaaDoorPow
import Derived.Shelf.Spec.TrailingZeros
namespace Go.Proofs.YtfggpgiinihflaaDoor
open Go.RowKit
set_option maxRecDepth 100000
set_option linter.unusedVariables false
set_option maxHeartbeats 400000

theorem below_drewN' (w : World) (n : Nat) : Below w.heap.size w (w.drewN n) := ⟨rfl, rfl, rfl, Nat.le_refl _, fun _ _ => rfl⟩
/-- The library's table of trailing zeros lies where it was laid. -/
def Tab (w : World) : Prop := ∀ j, j < 64 → w.cell? ⟨0, j, none⟩ = some (.int .u8 (Lib.deBruijn64tab.getD j 0 : Nat))
theorem Tab.below {w w' : World} (h : Tab w) (hb : Below w.heap.size w w') : Tab w' := by
  intro j hj
  have h1 := h j hj
  rw [← h1]
  refine hb.cell (p := ⟨0, j, none⟩) ?_
  rcases Nat.lt_or_ge 0 w.heap.size with h2 | h2
  · exact h2
  · simp [World.cell?, Array.getElem?_eq_none h2] at h1
theorem tz64_core (x k idx : Nat) (w : World) (hx0 : ((x : Int) == 0) = false)
    (key : IntKind.u64.wrap (bits BinOp.and IntKind.u64 (x : Int) (IntKind.u64.wrap (-(x : Int))) * 285870213051353865) / 288230376151711744 = (idx : Int))
    (hi : idx < 64) (hk : k < 64) (hcell : w.cell? ⟨0, idx, none⟩ = some (.int .u8 k)) :
    Calls Tryd.prog 65 #[.int .u64 x] w fun e w' => e = .returned (.int .i64 k) ∧ w = w' := by
  go_enter Tryd.func65, Tryd.ntmps65
  go_wp2_with (simp only [key])
  go_ret
  exact ⟨rfl, rfl⟩
theorem bits_TrailingZeros64 (x : Nat) (hx : x < 18446744073709551616) (h0 : x ≠ 0) (w : World) (hT : Tab w) :
    Calls Tryd.prog 65 #[.int .u64 x] w fun e w' => e = .returned (.int .i64 (Lib.ctz 64 x)) ∧ w = w' := by
  obtain ⟨hlow, hk⟩ := Lib.lowest_bit 64 x h0 hx
  obtain ⟨hi, htab⟩ := Lib.deBruijn64_at _ hk
  have hcell := hT _ hi
  rw [htab] at hcell
  exact tz64_core x _ _ w (by simp; omega) (tz64_key x _ hx h0 hlow) hi hk hcell
theorem prime_mul (a b m : Nat) (w : World) (ha : a < m) (hb : b < m) (hm : m < 18446744073709551616) :
    Calls Tryd.prog 67 #[.int .u64 a, .int .u64 b, .int .u64 m] w fun e w' => e = .returned (.int .u64 (a * b % m : Nat)) ∧ Below w.heap.size w w' := by
  obtain ⟨hi, hhi⟩ : ∃ hi, a * b / 18446744073709551616 = hi := ⟨_, rfl⟩
  obtain ⟨lo, hlo⟩ : ∃ lo, a * b % 18446744073709551616 = lo := ⟨_, rfl⟩
  have hsum : hi * 18446744073709551616 + lo = a * b := by rw [← hhi, ← hlo, Nat.mul_comm]; exact Nat.div_add_mod _ _
  have h1 : hi < m := by
    rw [← hhi, Nat.div_lt_iff_lt_mul (by decide)]
    exact Nat.lt_of_le_of_lt (Nat.mul_le_mul_left a (Nat.le_of_lt hb)) (by
      rcases Nat.eq_zero_or_pos m with h | h
      · omega
      · exact Nat.lt_of_lt_of_le (Nat.mul_lt_mul_of_pos_right ha h) (Nat.mul_le_mul_left m (Nat.le_of_lt hm)))
  have h2 : lo < 18446744073709551616 := by rw [← hlo]; exact Nat.mod_lt _ (by decide)
  have hd := bits_Div64 hi lo m
  rw [hsum] at hd
  have HA := Lib.hid (Nat.lt_trans ha hm)
  have HB := Lib.hid (Nat.lt_trans hb hm)
  have HH := Lib.hid hhi
  have HL := Lib.hid hlo
  have HD := Lib.hid hd
  have H1 := Lib.hid h1
  have H2 := Lib.hid h2
  have HM := Lib.hid hm
  clear hd hsum hhi hlo h1 h2 ha hb hm
  go_enter Tryd.func67, Tryd.ntmps67
  go_wp2_with (first | (go_at_call 47; (with_reducible refine (bits_Mul64' _ _ _ _ HA.out HB.out HH HL _).mono ?_); rintro e w' ⟨rfl, rfl⟩) | (go_at_call 76; (with_reducible refine (HD.out _ H2.out H1.out HM.out).mono ?_); rintro e w' ⟨rfl, n, rfl⟩))
  go_ret
  exact ⟨rfl, below_drewN' _ _⟩

theorem prime_pow (a0 e0 m : Nat) (w : World) (ha : a0 < m) (he : e0 < 18446744073709551616) (hm : m < 18446744073709551616) :
    Calls Tryd.prog 66 #[.int .u64 a0, .int .u64 e0, .int .u64 m] w fun e w' => e = .returned (.int .u64 (a0 ^ e0 % m : Nat)) ∧ Below w.heap.size w w' := by
  have hm0 : 1 ≤ m := by omega
  have h1 : ((1 : Int) % (m : Int)) = ((1 % m : Nat) : Int) := by simp
  have HE := Lib.hid he
  have HM := Lib.hid hm
  clear he hm
  go_enter Tryd.func66, Tryd.ntmps66
  go_wp2_with fail
  go_loopw [0, 1, 7] (fun va ve vx wr => ∃ a e x : Nat, va = .int .u64 a ∧ ve = .int .u64 e ∧ vx = .int .u64 x ∧ a < m ∧ x < m ∧ e ≤ e0 ∧ x * a ^ e % m = a0 ^ e0 % m ∧ Below w.heap.size w wr) (fun _ ve _ _ => (intOf ve).toNat)
  case atStart => exact ⟨a0, e0, 1 % m, rfl, rfl, by rw [← h1], ha, Nat.mod_lt _ (by omega), Nat.le_refl _, by rw [mul_mod_l, Nat.one_mul], Below.refl _ _⟩
  case round =>
    obtain ⟨a, e, x, rfl, rfl, rfl, ha1, hx1, he1, hinv, hbel⟩ := hrel
    have HI := Lib.hid hinv
    have HAM := Lib.hid ha1
    have HXM := Lib.hid hx1
    clear hinv h1 ha1 hx1
    by_cases hz : e = 0
    · subst hz
      go_wp2_with fail
      go_ret
      exact ⟨ret_int (by rw [← HI.out, Nat.pow_zero, Nat.mul_one, Nat.mod_eq_of_lt HXM.out]), hbel⟩
    · have hpos : (0 : Int) < (e : Int) := by omega
      by_cases ho : e % 2 = 1
      · have hpe : 0 < e := by omega
        have B1 : ((e : Int) % 2 == 1) = true := by rw [beq_iff_eq]; omega
        have HO := Lib.hid ho
        clear ho hz
        go_wp2_with (first | (go_at_call 67; (with_reducible refine (prime_mul x a m _ HXM.out HAM.out HM.out).mono ?_); rintro e w' ⟨rfl, hb1⟩) | (go_at_call 67; (with_reducible refine (prime_mul a a m _ HAM.out HAM.out HM.out).mono ?_); rintro e w' ⟨rfl, hb2⟩))
        have hq := u64_quo e 2 (Nat.lt_of_le_of_lt he1 HE.out)
        go_roundw
        case rel => exact ⟨a * a % m, e / 2, x * a % m, by congr 1, by rw [← hq]; rfl, by congr 1, Nat.mod_lt _ (by omega), Nat.mod_lt _ (by omega), by omega, by rw [pow_step_odd _ _ _ _ HO.out]; exact HI.out, below2 (below2 hbel hb1) hb2⟩
        case measure =>
          have hq2 : IntKind.u64.wrap ((e : Int) / 2) = ((e / 2 : Nat) : Int) := hq
          rw [hq2]; simp [intOf]; omega
      · have hpe : 0 < e := by omega
        have B1 : ((e : Int) % 2 == 1) = false := by rw [beq_eq_false_iff_ne]; omega
        have HO := Lib.hid ho
        clear ho hz
        go_wp2_with (first | (go_at_call 67; (with_reducible refine (prime_mul a a m _ HAM.out HAM.out HM.out).mono ?_); rintro e w' ⟨rfl, hb2⟩))
        have hq := u64_quo e 2 (Nat.lt_of_le_of_lt he1 HE.out)
        go_roundw
        case rel => exact ⟨a * a % m, e / 2, x, by congr 1, by rw [← hq]; rfl, rfl, Nat.mod_lt _ (by omega), HXM.out, by omega, by rw [pow_step_even _ _ _ _ HO.out]; exact HI.out, below2 hbel hb2⟩
        case measure =>
          have hq2 : IntKind.u64.wrap ((e : Int) / 2) = ((e / 2 : Nat) : Int) := hq
          rw [hq2]; simp [intOf]; omega

end Go.Proofs.YtfggpgiinihflaaDoor
