/- The walks of the reference of layer 4 (prime). -/
import Derived.Test.YtlppcnjaacbhpaaGreatDoorR3
import Derived.Test.YtlppcnjaacbhpaaGreatDoorG3
namespace Go.Proofs.YtlppcnjaacbhpaaGreatDoor
open Go.RowKit
set_option maxRecDepth 100000
set_option linter.unusedVariables false
set_option maxHeartbeats 400000

theorem r04_Formed (s : ByteArray) (w : World) :
    Calls Tryz.prog 121 #[.string s] w fun e w' => e = .returned (.bool (valid s)) ∧ w = w' := by
  by_cases h0 : 0 < s.size
  · have hv := Lib.hid (valid_pos h0)
    go_enter Tryz.func121, Tryz.ntmps121
    go_wp2
    all_goals
      go_ret
      exact ⟨ret_bool (by rw [hv.out]; first | (simp [*]; done) | (simp; intros; omega)), rfl⟩
  · obtain rfl : s = ByteArray.empty := by
      apply ByteArray.ext
      apply Array.eq_empty_of_size_eq_zero
      show s.size = 0
      omega
    go_enter Tryz.func121, Tryz.ntmps121
    go_wp2
    go_ret
    exact ⟨rfl, rfl⟩
theorem wrap_u64_step (v b m : Nat) (h : v % 18446744073709551616 = m) : IntKind.u64.wrap (IntKind.u64.wrap ((m : Int) * 256) + IntKind.u64.wrap (b : Int)) = (((v * 256 + b) % 18446744073709551616 : Nat) : Int) := by
  rw [IntKind.wrap_u64, IntKind.wrap_u64, IntKind.wrap_u64]; omega
theorem r04_U (s : ByteArray) (w : World) (hs : s.size ≤ 1000000) :
    Calls Tryz.prog 88 #[.string s] w fun e w' => e = .returned (.tuple #[.int .u64 (num s % 18446744073709551616 : Nat), .bool (decide (s.size ≤ 8))]) ∧ w = w' := by
  have HE := Lib.hid (show num s = val (s.data.toList.take s.size) by rw [size_eq, List.take_length]; rfl)
  go_enter Tryz.func88, Tryz.ntmps88
  go_wp2
  go_loop [4, 5] (fun n c => ∃ i : Nat, i ≤ s.size ∧ c = .int .i64 i ∧ n = .int .u64 (val (s.data.toList.take i) % 18446744073709551616 : Nat)) (fun _ c => s.size - (intOf c).toNat)
  case atStart => exact ⟨0, by omega, rfl, rfl⟩
  case round =>
    obtain ⟨i, hi, rfl, rfl⟩ := hrel
    by_cases hlt : i < s.size
    · have h3 : (s.data.toList)[i]'(by rw [← size_eq]; exact hlt) = s[i] := rfl
      have h4 := val_take_succ s.data.toList i (by rw [← size_eq]; exact hlt)
      rw [h3] at h4
      have H4 := Lib.hid h4
      clear h3 h4
      have hbig : val (s.data.toList.take i) % 18446744073709551616 < 18446744073709551616 := Nat.mod_lt _ (by decide)
      generalize val (s.data.toList.take i) = v at *
      obtain ⟨m, hm⟩ : ∃ m, v % 18446744073709551616 = m := ⟨_, rfl⟩
      have HS := Lib.hid (wrap_u64_step v s[i].toNat m hm)
      rw [hm]
      clear hm hbig
      go_wp2
      go_round
      case rel => exact ⟨i + 1, by omega, by go_num, by rw [HS.out, H4.out]⟩
      case measure => simp [intOf]; omega
    · obtain rfl : i = s.size := by omega
      go_wp2
      go_ret2
      exact ⟨ret_ib (by rw [HE.out]) (by simp; omega), rfl⟩
theorem r04_AddMod (a b m : Nat) (w : World) (ha : a < m) (hb : b < m) (hm : m < 18446744073709551616) :
    Calls Tryz.prog 162 #[.int .u64 a, .int .u64 b, .int .u64 m] w fun e w' => e = .returned (.int .u64 ((a + b) % m : Nat)) ∧ w = w' := by
  obtain ⟨c, hc⟩ : ∃ c, m - b = c := ⟨_, rfl⟩
  have ec : ((m : Int) - (b : Int)) = (c : Int) := by omega
  have wc : IntKind.u64.wrap (c : Int) = (c : Int) := by rw [IntKind.wrap_u64]; omega
  by_cases h : c ≤ a
  · obtain ⟨r, hr⟩ : ∃ r, a - c = r := ⟨_, rfl⟩
    have er : ((a : Int) - (c : Int)) = (r : Int) := by omega
    have wr : IntKind.u64.wrap (r : Int) = (r : Int) := by rw [IntKind.wrap_u64]; omega
    have HR := Lib.hid (show (a + b) % m = r by rw [show a + b = r + m by omega, Nat.add_mod_right, Nat.mod_eq_of_lt (by omega)])
    have k1 : decide ((c : Int) ≤ (a : Int)) = true := by simpa using h
    clear hc hr ha hb hm
    go_enter Tryz.func162, Tryz.ntmps162
    go_wp2
    go_ret
    exact ⟨ret_int (by rw [HR.out]), rfl⟩
  · obtain ⟨r, hr⟩ : ∃ r, a + b = r := ⟨_, rfl⟩
    have er : ((a : Int) + (b : Int)) = (r : Int) := by omega
    have wr : IntKind.u64.wrap (r : Int) = (r : Int) := by rw [IntKind.wrap_u64]; omega
    have HR := Lib.hid (show (a + b) % m = r by rw [Nat.mod_eq_of_lt (by omega)]; exact hr)
    have k1 : decide ((c : Int) ≤ (a : Int)) = false := by simpa using h
    clear hc hr ha hb hm
    go_enter Tryz.func162, Tryz.ntmps162
    go_wp2
    go_ret
    exact ⟨ret_int (by rw [HR.out]), rfl⟩

theorem mul_step_odd (o a b m : Nat) (h : b % 2 = 1) : ((o + a) % m + (a + a) % m * (b / 2)) % m = (o + a * b) % m := by
  rw [Nat.add_mod, Nat.mod_mod, mul_mod_l, ← Nat.add_mod]
  congr 1
  conv => rhs; rw [show b = 1 + 2 * (b / 2) by omega, Nat.mul_add]
  rw [← Nat.mul_assoc, Nat.mul_two, Nat.mul_one]; omega
theorem mul_step_even (o a b m : Nat) (h : b % 2 ≠ 1) : (o + (a + a) % m * (b / 2)) % m = (o + a * b) % m := by
  rw [Nat.add_mod, mul_mod_l, ← Nat.add_mod]
  congr 1
  conv => rhs; rw [show b = 2 * (b / 2) by omega]
  rw [← Nat.mul_assoc, Nat.mul_two]
theorem r04_MulMod_small (a b m : Nat) (w : World) (ha : a < m) (hb : b < m) (hm : m < 4294967296) :
    Calls Tryz.prog 146 #[.int .u64 a, .int .u64 b, .int .u64 m] w fun e w' => e = .returned (.int .u64 (a * b % m : Nat)) ∧ w = w' := by
  have hp : a * b < 18446744073709551616 := by
    have := Nat.mul_le_mul (show a ≤ 4294967295 by omega) (show b ≤ 4294967295 by omega)
    omega
  obtain ⟨p, hpp⟩ : ∃ p, a * b = p := ⟨_, rfl⟩
  have ep : ((a : Int) * (b : Int)) = (p : Int) := by rw [← hpp, Int.natCast_mul]
  have wp : IntKind.u64.wrap (p : Int) = (p : Int) := by rw [IntKind.wrap_u64]; omega
  rw [hpp]
  have hm0 : 0 < m := by omega
  have k1 : decide ((m : Int) < 4294967296) = true := by simp; omega
  obtain ⟨R, hR⟩ : ∃ R, p % m = R := ⟨_, rfl⟩
  have er : ((p : Int) % (m : Int)) = (R : Int) := by rw [← hR]; simp
  rw [hR]
  clear hp hpp ha hb hm hR
  go_enter Tryz.func146, Tryz.ntmps146
  go_wp2
  go_ret
  exact ⟨ret_int er, rfl⟩
theorem r04_MulMod_great (a0 b0 m : Nat) (w : World) (ha : a0 < m) (hb : b0 < m) (hm : m < 18446744073709551616) (hg : 4294967296 ≤ m) :
    Calls Tryz.prog 146 #[.int .u64 a0, .int .u64 b0, .int .u64 m] w fun e w' => e = .returned (.int .u64 (a0 * b0 % m : Nat)) ∧ w = w' := by
  have HM := Lib.hid hm
  have HB0 := Lib.hid (show b0 < 18446744073709551616 by omega)
  have k1 : decide ((m : Int) < 4294967296) = false := by simp; omega
  have hm0 : 0 < m := by omega
  obtain ⟨R, hR⟩ : ∃ R, a0 * b0 % m = R := ⟨_, rfl⟩
  rw [hR]
  have HRR := Lib.hid hR
  clear hm hg hR
  go_enter Tryz.func146, Tryz.ntmps146
  go_wp2_with fail
  go_loop [0, 1, 7] (fun va vb vo => ∃ a b o : Nat, va = .int .u64 a ∧ vb = .int .u64 b ∧ vo = .int .u64 o ∧ a < m ∧ o < m ∧ b ≤ b0 ∧ (o + a * b) % m = R) (fun _ vb _ => (intOf vb).toNat)
  case atStart => exact ⟨a0, b0, 0, rfl, rfl, rfl, ha, by omega, Nat.le_refl _, by rw [Nat.zero_add]; exact HRR.out⟩
  case round =>
    obtain ⟨a, b, o, rfl, rfl, rfl, ha1, ho1, hb1, hinv⟩ := hrel
    have HI := Lib.hid hinv
    have HAM := Lib.hid ha1
    have HOM := Lib.hid ho1
    clear hinv ha1 ho1
    by_cases hz : b = 0
    · subst hz
      go_wp2_with fail
      go_ret
      exact ⟨ret_int (by rw [← HI.out, Nat.mul_zero, Nat.add_zero, Nat.mod_eq_of_lt HOM.out]), rfl⟩
    · have hpos : (0 : Int) < (b : Int) := by omega
      have hpe : 0 < b := by omega
      have hq := u64_quo b 2 (Nat.lt_of_le_of_lt hb1 HB0.out)
      have HQ := Lib.hid hq
      clear hq
      by_cases ho : b % 2 = 1
      · have B1 : ((b : Int) % 2 == 1) = true := by rw [beq_iff_eq]; omega
        have HO := Lib.hid ho
        clear ho hz
        go_wp2_with (first | (go_at_call 162; (with_reducible refine (r04_AddMod o a m _ HOM.out HAM.out HM.out).mono ?_); rintro e w' ⟨rfl, rfl⟩) | (go_at_call 162; (with_reducible refine (r04_AddMod a a m _ HAM.out HAM.out HM.out).mono ?_); rintro e w' ⟨rfl, rfl⟩))
        go_round
        case rel => exact ⟨(a + a) % m, b / 2, (o + a) % m, by congr 1, by rw [← HQ.out]; rfl, by congr 1, Nat.mod_lt _ (by omega), Nat.mod_lt _ (by omega), by omega, by rw [mul_step_odd _ _ _ _ HO.out]; exact HI.out⟩
        case measure =>
          have hq2 : IntKind.u64.wrap ((b : Int) / 2) = ((b / 2 : Nat) : Int) := HQ.out
          rw [hq2]; simp [intOf]; omega
      · have B1 : ((b : Int) % 2 == 1) = false := by rw [beq_eq_false_iff_ne]; omega
        have HO := Lib.hid ho
        clear ho hz
        go_wp2_with (first | (go_at_call 162; (with_reducible refine (r04_AddMod a a m _ HAM.out HAM.out HM.out).mono ?_); rintro e w' ⟨rfl, rfl⟩))
        go_round
        case rel => exact ⟨(a + a) % m, b / 2, o, by congr 1, by rw [← HQ.out]; rfl, rfl, Nat.mod_lt _ (by omega), HOM.out, by omega, by rw [mul_step_even _ _ _ _ HO.out]; exact HI.out⟩
        case measure =>
          have hq2 : IntKind.u64.wrap ((b : Int) / 2) = ((b / 2 : Nat) : Int) := HQ.out
          rw [hq2]; simp [intOf]; omega
theorem r04_MulMod (a b m : Nat) (w : World) (ha : a < m) (hb : b < m) (hm : m < 18446744073709551616) :
    Calls Tryz.prog 146 #[.int .u64 a, .int .u64 b, .int .u64 m] w fun e w' => e = .returned (.int .u64 (a * b % m : Nat)) ∧ w = w' := by
  rcases Nat.lt_or_ge m 4294967296 with h | h
  · exact r04_MulMod_small a b m w ha hb h
  · exact r04_MulMod_great a b m w ha hb hm h
theorem r04_ExpMod (a0 e0 m : Nat) (w : World) (ha : a0 < m) (he : e0 < 18446744073709551616) (hm : m < 18446744073709551616) :
    Calls Tryz.prog 145 #[.int .u64 a0, .int .u64 e0, .int .u64 m] w fun e w' => e = .returned (.int .u64 (a0 ^ e0 % m : Nat)) ∧ w = w' := by
  have hm0 : 1 ≤ m := by omega
  have h1 : ((1 : Int) % (m : Int)) = ((1 % m : Nat) : Int) := by simp
  have HE := Lib.hid he
  have HM := Lib.hid hm
  obtain ⟨R, hR⟩ : ∃ R, a0 ^ e0 % m = R := ⟨_, rfl⟩
  rw [hR]
  have HRR := Lib.hid hR
  clear he hm hR
  go_enter Tryz.func145, Tryz.ntmps145
  go_wp2_with fail
  go_loop [0, 1, 7] (fun va ve vx => ∃ a e x : Nat, va = .int .u64 a ∧ ve = .int .u64 e ∧ vx = .int .u64 x ∧ a < m ∧ x < m ∧ e ≤ e0 ∧ x * a ^ e % m = R) (fun _ ve _ => (intOf ve).toNat)
  case atStart => exact ⟨a0, e0, 1 % m, rfl, rfl, by rw [← h1], ha, Nat.mod_lt _ (by omega), Nat.le_refl _, by rw [mul_mod_l, Nat.one_mul]; exact HRR.out⟩
  case round =>
    obtain ⟨a, e, x, rfl, rfl, rfl, ha1, hx1, he1, hinv⟩ := hrel
    have HI := Lib.hid hinv
    have HAM := Lib.hid ha1
    have HXM := Lib.hid hx1
    clear hinv h1 ha1 hx1
    by_cases hz : e = 0
    · subst hz
      go_wp2_with fail
      go_ret
      exact ⟨ret_int (by rw [← HI.out, Nat.pow_zero, Nat.mul_one, Nat.mod_eq_of_lt HXM.out]), rfl⟩
    · have hpos : (0 : Int) < (e : Int) := by omega
      have HQ := Lib.hid (u64_quo e 2 (Nat.lt_of_le_of_lt he1 HE.out))
      have hpe : 0 < e := by omega
      by_cases ho : e % 2 = 1
      · have B1 : ((e : Int) % 2 == 1) = true := by rw [beq_iff_eq]; omega
        have HO := Lib.hid ho
        clear ho hz
        go_wp2_with (first | (go_at_call 146; (with_reducible refine (r04_MulMod x a m _ HXM.out HAM.out HM.out).mono ?_); rintro e w' ⟨rfl, rfl⟩) | (go_at_call 146; (with_reducible refine (r04_MulMod a a m _ HAM.out HAM.out HM.out).mono ?_); rintro e w' ⟨rfl, rfl⟩))
        go_round
        case rel => exact ⟨a * a % m, e / 2, x * a % m, by congr 1, by rw [← HQ.out]; rfl, by congr 1, Nat.mod_lt _ (by omega), Nat.mod_lt _ (by omega), by omega, by rw [pow_step_odd _ _ _ _ HO.out]; exact HI.out⟩
        case measure =>
          have hq2 : IntKind.u64.wrap ((e : Int) / 2) = ((e / 2 : Nat) : Int) := HQ.out
          rw [hq2]; simp [intOf]; omega
      · have B1 : ((e : Int) % 2 == 1) = false := by rw [beq_eq_false_iff_ne]; omega
        have HO := Lib.hid ho
        clear ho hz
        go_wp2_with (first | (go_at_call 146; (with_reducible refine (r04_MulMod a a m _ HAM.out HAM.out HM.out).mono ?_); rintro e w' ⟨rfl, rfl⟩))
        go_round
        case rel => exact ⟨a * a % m, e / 2, x, by congr 1, by rw [← HQ.out]; rfl, rfl, Nat.mod_lt _ (by omega), HXM.out, by omega, by rw [pow_step_even _ _ _ _ HO.out]; exact HI.out⟩
        case measure =>
          have hq2 : IntKind.u64.wrap ((e : Int) / 2) = ((e / 2 : Nat) : Int) := HQ.out
          rw [hq2]; simp [intOf]; omega

end Go.Proofs.YtlppcnjaacbhpaaGreatDoor
