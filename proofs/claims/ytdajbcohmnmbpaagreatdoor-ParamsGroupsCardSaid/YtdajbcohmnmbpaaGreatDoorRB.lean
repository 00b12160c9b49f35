/- The walks of the reference of layer 4 (prime). The walks of the reference of layer 4 (prime): the test. -/
import Derived.Test.YtdajbcohmnmbpaaGreatDoorRA
import Derived.Test.YtdajbcohmnmbpaaGreatDoorBP
namespace Go.Proofs.YtdajbcohmnmbpaaGreatDoor
open Go.RowKit
set_option maxRecDepth 100000
set_option linter.unusedVariables false
set_option maxHeartbeats 400000

theorem r04_Formed (s : ByteArray) (w : World) :
    Calls Tryz.prog 164 #[.string s] w fun e w' => e = .returned (.bool (valid s)) ∧ w = w' := by
  by_cases h0 : 0 < s.size
  · have hv := Lib.hid (valid_pos h0)
    go_enter Tryz.func164, Tryz.ntmps164
    go_wp2
    all_goals
      go_ret
      exact ⟨ret_bool (by rw [hv.out]; first | (simp [*]; done) | (simp; intros; omega)), rfl⟩
  · obtain rfl : s = ByteArray.empty := by
      apply ByteArray.ext
      apply Array.eq_empty_of_size_eq_zero
      show s.size = 0
      omega
    go_enter Tryz.func164, Tryz.ntmps164
    go_wp2
    go_ret
    exact ⟨rfl, rfl⟩
theorem wrap_u64_step (v b m : Nat) (h : v % 18446744073709551616 = m) : IntKind.u64.wrap (IntKind.u64.wrap ((m : Int) * 256) + IntKind.u64.wrap (b : Int)) = (((v * 256 + b) % 18446744073709551616 : Nat) : Int) := by
  rw [IntKind.wrap_u64, IntKind.wrap_u64, IntKind.wrap_u64]; omega
theorem r04_U (s : ByteArray) (w : World) (hs : s.size ≤ 1000000) :
    Calls Tryz.prog 165 #[.string s] w fun e w' => e = .returned (.tuple #[.int .u64 (num s % 18446744073709551616 : Nat), .bool (decide (s.size ≤ 8))]) ∧ w = w' := by
  have HE := Lib.hid (show num s = val (s.data.toList.take s.size) by rw [size_eq, List.take_length]; rfl)
  go_enter Tryz.func165, Tryz.ntmps165
  go_wp2
  go_loop [4, 5] (fun n c => ∃ i : Nat, i ≤ s.size ∧ c = .int .i64 i ∧ n = .int .u64 (val (s.data.toList.take i) % 18446744073709551616 : Nat)) (fun _ c => s.size - (intOf c).toNat)
  case atStart => exact ⟨0, by omega, rfl, rfl⟩
  case round =>
    obtain ⟨i, hi, rfl, rfl⟩ := hrel
    by_cases hlt : i < s.size
    · have h3 : (s.data.toList)[i]'(by rw [← size_eq]; exact hlt) = s[i] := rfl
      have h4 := val_take_succ s.data.toList i (by rw [← size_eq]; exact hlt)
      rw [h3] at h4
      have H4 := Lib.hid h4
      clear h3 h4
      have hbig : val (s.data.toList.take i) % 18446744073709551616 < 18446744073709551616 := Nat.mod_lt _ (by decide)
      generalize val (s.data.toList.take i) = v at *
      obtain ⟨m, hm⟩ : ∃ m, v % 18446744073709551616 = m := ⟨_, rfl⟩
      have HS := Lib.hid (wrap_u64_step v s[i].toNat m hm)
      rw [hm]
      clear hm hbig
      go_wp2
      go_round
      case rel => exact ⟨i + 1, by omega, by go_num, by rw [HS.out, H4.out]⟩
      case measure => simp [intOf]; omega
    · obtain rfl : i = s.size := by omega
      go_wp2
      go_ret2
      exact ⟨ret_ib (by rw [HE.out]) (by simp; omega), rfl⟩
theorem r04_AddMod (a b m : Nat) (w : World) (ha : a < m) (hb : b < m) (hm : m < 18446744073709551616) :
    Calls Tryz.prog 259 #[.int .u64 a, .int .u64 b, .int .u64 m] w fun e w' => e = .returned (.int .u64 ((a + b) % m : Nat)) ∧ w = w' := by
  obtain ⟨c, hc⟩ : ∃ c, m - b = c := ⟨_, rfl⟩
  have ec : ((m : Int) - (b : Int)) = (c : Int) := by omega
  have wc : IntKind.u64.wrap (c : Int) = (c : Int) := by rw [IntKind.wrap_u64]; omega
  by_cases h : c ≤ a
  · obtain ⟨r, hr⟩ : ∃ r, a - c = r := ⟨_, rfl⟩
    have er : ((a : Int) - (c : Int)) = (r : Int) := by omega
    have wr : IntKind.u64.wrap (r : Int) = (r : Int) := by rw [IntKind.wrap_u64]; omega
    have HR := Lib.hid (show (a + b) % m = r by rw [show a + b = r + m by omega, Nat.add_mod_right, Nat.mod_eq_of_lt (by omega)])
    have k1 : decide ((c : Int) ≤ (a : Int)) = true := by simpa using h
    clear hc hr ha hb hm
    go_enter Tryz.func259, Tryz.ntmps259
    go_wp2
    go_ret
    exact ⟨ret_int (by rw [HR.out]), rfl⟩
  · obtain ⟨r, hr⟩ : ∃ r, a + b = r := ⟨_, rfl⟩
    have er : ((a : Int) + (b : Int)) = (r : Int) := by omega
    have wr : IntKind.u64.wrap (r : Int) = (r : Int) := by rw [IntKind.wrap_u64]; omega
    have HR := Lib.hid (show (a + b) % m = r by rw [Nat.mod_eq_of_lt (by omega)]; exact hr)
    have k1 : decide ((c : Int) ≤ (a : Int)) = false := by simpa using h
    clear hc hr ha hb hm
    go_enter Tryz.func259, Tryz.ntmps259
    go_wp2
    go_ret
    exact ⟨ret_int (by rw [HR.out]), rfl⟩

theorem mul_step_odd (o a b m : Nat) (h : b % 2 = 1) : ((o + a) % m + (a + a) % m * (b / 2)) % m = (o + a * b) % m := by
  rw [Nat.add_mod, Nat.mod_mod, mul_mod_l, ← Nat.add_mod]
  congr 1
  conv => rhs; rw [show b = 1 + 2 * (b / 2) by omega, Nat.mul_add]
  rw [← Nat.mul_assoc, Nat.mul_two, Nat.mul_one]; omega
theorem mul_step_even (o a b m : Nat) (h : b % 2 ≠ 1) : (o + (a + a) % m * (b / 2)) % m = (o + a * b) % m := by
  rw [Nat.add_mod, mul_mod_l, ← Nat.add_mod]
  congr 1
  conv => rhs; rw [show b = 2 * (b / 2) by omega]
  rw [← Nat.mul_assoc, Nat.mul_two]
theorem r04_MulMod_small (a b m : Nat) (w : World) (ha : a < m) (hb : b < m) (hm : m < 4294967296) :
    Calls Tryz.prog 242 #[.int .u64 a, .int .u64 b, .int .u64 m] w fun e w' => e = .returned (.int .u64 (a * b % m : Nat)) ∧ w = w' := by
  have hp : a * b < 18446744073709551616 := by
    have := Nat.mul_le_mul (show a ≤ 4294967295 by omega) (show b ≤ 4294967295 by omega)
    omega
  obtain ⟨p, hpp⟩ : ∃ p, a * b = p := ⟨_, rfl⟩
  have ep : ((a : Int) * (b : Int)) = (p : Int) := by rw [← hpp, Int.natCast_mul]
  have wp : IntKind.u64.wrap (p : Int) = (p : Int) := by rw [IntKind.wrap_u64]; omega
  rw [hpp]
  have hm0 : 0 < m := by omega
  have k1 : decide ((m : Int) < 4294967296) = true := by simp; omega
  obtain ⟨R, hR⟩ : ∃ R, p % m = R := ⟨_, rfl⟩
  have er : ((p : Int) % (m : Int)) = (R : Int) := by rw [← hR]; simp
  rw [hR]
  clear hp hpp ha hb hm hR
  go_enter Tryz.func242, Tryz.ntmps242
  go_wp2
  go_ret
  exact ⟨ret_int er, rfl⟩
theorem r04_MulMod_great (a0 b0 m : Nat) (w : World) (ha : a0 < m) (hb : b0 < m) (hm : m < 18446744073709551616) (hg : 4294967296 ≤ m) :
    Calls Tryz.prog 242 #[.int .u64 a0, .int .u64 b0, .int .u64 m] w fun e w' => e = .returned (.int .u64 (a0 * b0 % m : Nat)) ∧ w = w' := by
  have HM := Lib.hid hm
  have HB0 := Lib.hid (show b0 < 18446744073709551616 by omega)
  have k1 : decide ((m : Int) < 4294967296) = false := by simp; omega
  have hm0 : 0 < m := by omega
  obtain ⟨R, hR⟩ : ∃ R, a0 * b0 % m = R := ⟨_, rfl⟩
  rw [hR]
  have HRR := Lib.hid hR
  clear hm hg hR
  go_enter Tryz.func242, Tryz.ntmps242
  go_wp2_with fail
  go_loop [0, 1, 7] (fun va vb vo => ∃ a b o : Nat, va = .int .u64 a ∧ vb = .int .u64 b ∧ vo = .int .u64 o ∧ a < m ∧ o < m ∧ b ≤ b0 ∧ (o + a * b) % m = R) (fun _ vb _ => (intOf vb).toNat)
  case atStart => exact ⟨a0, b0, 0, rfl, rfl, rfl, ha, by omega, Nat.le_refl _, by rw [Nat.zero_add]; exact HRR.out⟩
  case round =>
    obtain ⟨a, b, o, rfl, rfl, rfl, ha1, ho1, hb1, hinv⟩ := hrel
    have HI := Lib.hid hinv
    have HAM := Lib.hid ha1
    have HOM := Lib.hid ho1
    clear hinv ha1 ho1
    by_cases hz : b = 0
    · subst hz
      go_wp2_with fail
      go_ret
      exact ⟨ret_int (by rw [← HI.out, Nat.mul_zero, Nat.add_zero, Nat.mod_eq_of_lt HOM.out]), rfl⟩
    · have hpos : (0 : Int) < (b : Int) := by omega
      have hpe : 0 < b := by omega
      have hq := u64_quo b 2 (Nat.lt_of_le_of_lt hb1 HB0.out)
      have HQ := Lib.hid hq
      clear hq
      by_cases ho : b % 2 = 1
      · have B1 : ((b : Int) % 2 == 1) = true := by rw [beq_iff_eq]; omega
        have HO := Lib.hid ho
        clear ho hz
        go_wp2_with (first | (go_at_call 259; (with_reducible refine (r04_AddMod o a m _ HOM.out HAM.out HM.out).mono ?_); rintro e w' ⟨rfl, rfl⟩) | (go_at_call 259; (with_reducible refine (r04_AddMod a a m _ HAM.out HAM.out HM.out).mono ?_); rintro e w' ⟨rfl, rfl⟩))
        go_round
        case rel => exact ⟨(a + a) % m, b / 2, (o + a) % m, by congr 1, by rw [← HQ.out]; rfl, by congr 1, Nat.mod_lt _ (by omega), Nat.mod_lt _ (by omega), by omega, by rw [mul_step_odd _ _ _ _ HO.out]; exact HI.out⟩
        case measure =>
          have hq2 : IntKind.u64.wrap ((b : Int) / 2) = ((b / 2 : Nat) : Int) := HQ.out
          rw [hq2]; simp [intOf]; omega
      · have B1 : ((b : Int) % 2 == 1) = false := by rw [beq_eq_false_iff_ne]; omega
        have HO := Lib.hid ho
        clear ho hz
        go_wp2_with (first | (go_at_call 259; (with_reducible refine (r04_AddMod a a m _ HAM.out HAM.out HM.out).mono ?_); rintro e w' ⟨rfl, rfl⟩))
        go_round
        case rel => exact ⟨(a + a) % m, b / 2, o, by congr 1, by rw [← HQ.out]; rfl, rfl, Nat.mod_lt _ (by omega), HOM.out, by omega, by rw [mul_step_even _ _ _ _ HO.out]; exact HI.out⟩
        case measure =>
          have hq2 : IntKind.u64.wrap ((b : Int) / 2) = ((b / 2 : Nat) : Int) := HQ.out
          rw [hq2]; simp [intOf]; omega
theorem r04_MulMod (a b m : Nat) (w : World) (ha : a < m) (hb : b < m) (hm : m < 18446744073709551616) :
    Calls Tryz.prog 242 #[.int .u64 a, .int .u64 b, .int .u64 m] w fun e w' => e = .returned (.int .u64 (a * b % m : Nat)) ∧ w = w' := by
  rcases Nat.lt_or_ge m 4294967296 with h | h
  · exact r04_MulMod_small a b m w ha hb h
  · exact r04_MulMod_great a b m w ha hb hm h
theorem r04_ExpMod (a0 e0 m : Nat) (w : World) (ha : a0 < m) (he : e0 < 18446744073709551616) (hm : m < 18446744073709551616) :
    Calls Tryz.prog 241 #[.int .u64 a0, .int .u64 e0, .int .u64 m] w fun e w' => e = .returned (.int .u64 (a0 ^ e0 % m : Nat)) ∧ w = w' := by
  have hm0 : 1 ≤ m := by omega
  have h1 : ((1 : Int) % (m : Int)) = ((1 % m : Nat) : Int) := by simp
  have HE := Lib.hid he
  have HM := Lib.hid hm
  obtain ⟨R, hR⟩ : ∃ R, a0 ^ e0 % m = R := ⟨_, rfl⟩
  rw [hR]
  have HRR := Lib.hid hR
  clear he hm hR
  go_enter Tryz.func241, Tryz.ntmps241
  go_wp2_with fail
  go_loop [0, 1, 7] (fun va ve vx => ∃ a e x : Nat, va = .int .u64 a ∧ ve = .int .u64 e ∧ vx = .int .u64 x ∧ a < m ∧ x < m ∧ e ≤ e0 ∧ x * a ^ e % m = R) (fun _ ve _ => (intOf ve).toNat)
  case atStart => exact ⟨a0, e0, 1 % m, rfl, rfl, by rw [← h1], ha, Nat.mod_lt _ (by omega), Nat.le_refl _, by rw [mul_mod_l, Nat.one_mul]; exact HRR.out⟩
  case round =>
    obtain ⟨a, e, x, rfl, rfl, rfl, ha1, hx1, he1, hinv⟩ := hrel
    have HI := Lib.hid hinv
    have HAM := Lib.hid ha1
    have HXM := Lib.hid hx1
    clear hinv h1 ha1 hx1
    by_cases hz : e = 0
    · subst hz
      go_wp2_with fail
      go_ret
      exact ⟨ret_int (by rw [← HI.out, Nat.pow_zero, Nat.mul_one, Nat.mod_eq_of_lt HXM.out]), rfl⟩
    · have hpos : (0 : Int) < (e : Int) := by omega
      have HQ := Lib.hid (u64_quo e 2 (Nat.lt_of_le_of_lt he1 HE.out))
      have hpe : 0 < e := by omega
      by_cases ho : e % 2 = 1
      · have B1 : ((e : Int) % 2 == 1) = true := by rw [beq_iff_eq]; omega
        have HO := Lib.hid ho
        clear ho hz
        go_wp2_with (first | (go_at_call 242; (with_reducible refine (r04_MulMod x a m _ HXM.out HAM.out HM.out).mono ?_); rintro e w' ⟨rfl, rfl⟩) | (go_at_call 242; (with_reducible refine (r04_MulMod a a m _ HAM.out HAM.out HM.out).mono ?_); rintro e w' ⟨rfl, rfl⟩))
        go_round
        case rel => exact ⟨a * a % m, e / 2, x * a % m, by congr 1, by rw [← HQ.out]; rfl, by congr 1, Nat.mod_lt _ (by omega), Nat.mod_lt _ (by omega), by omega, by rw [pow_step_odd _ _ _ _ HO.out]; exact HI.out⟩
        case measure =>
          have hq2 : IntKind.u64.wrap ((e : Int) / 2) = ((e / 2 : Nat) : Int) := HQ.out
          rw [hq2]; simp [intOf]; omega
      · have B1 : ((e : Int) % 2 == 1) = false := by rw [beq_eq_false_iff_ne]; omega
        have HO := Lib.hid ho
        clear ho hz
        go_wp2_with (first | (go_at_call 242; (with_reducible refine (r04_MulMod a a m _ HAM.out HAM.out HM.out).mono ?_); rintro e w' ⟨rfl, rfl⟩))
        go_round
        case rel => exact ⟨a * a % m, e / 2, x, by congr 1, by rw [← HQ.out]; rfl, rfl, Nat.mod_lt _ (by omega), HXM.out, by omega, by rw [pow_step_even _ _ _ _ HO.out]; exact HI.out⟩
        case measure =>
          have hq2 : IntKind.u64.wrap ((e : Int) / 2) = ((e / 2 : Nat) : Int) := HQ.out
          rw [hq2]; simp [intOf]; omega

end Go.Proofs.YtdajbcohmnmbpaaGreatDoor

namespace Go.Proofs.YtdajbcohmnmbpaaGreatDoor
open Go.RowKit
set_option maxRecDepth 100000
set_option linter.unusedVariables false
set_option maxHeartbeats 400000

theorem tz_spec {n : Nat} (h1 : 2 ≤ n) (h : n < 18446744073709551616) : ∃ q, n - 1 = 2 ^ tz n * (2 * q + 1) ∧ tz n < 64 := by
  obtain ⟨m, hm, hk⟩ := Lib.ctzFrom_spec 64 (n - 1) (by omega) (by omega)
  have e : tz n = Lib.ctzFrom 64 (n - 1) := by unfold tz Lib.ctz; rw [if_neg (by omega)]
  rw [e]
  exact ⟨m, hm, hk⟩
theorem tz_below {n j : Nat} (h1 : 2 ≤ n) (h : n < 18446744073709551616) (hj : j < tz n) : (n - 1) / 2 ^ j % 2 = 0 := by
  obtain ⟨q, hq, _⟩ := tz_spec h1 h
  have e : 2 ^ tz n = 2 ^ j * (2 * 2 ^ (tz n - j - 1)) := by
    rw [← Nat.pow_succ', ← Nat.pow_add]; congr 1; omega
  rw [hq, e, Nat.mul_assoc, Nat.mul_div_cancel_left _ (Nat.two_pow_pos j), Nat.mul_assoc]
  omega
theorem tz_at {n : Nat} (h1 : 2 ≤ n) (h : n < 18446744073709551616) : (n - 1) / 2 ^ tz n % 2 = 1 := by
  obtain ⟨q, hq, _⟩ := tz_spec h1 h
  have e : (n - 1) / 2 ^ tz n = 2 * q + 1 := by
    conv => lhs; rw [hq]
    rw [Nat.mul_div_cancel_left _ (Nat.two_pow_pos _)]
  rw [e]; omega
theorem r04_StrongU (n a : Nat) (w : World) (hn : n < 18446744073709551616) (h3 : 3 ≤ n) (hodd : n % 2 = 1) (ha : a < n) (ha0 : 0 < a) :
    Calls Tryz.prog 215 #[.int .u64 n, .int .u64 a] w fun e w' => e = .returned (.bool (strongB n a)) ∧ w = w' := by
  obtain ⟨N, hN⟩ : ∃ N, n - 1 = N := ⟨_, rfl⟩
  have eN : ((n : Int) - 1) = (N : Int) := by omega
  have wN : IntKind.u64.wrap (N : Int) = (N : Int) := by rw [IntKind.wrap_u64]; omega
  have hNl := Lib.hid (show N < 18446744073709551616 by omega)
  have hb := @tz_below n
  have ht := tz_at (show 2 ≤ n by omega) hn
  obtain ⟨_, _, ht64⟩ := tz_spec (show 2 ≤ n by omega) hn
  rw [hN] at hb ht
  obtain ⟨t, htt⟩ : ∃ t, tz n = t := ⟨_, rfl⟩
  have hb' : ∀ j, j < t → N / 2 ^ j % 2 = 0 := fun j hj => hb (by omega) hn (by rw [htt]; exact hj)
  rw [htt] at ht ht64
  obtain ⟨d, hd⟩ : ∃ d, oddPart n = d := ⟨_, rfl⟩
  have hd2 : N / 2 ^ t = d := by rw [← hd, ← hN, ← htt]; rfl
  obtain ⟨x0, hx0⟩ : ∃ x0, first n a = x0 := ⟨_, rfl⟩
  have hdl : d < 18446744073709551616 := by rw [← hd2]; exact Nat.lt_of_le_of_lt (Nat.div_le_self _ _) (by omega)
  have hexp := fun w => r04_ExpMod a d n w ha hdl hn
  rw [show a ^ d % n = x0 by rw [← hx0, ← hd]; unfold first; rw [Nat.mod_eq_of_lt ha]] at hexp
  have HMU := Lib.hid (fun x w (hx : x < n) => r04_MulMod x x n w hx hx hn)
  have HTP : Hid (0 < t) := by
    apply Lib.hid
    rcases Nat.eq_zero_or_pos t with h | h
    · rw [h, Nat.pow_zero, Nat.div_one] at ht; omega
    · exact h
  have HB := Lib.hid hb'
  have HT := Lib.hid ht
  have HTT := Lib.hid htt
  have HD2 := Lib.hid hd2
  have HX0 := Lib.hid hx0
  have HE := Lib.hid hexp
  have HNN := Lib.hid hN
  have HXN := Lib.hid (show x0 < n by rw [← hx0]; exact Nat.mod_lt _ (by omega))
  have c1 : decide ((n : Int) < 3) = false := by simp; omega
  have c2 : ((n : Int) % 2 == 0) = false := by rw [beq_eq_false_iff_ne]; omega
  have c3 : ((a : Int) == 0) = false := by rw [beq_eq_false_iff_ne]; omega
  have HN := Lib.hid hn
  clear hb hb' ht htt hd hd2 hx0 hexp hN hdl hn hodd ha
  go_enter Tryz.func215, Tryz.ntmps215
  go_wp2_with fail
  go_loop [5, 6] (fun vd vs => ∃ s : Nat, s ≤ t ∧ vd = .int .u64 (N / 2 ^ s : Nat) ∧ vs = .int .i64 s) (fun _ vs => t - (intOf vs).toNat)
  case atStart => exact ⟨0, by omega, by simp, rfl⟩
  case round =>
    obtain ⟨s, hs, rfl, rfl⟩ := hrel
    by_cases hlt : s < t
    · have h1 := HB.out s hlt
      have hnx : N / 2 ^ s / 2 = N / 2 ^ (s + 1) := by rw [Nat.div_div_eq_div_mul, ← Nat.pow_succ]
      have HNX := Lib.hid hnx
      have HQ := Lib.hid (u64_quo (N / 2 ^ s) 2 (Nat.lt_of_le_of_lt (Nat.div_le_self _ _) hNl.out))
      clear hnx
      generalize N / 2 ^ s = m at *
      have B1 : ((m : Int) % 2 == 0) = true := by rw [beq_iff_eq]; omega
      clear h1
      go_wp2_with fail
      go_round
      case rel => exact ⟨s + 1, by omega, by rw [← HNX.out, ← HQ.out]; rfl, by go_num⟩
      case measure => simp [intOf]; omega
    · obtain rfl : s = t := by omega
      have hd2 := HD2.out
      rw [hd2]
      have h1 : d % 2 = 1 := by rw [← hd2]; exact HT.out
      have B1 : ((d : Int) % 2 == 0) = false := by rw [beq_eq_false_iff_ne]; omega
      clear h1 hd2
      by_cases h1 : x0 = 1
      · subst h1
        have HST := Lib.hid (strong_one HX0.out)
        go_wp2_with (go_at_call 241; refine (HE.out _).mono ?_; rintro e w' ⟨rfl, rfl⟩)
        go_ret
        exact ⟨ret_bool HST.out.symm, rfl⟩
      · have C1 : ((x0 : Int) == 1) = false := by rw [beq_eq_false_iff_ne]; omega
        have H1 := Lib.hid h1
        clear h1
        go_wp2_with (go_at_call 241; refine (HE.out _).mono ?_; rintro e w' ⟨rfl, rfl⟩)
        go_loop [7, 8] (fun vx c => ∃ i x : Nat, i ≤ s ∧ vx = .int .u64 x ∧ c = .int .i64 i ∧ x < n ∧ sqr n x0 i = x ∧ (∀ j, j < i → sqr n x0 j ≠ N)) (fun _ c => s - (intOf c).toNat)
        case atStart => exact ⟨0, x0, by omega, rfl, rfl, HXN.out, sqr_zero HXN.out, fun j h => absurd h (by omega)⟩
        case round =>
          obtain ⟨i, x, hi, rfl, rfl, hx, hsq, hnot⟩ := hrel
          have HX := Lib.hid hx
          have HSQ := Lib.hid hsq
          have HNOT := Lib.hid hnot
          clear hx hsq hnot
          by_cases hit : i < s
          · by_cases hxl : x = N
            · subst hxl
              have HST : Hid (strongB n a = true) := by
                by_cases h0 : i = 0
                · subst h0
                  exact Lib.hid (strong_last (by rw [HX0.out, ← sqr_zero HXN.out, HSQ.out, HNN.out]))
                · exact Lib.hid (strong_sqr (i := i) (by omega) (by rw [HTT.out]; exact hit) (by rw [HX0.out, HSQ.out, HNN.out]))
              go_wp2_with fail
              go_ret
              exact ⟨ret_bool HST.out.symm, rfl⟩
            · have D1 : ((x : Int) == (N : Int)) = false := by rw [beq_eq_false_iff_ne]; omega
              have HY := Lib.hid hxl
              obtain ⟨y, hy⟩ : ∃ y, x * x % n = y := ⟨_, rfl⟩
              have hmul := fun w => HMU.out x w HX.out
              rw [hy] at hmul
              have HMUL := Lib.hid hmul
              have HYY := Lib.hid hy
              clear hxl hmul hy
              go_wp2_with (go_at_call 242; refine (HMUL.out _).mono ?_; rintro e w' ⟨rfl, rfl⟩)
              go_round
              case rel => exact ⟨i + 1, y, by omega, rfl, by go_num, by rw [← HYY.out]; exact Nat.mod_lt _ (by omega), by rw [← sqr_succ, HSQ.out, HYY.out], fun j hj => by
                by_cases e : j = i
                · subst e; rw [HSQ.out]; exact HY.out
                · exact HNOT.out j (by omega)⟩
              case measure => simp [intOf]; omega
          · have HST : Hid (strongB n a = false) := by
              exact Lib.hid (strong_not (by rw [HX0.out]; exact H1.out) (by
                rw [HX0.out, HNN.out]
                have := HNOT.out 0 (by have := HTP.out; omega)
                rwa [sqr_zero HXN.out] at this) (fun j h1 h2 => by rw [HX0.out, HNN.out]; exact HNOT.out j (by rw [HTT.out] at h2; omega)))
            go_wp2_with fail
            go_ret
            exact ⟨ret_bool HST.out.symm, rfl⟩

theorem bases_cells (w : World) (T : TypeId) : ∀ k, k < 12 → (w.alloc (.cells basesV T)).cell? ⟨w.heap.size, k, none⟩ = some (.int .u64 (basesL.getD k 0 : Nat)) := by
  intro k hk
  have h : (w.alloc (.cells basesV T)).heap[w.heap.size]? = some (.cells basesV T (0, 0)) := heap_alloc_new w _
  simp only [World.cell?, h]
  match k, hk with
  | 0, _ => rfl
  | 1, _ => rfl
  | 2, _ => rfl
  | 3, _ => rfl
  | 4, _ => rfl
  | 5, _ => rfl
  | 6, _ => rfl
  | 7, _ => rfl
  | 8, _ => rfl
  | 9, _ => rfl
  | 10, _ => rfl
  | 11, _ => rfl
  | n + 12, h => exact absurd h (by omega)
/-- A number without small factors is above the bases. -/
theorem above_bases {n : Nat} (h2 : 2 ≤ n) (h : ∀ j, j < 12 → n % basesL.getD j 0 ≠ 0) : 38 ≤ n := by
  rcases Nat.lt_or_ge n 38 with hl | hl
  · exfalso
    have : ∀ m, m < 38 → 2 ≤ m → ∃ j, j < 12 ∧ m % basesL.getD j 0 = 0 := by decide
    obtain ⟨j, hj, hz⟩ := this n hl h2
    exact h j hj hz
  · exact hl
theorem r04_IsU (n : Nat) (w : World) (hn : n < 18446744073709551616) :
    Calls Tryz.prog 166 #[.int .u64 n] w fun e w' => e = .returned (.bool (isS n)) ∧ Below w.heap.size w w' := by
  by_cases h2 : n < 2
  · have HR := Lib.hid (isS_small h2)
    go_enter Tryz.func166, Tryz.ntmps166
    go_wp2_with fail
    go_ret
    exact ⟨ret_bool HR.out.symm, Below.refl _ _⟩
  · have HN := Lib.hid hn
    have hce := bases_cells w 49
    unfold basesV at hce
    have hbw := Lib.hid (show Below w.heap.size w (w.alloc (.cells basesV 49)) from (Below.refl _ _).alloc (Nat.le_refl _) _)
    unfold basesV at hbw
    have HC := Lib.hid hce
    clear hn hce
    go_enter Tryz.func166, Tryz.ntmps166
    go_wp2_with fail
    have HH := Lib.hid h2
    obtain ⟨wo, hwo⟩ : ∃ wo, w.alloc (.cells #[.int .u64 2, .int .u64 3, .int .u64 5, .int .u64 7, .int .u64 11, .int .u64 13, .int .u64 17, .int .u64 19, .int .u64 23, .int .u64 29, .int .u64 31, .int .u64 37] 49) = wo := ⟨_, rfl⟩
    rw [hwo] at HC hbw ⊢
    clear hwo h2
    go_loop [4] (fun c => ∃ k : Nat, k ≤ 12 ∧ c = .int .i64 k ∧ (∀ j, j < k → n % basesL.getD j 0 ≠ 0)) (fun c => 12 - (intOf c).toNat)
    case atStart => exact ⟨0, by omega, rfl, fun j h => absurd h (by omega)⟩
    case round =>
      obtain ⟨k, hk, rfl, hall⟩ := hrel
      have HALL := Lib.hid hall
      clear hall
      by_cases hlt : k < 12
      · have hc := HC.out k hlt
        obtain ⟨hb2, hb37⟩ := base_pos k hlt
        obtain ⟨p, hp⟩ : ∃ p, basesL.getD k 0 = p := ⟨_, rfl⟩
        simp only [hp] at hc hb2 hb37
        have HP := Lib.hid hp
        clear hp
        by_cases he : n = p
        · have HR := Lib.hid (show isS n = true by
            rw [isS_hit (k := k) (by have := HH.out; omega) hlt HALL.out (by rw [HP.out, he, Nat.mod_self]), HP.out, he]; simp)
          have B0 : ((n : Int) == (p : Int)) = true := by rw [beq_iff_eq]; omega
          clear he
          go_wp2_with fail
          go_ret
          exact ⟨ret_bool HR.out.symm, hbw.out⟩
        · have B0 : ((n : Int) == (p : Int)) = false := by rw [beq_eq_false_iff_ne]; omega
          by_cases hd : n % p = 0
          · have B1 : ((n : Int) % (p : Int) == 0) = true := by rw [beq_iff_eq]; omega
            have HR := Lib.hid (show isS n = false by
              rw [isS_hit (k := k) (by have := HH.out; omega) hlt HALL.out (by rw [HP.out]; exact hd), HP.out]; simpa using he)
            clear hd he
            go_wp2_with fail
            go_ret
            exact ⟨ret_bool HR.out.symm, hbw.out⟩
          · have B1 : ((n : Int) % (p : Int) == 0) = false := by rw [beq_eq_false_iff_ne]; omega
            have HD := Lib.hid hd
            clear hd he
            go_wp2_with fail
            go_round
            case rel => exact ⟨k + 1, by omega, by go_num, fun j hj => by
              by_cases e : j = k
              · subst e; rw [HP.out]; exact HD.out
              · exact HALL.out j (by omega)⟩
            case measure => simp [intOf]; omega
      · obtain rfl : k = 12 := by omega
        have hn38 := above_bases (by have := HH.out; omega) HALL.out
        have hodd : n % 2 = 1 := by have := HALL.out 0 (by omega); rw [show basesL.getD 0 0 = 2 from rfl] at this; omega
        have HST := Lib.hid (fun p w (h2 : 2 ≤ p) (h37 : p ≤ 37) => r04_StrongU n p w HN.out (by omega) hodd (by omega) (by omega))
        clear hodd
        go_wp2_with fail
        go_loop [5] (fun c => ∃ k : Nat, k ≤ 12 ∧ c = .int .i64 k ∧ (∀ j, j < k → strongB n (basesL.getD j 0) = true)) (fun c => 12 - (intOf c).toNat)
        case atStart => exact ⟨0, by omega, rfl, fun j h => absurd h (by omega)⟩
        case round =>
          obtain ⟨k, hk, rfl, hall⟩ := hrel
          have HAL2 := Lib.hid hall
          clear hall
          by_cases hlt : k < 12
          · have hc := HC.out k hlt
            obtain ⟨hb2, hb37⟩ := base_pos k hlt
            obtain ⟨p, hp⟩ : ∃ p, basesL.getD k 0 = p := ⟨_, rfl⟩
            simp only [hp] at hc hb2 hb37
            have HP := Lib.hid hp
            have hst := fun w => HST.out p w hb2 hb37
            obtain ⟨b, hb⟩ : ∃ b, strongB n p = b := ⟨_, rfl⟩
            rw [hb] at hst
            have HS := Lib.hid hst
            have HB := Lib.hid hb
            clear hp hst hb
            cases b
            · have HR := Lib.hid (isS_no (by have := HH.out; omega) HALL.out hlt (by rw [HP.out]; exact HB.out))
              go_wp2_with (go_at_call 215; refine (HS.out _).mono ?_; rintro e w' ⟨rfl, rfl⟩)
              go_ret
              exact ⟨ret_bool HR.out.symm, hbw.out⟩
            · go_wp2_with (go_at_call 215; refine (HS.out _).mono ?_; rintro e w' ⟨rfl, rfl⟩)
              go_round
              case rel => exact ⟨k + 1, by omega, by go_num, fun j hj => by
                by_cases e : j = k
                · subst e; rw [HP.out]; exact HB.out
                · exact HAL2.out j (by omega)⟩
              case measure => simp [intOf]; omega
          · obtain rfl : k = 12 := by omega
            have HR := Lib.hid (isS_yes (by have := HH.out; omega) HALL.out HAL2.out)
            go_wp2_with fail
            go_ret
            exact ⟨ret_bool HR.out.symm, hbw.out⟩
/-- Whether a number is prime, by the test, and the error. -/
def isPS (s : ByteArray) : Bool × Int := (decide ((smallS s).2 = 0) && isS (smallS s).1, (smallS s).2)
theorem r04_U8 (s : ByteArray) (w : World) (hs : s.size ≤ 8) :
    Calls Tryz.prog 165 #[.string s] w fun e w' => e = .returned (.tuple #[.int .u64 (num s : Nat), .bool true]) ∧ w = w' := by
  have := r04_U s w (by omega)
  rw [Nat.mod_eq_of_lt (natSmall_bound s hs), decide_eq_true hs] at this
  exact this
theorem r04_U9 (s : ByteArray) (w : World) (hv : valid s = true) (hs : ¬ s.size ≤ 8) :
    Calls Tryz.prog 165 #[.string s] w fun e w' => ∃ u : Nat, e = .returned (.tuple #[.int .u64 u, .bool false]) ∧ w = w' := by
  refine (r04_U s w (by have := valid_size hv; omega)).mono ?_
  rintro e w' ⟨rfl, rfl⟩
  rw [decide_eq_false hs]
  exact ⟨_, rfl, rfl⟩
theorem r04_Is (s : ByteArray) (w : World) :
    Calls Tryz.prog 89 #[.string s] w fun e w' => e = .returned (.tuple #[.bool (isPS s).1, .int .i64 (isPS s).2]) ∧ Below w.heap.size w w' := by
  cases hv : valid s
  · have HR := Lib.hid (show isPS s = (false, 3) by unfold isPS smallS; simp [hv])
    go_enter Tryz.func89, Tryz.ntmps89
    go_wp2_with (go_at_call 164; refine (r04_Formed _ _).mono ?_; rintro e w' ⟨rfl, rfl⟩)
    go_ret2
    exact ⟨ret_be (by rw [HR.out]) (by rw [HR.out]), Below.refl _ _⟩
  · by_cases h8 : s.size ≤ 8
    · have HR := Lib.hid (show isPS s = (isS (num s), 0) by unfold isPS smallS; simp [hv, h8])
      have HI := Lib.hid (fun w => r04_IsU (num s) w (natSmall_bound s h8))
      have HU := Lib.hid (fun w => r04_U8 s w h8)
      generalize num s = n at *
      go_enter Tryz.func89, Tryz.ntmps89
      go_wp2_with (first | (go_at_call 164; refine (r04_Formed _ _).mono ?_; rintro e w' ⟨rfl, rfl⟩) | (go_at_call 165; refine (HU.out _).mono ?_; rintro e w' ⟨rfl, rfl⟩) | (go_at_call 166; refine (HI.out _).mono ?_; rintro e w' ⟨rfl, hb1⟩))
      go_ret2
      exact ⟨ret_be (by rw [HR.out]) (by rw [HR.out]), hb1⟩
    · have HR := Lib.hid (show isPS s = (false, 5) by unfold isPS smallS; simp [hv, h8])
      have HU := Lib.hid (fun w => r04_U9 s w hv h8)
      go_enter Tryz.func89, Tryz.ntmps89
      go_wp2_with (first | (go_at_call 164; refine (r04_Formed _ _).mono ?_; rintro e w' ⟨rfl, rfl⟩) | (go_at_call 165; refine (HU.out _).mono ?_; rintro e w' ⟨u, rfl, rfl⟩))
      go_ret2
      exact ⟨ret_be (by rw [HR.out]) (by rw [HR.out]), Below.refl _ _⟩
theorem r04_Safe (s : ByteArray) (w : World) :
    Calls Tryz.prog 212 #[.string s] w fun e w' => e = .returned (.tuple #[.bool (safeS s).1, .int .i64 (safeS s).2]) ∧ Below w.heap.size w w' := by
  have HP := Lib.hid (fun w => r04_Is s w)
  have hr : safeS s = (decide ((smallS s).2 = 0) && (isS (smallS s).1 && isS (((smallS s).1 - 1) / 2)), (smallS s).2) := rfl
  have hp : isPS s = (decide ((smallS s).2 = 0) && isS (smallS s).1, (smallS s).2) := rfl
  by_cases he : (smallS s).2 = 0
  · have hv : valid s = true ∧ s.size ≤ 8 := by
      unfold smallS at he
      by_cases hv : valid s = true
      · rw [if_pos hv] at he
        by_cases h8 : s.size ≤ 8
        · exact ⟨hv, h8⟩
        · rw [if_neg h8] at he; cases he
      · rw [if_neg hv] at he; cases he
    have hs1 : (smallS s).1 = num s := by unfold smallS; rw [if_pos hv.1, if_pos hv.2]
    have HU := Lib.hid (fun w => r04_U8 s w hv.2)
    have hn := natSmall_bound s hv.2
    have HI := Lib.hid (fun w => r04_IsU ((num s - 1) / 2) w (by omega))
    rw [he, hs1] at hr hp
    rw [hp] at HP
    have hbig : isS (num s) = true → 2 ≤ num s := fun h => by
      rcases Nat.lt_or_ge (num s) 2 with h2 | h2
      · rw [isS_small h2] at h; cases h
      · exact h2
    have HR := Lib.hid hr
    have HN := Lib.hid hn
    generalize num s = n at *
    cases hi : isS n
    · rw [hi] at HR HP
      clear hr hp hn hbig he hv hs1 hi
      go_enter Tryz.func212, Tryz.ntmps212
      go_wp2_with (first | (go_at_call 89; refine (HP.out _).mono ?_; rintro e w' ⟨rfl, hb1⟩) | (go_at_call 165; refine (HU.out _).mono ?_; rintro e w' ⟨rfl, rfl⟩))
      go_ret2
      exact ⟨ret_be (by rw [HR.out]; rfl) (by rw [HR.out]), hb1⟩
    · have h2 := hbig hi
      rw [hi] at HR HP
      obtain ⟨N, hN⟩ : ∃ N, n - 1 = N := ⟨_, rfl⟩
      have eN : ((n : Int) - 1) = (N : Int) := by omega
      have wN : IntKind.u64.wrap (N : Int) = (N : Int) := by rw [IntKind.wrap_u64]; omega
      have hq := u64_quo N 2 (by omega)
      have hq2 : ((N : Int) / 2) = ((N / 2 : Nat) : Int) := by simp
      have wq : IntKind.u64.wrap ((N / 2 : Nat) : Int) = ((N / 2 : Nat) : Int) := by rw [← hq2]; exact hq
      rw [hN] at HI HR
      generalize N / 2 = M at *
      clear hr hp hn hbig he hv hs1 hi hq h2 hN
      go_enter Tryz.func212, Tryz.ntmps212
      go_wp2_with (first | (go_at_call 89; refine (HP.out _).mono ?_; rintro e w' ⟨rfl, hb1⟩) | (go_at_call 165; refine (HU.out _).mono ?_; rintro e w' ⟨rfl, rfl⟩) | (go_at_call 166; refine (HI.out _).mono ?_; rintro e w' ⟨rfl, hb2⟩))
      go_ret2
      exact ⟨ret_be (by rw [HR.out]; rfl) (by rw [HR.out]), below2 hb1 hb2⟩
  · rw [decide_eq_false he] at hr hp
    rw [hp] at HP
    have HR := Lib.hid hr
    generalize (smallS s).2 = er at *
    have B1 : (er != 0) = true := by rw [bne_iff_ne]; exact he
    clear hr hp he
    go_enter Tryz.func212, Tryz.ntmps212
    go_wp2_with (first | (go_at_call 89; refine (HP.out _).mono ?_; rintro e w' ⟨rfl, hb1⟩))
    go_ret2
    exact ⟨ret_be (by rw [HR.out]; rfl) (by rw [HR.out]), hb1⟩
end Go.Proofs.YtdajbcohmnmbpaaGreatDoor
