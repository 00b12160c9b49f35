/- The walks of package prime, and of the library's division. -/
import Derived.Test.YtfggpgiinihflaaDoorG2
import Derived.Test.YtfggpgiinihflaaDoorDiv
import Derived.Deep.DeepCutAuto
import Derived.Deep.CutBlock
namespace Go.Proofs.YtfggpgiinihflaaDoor
open Go.RowKit
set_option maxRecDepth 100000
set_option linter.unusedVariables false
set_option maxHeartbeats 400000

theorem bitLen64 {y : Nat} (h0 : 0 < y) (h : y < 18446744073709551616) : ∃ k, Lib.bitLen y = k + 1 ∧ 2 ^ k ≤ y ∧ y < 2 ^ (k + 1) ∧ k ≤ 63 := by
  obtain ⟨a, b, c⟩ := Lib.bitLenAux_bounds 64 y h (by omega)
  refine ⟨Lib.bitLenAux 64 y - 1, ?_, b, ?_, ?_⟩
  · unfold Lib.bitLen; omega
  · rw [show Lib.bitLenAux 64 y - 1 + 1 = Lib.bitLenAux 64 y by omega]; exact c
  · rcases Nat.lt_or_ge (Lib.bitLenAux 64 y - 1) 64 with h1 | h1
    · omega
    · exfalso
      have := Nat.pow_le_pow_right (show 0 < 2 by omega) h1
      have h2 : (2 : Nat) ^ 64 = 18446744073709551616 := by decide
      omega
theorem u64_quo (x y : Nat) (hx : x < 18446744073709551616) : IntKind.u64.wrap ((x : Int) / (y : Int)) = ((x / y : Nat) : Int) := by
  have h1 : x / y < 18446744073709551616 := Nat.lt_of_le_of_lt (Nat.div_le_self x y) hx
  have h2 : ((x : Int) / (y : Int)) = ((x / y : Nat) : Int) := by simp
  rw [h2, IntKind.wrap_u64]
  generalize x / y = q at *
  omega
theorem wrap_rem (u d q Y : Nat) (hY : Y < 18446744073709551616) (h0 : 0 < Y) (hq : (u * 4294967296 + d) / Y = q) :
    IntKind.u64.wrap (IntKind.u64.wrap (IntKind.u64.wrap ((u : Int) * 4294967296) + (d : Int)) - IntKind.u64.wrap ((q : Int) * (Y : Int))) = (((u * 4294967296 + d) % Y : Nat) : Int) := by
  have h1 := Nat.div_add_mod (u * 4294967296 + d) Y
  have h2 := Nat.mod_lt (u * 4294967296 + d) h0
  rw [hq] at h1
  have h3 : ((q : Int) * (Y : Int)) = ((Y * q : Nat) : Int) := by rw [Nat.mul_comm]; simp
  rw [h3]
  generalize (u * 4294967296 + d) % Y = m at *
  generalize Y * q = p at *
  simp only [IntKind.wrap_u64]
  omega
set_option maxRecDepth 1000000 in
set_option maxHeartbeats 8000000 in
theorem bits_Div64 (hi lo y : Nat) (w : World) (hlo : lo < 18446744073709551616) (hhi : hi < y) (hy : y < 18446744073709551616) :
    Calls Tryd.prog 76 #[.int .u64 hi, .int .u64 lo, .int .u64 y] w fun e w' => e = .returned (.tuple #[.int .u64 ((hi * 18446744073709551616 + lo) / y : Nat), .int .u64 ((hi * 18446744073709551616 + lo) % y : Nat)]) ∧ ∃ n, w' = w.drewN n := by
  have h0 : 0 < y := by omega
  by_cases hz : hi = 0
  · subst hz
    have e : 0 * 18446744073709551616 + lo = lo := by omega
    rw [e]
    clear e
    go_enter Tryd.func76, Tryd.ntmps76
    go_wp2_with fail
    go_quiet (fail)
    go_wp2_with fail
    go_ret2
    exact ⟨ret_ie (by first | exact u64_quo _ _ hlo | simp) (by simp), _, rfl⟩
  · obtain ⟨k, hk, hk1, hk2, hk3⟩ := bitLen64 h0 hy
    obtain ⟨s, hs⟩ : ∃ s, 63 - k = s := ⟨_, rfl⟩
    have hs63 : s ≤ 63 := by omega
    have hlz : (64 - (Lib.bitLen ((y : Int).toNat) : Int)) = (s : Int) := by rw [Int.toNat_natCast, hk]; omega
    have HLZ := Lib.hid hlz
    have hzb : ((hi : Int) == 0) = false := by rw [beq_eq_false_iff_ne]; omega
    have hyb : ((y : Int) == 0) = false := by rw [beq_eq_false_iff_ne]; omega
    have hY1 : 9223372036854775808 ≤ y * 2 ^ s := by
      have h := Nat.mul_le_mul_right (2 ^ s) hk1
      rw [← Nat.pow_add, show k + s = 63 by omega] at h
      exact h
    have hY2 : y * 2 ^ s < 18446744073709551616 := by
      have h := Nat.mul_lt_mul_of_pos_right hk2 (show 0 < 2 ^ s from Nat.pow_pos (by omega))
      rw [← Nat.pow_add, show k + 1 + s = 64 by omega] at h
      exact h
    have hW := scaled_words hi lo s y hs63 hlo hhi
    have hS := scaled (hi * 18446744073709551616 + lo) y (2 ^ s) (Nat.pow_pos (by omega))
    obtain ⟨Y, hY⟩ : ∃ Y, y * 2 ^ s = Y := ⟨_, rfl⟩
    rw [hY] at hY1 hY2 hW hS
    have e1 : IntKind.u64.wrap ((y : Int) * 2 ^ s) = (Y : Int) := by
      rw [show ((y : Int) * 2 ^ s) = ((y * 2 ^ s : Nat) : Int) by simp, hY, IntKind.wrap_u64]; omega
    obtain ⟨a, ha⟩ : ∃ a, Y / 4294967296 = a := ⟨_, rfl⟩
    obtain ⟨b, hb⟩ : ∃ b, Y % 4294967296 = b := ⟨_, rfl⟩
    have e2 : ((Y : Int) / 4294967296) = (a : Int) := by omega
    have e3 : bits .and .u64 (Y : Int) 4294967295 = (b : Int) := by
      rw [show (4294967295 : Int) = ((4294967295 : Nat) : Int) from rfl, u64_and_nat _ _ hY2 (by decide), show (4294967295 : Nat) = 2 ^ 32 - 1 from rfl, Nat.and_two_pow_sub_one_eq_mod]
      exact congrArg _ hb
    have hp : 0 < 2 ^ s := Nat.pow_pos (by omega)
    obtain ⟨H, hH⟩ : ∃ H, hi * 2 ^ s = H := ⟨_, rfl⟩
    obtain ⟨L, hL⟩ : ∃ L, lo / 2 ^ (64 - s) = L := ⟨_, rfl⟩
    obtain ⟨v, hv⟩ : ∃ v, lo * 2 ^ s % 18446744073709551616 = v := ⟨_, rfl⟩
    obtain ⟨u, hu⟩ : ∃ u, H + L = u := ⟨_, rfl⟩
    obtain ⟨d, hd⟩ : ∃ d, v / 4294967296 = d := ⟨_, rfl⟩
    obtain ⟨f, hf⟩ : ∃ f, v % 4294967296 = f := ⟨_, rfl⟩
    rw [hH, hL, hv, hu] at hW
    obtain ⟨hW1, huY, hLs⟩ := hW
    have hHm : H % 2 ^ s = 0 := by rw [← hH]; exact Nat.mul_mod_left hi (2 ^ s)
    have hor := nat_join s H L hHm hLs
    have e4 : IntKind.u64.wrap ((hi : Int) * 2 ^ s) = (H : Int) := by
      rw [show ((hi : Int) * 2 ^ s) = ((hi * 2 ^ s : Nat) : Int) by simp, hH, IntKind.wrap_u64]; omega
    have e5 : ((lo : Int) / 2 ^ (64 - s)) = (L : Int) := by
      rw [show ((lo : Int) / 2 ^ (64 - s)) = ((lo / 2 ^ (64 - s) : Nat) : Int) by simp, hL]
    have e6 : bits .or .u64 (H : Int) (L : Int) = (u : Int) := by
      rw [u64_or_nat _ _ (by omega) (by omega), hor, hu]
    have e7 : IntKind.u64.wrap ((lo : Int) * 2 ^ s) = (v : Int) := by
      rw [show ((lo : Int) * 2 ^ s) = ((lo * 2 ^ s : Nat) : Int) by simp, IntKind.wrap_u64, ← hv]; simp
    have e8 : ((v : Int) / 4294967296) = (d : Int) := by omega
    have hvl : v < 18446744073709551616 := by rw [← hv]; exact Nat.mod_lt _ (by decide)
    have e9 : bits .and .u64 (v : Int) 4294967295 = (f : Int) := by
      rw [show (4294967295 : Int) = ((4294967295 : Nat) : Int) from rfl, u64_and_nat _ _ hvl (by decide), show (4294967295 : Nat) = 2 ^ 32 - 1 from rfl, Nat.and_two_pow_sub_one_eq_mod]
      exact congrArg _ hf
    have est := Est.start (u := u) (d := d) (y := Y) (a := a) (b := b) (by omega) (by omega) (by omega) (by omega) (by omega) huY
    obtain ⟨q, hq⟩ : ∃ q, u / a = q := ⟨_, rfl⟩
    obtain ⟨r, hr⟩ : ∃ r, u % a = r := ⟨_, rfl⟩
    rw [hq, hr] at est
    have hsum := est.sum
    obtain ⟨qa, hqa⟩ : ∃ qa, q * a = qa := ⟨_, rfl⟩
    rw [hqa] at hsum
    have e10 : IntKind.u64.wrap ((u : Int) / (a : Int)) = (q : Int) := by rw [u64_quo _ _ (by omega), hq]
    have e11 : IntKind.u64.wrap ((q : Int) * (a : Int)) = (qa : Int) := by
      rw [show ((q : Int) * (a : Int)) = ((q * a : Nat) : Int) by simp, hqa, IntKind.wrap_u64]; omega
    have e12 : IntKind.u64.wrap ((u : Int) - (qa : Int)) = (r : Int) := by rw [IntKind.wrap_u64]; omega
    have a1 : 2147483648 ≤ a := est.ha
    have a2 : a < 4294967296 := est.ha2
    have b2 : b < 4294967296 := est.hb
    have d2 : d < 4294967296 := est.hd
    have f2 : f < 4294967296 := by omega
    have r2 : r < a := by rw [← hr]; exact Nat.mod_lt _ (by omega)
    have HEST := Lib.hid est
    have HY := Lib.hid hY
    have HS := Lib.hid hS
    have HW1 := Lib.hid hW1
    have HV := Lib.hid (show v = d * 4294967296 + f by omega)
    have HH := Lib.hid hH
    clear hlz hk hz hs hk1 hk2 hk3 hY ha hb hS hH hL hv hu hd hf hW1 hHm hor hq hr hsum hqa est hLs hp
    go_enter Tryd.func76, Tryd.ntmps76
    go_upto_block 0 with (first | (go_at_call 82; (refine (Tryd.bits_LeadingZeros64 _ _ (by omega) (by omega)).mono ?_); rintro e w' ⟨rfl, rfl⟩; rw [HLZ.out]))
    clear e1 e2 e3 e4 e5 e6 e7 e8 e9 e10 e11 e12
    obtain ⟨Q1, hQ1⟩ : ∃ Q1, (u * 4294967296 + d) / Y = Q1 := ⟨_, rfl⟩
    have HQ1 := Lib.hid hQ1
    have hQ1l : Q1 < 4294967296 := by rw [← hQ1]; exact HEST.out.top
    clear hQ1
    go_cut [15] (fun x wx => x = .int .u64 (Q1 : Int) ∧ w' = wx)
    case first =>
      go_wp2_with fail
      go_loop [15, 16] (fun vq vr => ∃ q r : Nat, Est u d Y a b q r ∧ r < 4294967296 ∧ vq = .int .u64 q ∧ vr = .int .u64 r) (fun vq _ => (intOf vq).toNat)
      case atStart => exact ⟨q, r, HEST.out, by omega, rfl, rfl⟩
      case round =>
        obtain ⟨q, r, est, hr1, rfl, rfl⟩ := hrel
        have hqm : q ≤ 5000000000 := by have := est.high; omega
        have HQ5 := Lib.hid est.high
        by_cases hbig : 4294967296 ≤ q
        · obtain ⟨h1q, est2⟩ := est.down (.inl hbig)
          have HE2 := Lib.hid est2
          have B1 : decide ((4294967296 : Int) ≤ (q : Int)) = true := by rw [decide_eq_true_eq]; omega
          clear est est2
          by_cases hbr : 4294967296 ≤ r + a
          · have B2 : decide ((4294967296 : Int) ≤ (r : Int) + (a : Int)) = true := by rw [decide_eq_true_eq]; omega
            have HX := Lib.hid (HE2.out.exact_break (by have := HQ5.out; omega) hbr)
            go_wp2_with fail
            go_meet
            exact ⟨by rw [← HQ1.out, ← HX.out]; congr 1; omega, rfl⟩
          · have B2 : decide ((4294967296 : Int) ≤ (r : Int) + (a : Int)) = false := by rw [decide_eq_false_iff_not]; omega
            go_wp2_with fail
            go_round
            case rel => exact ⟨q - 1, r + a, HE2.out, by omega, by congr 1; omega, by congr 1⟩
            case measure => simp [intOf]; omega
        · have B1 : decide ((4294967296 : Int) ≤ (q : Int)) = false := by rw [decide_eq_false_iff_not]; omega
          obtain ⟨p, hp⟩ : ∃ p, q * b = p := ⟨_, rfl⟩
          have hpl := est.prod_lt (by omega)
          rw [hp] at hpl
          have ep : IntKind.u64.wrap ((q : Int) * (b : Int)) = (p : Int) := by
            rw [show ((q : Int) * (b : Int)) = ((q * b : Nat) : Int) by simp, hp, IntKind.wrap_u64]; omega
          have HP := Lib.hid hp
          clear hp
          by_cases ht : r * 4294967296 + d < p
          · have B3 : decide (4294967296 * (r : Int) + (d : Int) < (p : Int)) = true := by rw [decide_eq_true_eq]; omega
            obtain ⟨h1q, est2⟩ := est.down (.inr (by rw [HP.out]; exact ht))
            have HE2 := Lib.hid est2
            clear est est2
            by_cases hbr : 4294967296 ≤ r + a
            · have B2 : decide ((4294967296 : Int) ≤ (r : Int) + (a : Int)) = true := by rw [decide_eq_true_eq]; omega
              have HX := Lib.hid (HE2.out.exact_break (by have := HQ5.out; omega) hbr)
              go_wp2_with fail
              go_meet
              exact ⟨by rw [← HQ1.out, ← HX.out]; congr 1; omega, rfl⟩
            · have B2 : decide ((4294967296 : Int) ≤ (r : Int) + (a : Int)) = false := by rw [decide_eq_false_iff_not]; omega
              go_wp2_with fail
              go_round
              case rel => exact ⟨q - 1, r + a, HE2.out, by omega, by congr 1; omega, by congr 1⟩
              case measure => simp [intOf]; omega
          · have B3 : decide (4294967296 * (r : Int) + (d : Int) < (p : Int)) = false := by rw [decide_eq_false_iff_not]; omega
            have HX := Lib.hid (est.exact (by rw [HP.out]; omega))
            clear est
            go_wp2_with fail
            go_meet
            exact ⟨by rw [← HQ1.out, ← HX.out], rfl⟩
    case rest =>
      obtain ⟨rfl, rfl⟩ := hcut
      have e13 := wrap_rem u d Q1 Y hY2 (by omega) HQ1.out
      obtain ⟨u2, hu2⟩ : ∃ u2, (u * 4294967296 + d) % Y = u2 := ⟨_, rfl⟩
      have hu2l : u2 < Y := by rw [← hu2]; exact Nat.mod_lt _ (by omega)
      rw [hu2] at e13
      have est := Est.start (u := u2) (d := f) (y := Y) (a := a) (b := b) HEST.out.hy b2 a1 a2 f2 hu2l
      obtain ⟨q2, hq2⟩ : ∃ q2, u2 / a = q2 := ⟨_, rfl⟩
      obtain ⟨r2, hr2⟩ : ∃ r2, u2 % a = r2 := ⟨_, rfl⟩
      rw [hq2, hr2] at est
      have hsum := est.sum
      obtain ⟨qa2, hqa2⟩ : ∃ qa, q2 * a = qa := ⟨_, rfl⟩
      rw [hqa2] at hsum
      have e14 : IntKind.u64.wrap ((u2 : Int) / (a : Int)) = (q2 : Int) := by rw [u64_quo _ _ (by omega), hq2]
      have e15 : IntKind.u64.wrap ((q2 : Int) * (a : Int)) = (qa2 : Int) := by
        rw [show ((q2 : Int) * (a : Int)) = ((q2 * a : Nat) : Int) by simp, hqa2, IntKind.wrap_u64]; omega
      have e16 : IntKind.u64.wrap ((u2 : Int) - (qa2 : Int)) = (r2 : Int) := by rw [IntKind.wrap_u64]; omega
      have r2l : r2 < a := by rw [← hr2]; exact Nat.mod_lt _ (by omega)
      have HEST2 := Lib.hid est
      have HU2 := Lib.hid hu2
      clear est hu2 hq2 hr2 hsum hqa2
      obtain ⟨Q2, hQ2⟩ : ∃ Q2, (u2 * 4294967296 + f) / Y = Q2 := ⟨_, rfl⟩
      have HQ2 := Lib.hid hQ2
      have hQ2l : Q2 < 4294967296 := by rw [← hQ2]; exact HEST2.out.top
      clear hQ2
      go_upto_block 2 with fail
      clear e13 e14 e15 e16
      go_cut [18] (fun x wx => x = .int .u64 (Q2 : Int) ∧ w' = wx)
      case first =>
        go_wp2_with fail
        go_loop [18, 16] (fun vq vr => ∃ q r : Nat, Est u2 f Y a b q r ∧ r < 4294967296 ∧ vq = .int .u64 q ∧ vr = .int .u64 r) (fun vq _ => (intOf vq).toNat)
        case atStart => exact ⟨q2, r2, HEST2.out, by omega, rfl, rfl⟩
        case round =>
          obtain ⟨q, r, est, hr1, rfl, rfl⟩ := hrel
          have hqm : q ≤ 5000000000 := by have := est.high; omega
          have HQ5 := Lib.hid est.high
          by_cases hbig : 4294967296 ≤ q
          · obtain ⟨h1q, est2⟩ := est.down (.inl hbig)
            have HE2 := Lib.hid est2
            have B1 : decide ((4294967296 : Int) ≤ (q : Int)) = true := by rw [decide_eq_true_eq]; omega
            clear est est2
            by_cases hbr : 4294967296 ≤ r + a
            · have B2 : decide ((4294967296 : Int) ≤ (r : Int) + (a : Int)) = true := by rw [decide_eq_true_eq]; omega
              have HX := Lib.hid (HE2.out.exact_break (by have := HQ5.out; omega) hbr)
              go_wp2_with fail
              go_meet
              exact ⟨by rw [← HQ2.out, ← HX.out]; congr 1; omega, rfl⟩
            · have B2 : decide ((4294967296 : Int) ≤ (r : Int) + (a : Int)) = false := by rw [decide_eq_false_iff_not]; omega
              go_wp2_with fail
              go_round
              case rel => exact ⟨q - 1, r + a, HE2.out, by omega, by congr 1; omega, by congr 1⟩
              case measure => simp [intOf]; omega
          · have B1 : decide ((4294967296 : Int) ≤ (q : Int)) = false := by rw [decide_eq_false_iff_not]; omega
            obtain ⟨p, hp⟩ : ∃ p, q * b = p := ⟨_, rfl⟩
            have hpl := est.prod_lt (by omega)
            rw [hp] at hpl
            have ep : IntKind.u64.wrap ((q : Int) * (b : Int)) = (p : Int) := by
              rw [show ((q : Int) * (b : Int)) = ((q * b : Nat) : Int) by simp, hp, IntKind.wrap_u64]; omega
            have HP := Lib.hid hp
            clear hp
            by_cases ht : r * 4294967296 + f < p
            · have B3 : decide (4294967296 * (r : Int) + (f : Int) < (p : Int)) = true := by rw [decide_eq_true_eq]; omega
              obtain ⟨h1q, est2⟩ := est.down (.inr (by rw [HP.out]; exact ht))
              have HE2 := Lib.hid est2
              clear est est2
              by_cases hbr : 4294967296 ≤ r + a
              · have B2 : decide ((4294967296 : Int) ≤ (r : Int) + (a : Int)) = true := by rw [decide_eq_true_eq]; omega
                have HX := Lib.hid (HE2.out.exact_break (by have := HQ5.out; omega) hbr)
                go_wp2_with fail
                go_meet
                exact ⟨by rw [← HQ2.out, ← HX.out]; congr 1; omega, rfl⟩
              · have B2 : decide ((4294967296 : Int) ≤ (r : Int) + (a : Int)) = false := by rw [decide_eq_false_iff_not]; omega
                go_wp2_with fail
                go_round
                case rel => exact ⟨q - 1, r + a, HE2.out, by omega, by congr 1; omega, by congr 1⟩
                case measure => simp [intOf]; omega
            · have B3 : decide (4294967296 * (r : Int) + (f : Int) < (p : Int)) = false := by rw [decide_eq_false_iff_not]; omega
              have HX := Lib.hid (est.exact (by rw [HP.out]; omega))
              clear est
              go_wp2_with fail
              go_meet
              exact ⟨by rw [← HQ2.out, ← HX.out], rfl⟩
      case rest =>
        obtain ⟨rfl, rfl⟩ := hcut
        have e17 := wrap_rem u2 f Q2 Y hY2 (by omega) HQ2.out
        obtain ⟨R, hR⟩ : ∃ R, (u2 * 4294967296 + f) % Y = R := ⟨_, rfl⟩
        rw [hR] at e17
        have HR := Lib.hid hR
        clear hR
        have hw := two_words u d f Y (by omega)
        rw [← HV.out, HU2.out, HQ1.out, HQ2.out, HR.out, ← HW1.out] at hw
        rw [HS.out.1] at hw
        have h2 := HS.out.2
        rw [hw.2] at h2
        have H1 := Lib.hid hw.1
        have H2 := Lib.hid h2
        clear hw h2
        go_wp2_with fail
        go_ret2
        refine ⟨ret_ie ?_ ?_, 0, rfl⟩
        · rw [H1.out]
          omega
        · rw [← H2.out]
          simp

end Go.Proofs.YtfggpgiinihflaaDoor
