/- The walks of package prime, and of the library's division. The walks of package prime: products and powers. The walks of package prime: the test. The walks of package rsagroup: groups with their trapdoors. The walks of package rsagroup: order, squares. -/
import Derived.Test.YtcpglhjmhegfmaaGreatDoorTvBW
import Derived.Test.YtcpglhjmhegfmaaGreatDoorTvBA
import Derived.Deep.DeepCutAuto
import Derived.Deep.CutBlock
import Derived.Shelf.Spec.TrailingZeros
import Derived.WalkMore
namespace Go.Proofs.YtcpglhjmhegfmaaGreatDoor
open Go.RowKit
set_option maxRecDepth 100000
set_option linter.unusedVariables false
set_option maxHeartbeats 400000
theorem bitLen64 {y : Nat} (h0 : 0 < y) (h : y < 18446744073709551616) : ∃ k, Lib.bitLen y = k + 1 ∧ 2 ^ k ≤ y ∧ y < 2 ^ (k + 1) ∧ k ≤ 63 := by
  obtain ⟨a, b, c⟩ := Lib.bitLenAux_bounds 64 y h (by omega)
  refine ⟨Lib.bitLenAux 64 y - 1, ?_, b, ?_, ?_⟩
  · unfold Lib.bitLen; omega
  · rw [show Lib.bitLenAux 64 y - 1 + 1 = Lib.bitLenAux 64 y by omega]; exact c
  · rcases Nat.lt_or_ge (Lib.bitLenAux 64 y - 1) 64 with h1 | h1
    · omega
    · exfalso
      have := Nat.pow_le_pow_right (show 0 < 2 by omega) h1
      have h2 : (2 : Nat) ^ 64 = 18446744073709551616 := by decide
      omega
theorem u64_quo (x y : Nat) (hx : x < 18446744073709551616) : IntKind.u64.wrap ((x : Int) / (y : Int)) = ((x / y : Nat) : Int) := by
  have h1 : x / y < 18446744073709551616 := Nat.lt_of_le_of_lt (Nat.div_le_self x y) hx
  have h2 : ((x : Int) / (y : Int)) = ((x / y : Nat) : Int) := by simp
  rw [h2, IntKind.wrap_u64]
  generalize x / y = q at *
  omega
theorem wrap_rem (u d q Y : Nat) (hY : Y < 18446744073709551616) (h0 : 0 < Y) (hq : (u * 4294967296 + d) / Y = q) :
    IntKind.u64.wrap (IntKind.u64.wrap (IntKind.u64.wrap ((u : Int) * 4294967296) + (d : Int)) - IntKind.u64.wrap ((q : Int) * (Y : Int))) = (((u * 4294967296 + d) % Y : Nat) : Int) := by
  have h1 := Nat.div_add_mod (u * 4294967296 + d) Y
  have h2 := Nat.mod_lt (u * 4294967296 + d) h0
  rw [hq] at h1
  have h3 : ((q : Int) * (Y : Int)) = ((Y * q : Nat) : Int) := by rw [Nat.mul_comm]; simp
  rw [h3]
  generalize (u * 4294967296 + d) % Y = m at *
  generalize Y * q = p at *
  simp only [IntKind.wrap_u64]
  omega
set_option maxRecDepth 1000000 in
set_option maxHeartbeats 8000000 in
theorem bits_Div64 (hi lo y : Nat) (w : World) (hlo : lo < 18446744073709551616) (hhi : hi < y) (hy : y < 18446744073709551616) :
    Calls Tryz.prog 75 #[.int .u64 hi, .int .u64 lo, .int .u64 y] w fun e w' => e = .returned (.tuple #[.int .u64 ((hi * 18446744073709551616 + lo) / y : Nat), .int .u64 ((hi * 18446744073709551616 + lo) % y : Nat)]) ∧ ∃ n, w' = w.drewN n := by
  have h0 : 0 < y := by omega
  by_cases hz : hi = 0
  · subst hz
    have e : 0 * 18446744073709551616 + lo = lo := by omega
    rw [e]
    clear e
    go_enter Tryz.func75, Tryz.ntmps75
    go_wp2_with fail
    go_quiet (fail)
    go_wp2_with fail
    go_ret2
    exact ⟨ret_ie (by first | exact u64_quo _ _ hlo | simp) (by simp), _, rfl⟩
  · obtain ⟨k, hk, hk1, hk2, hk3⟩ := bitLen64 h0 hy
    obtain ⟨s, hs⟩ : ∃ s, 63 - k = s := ⟨_, rfl⟩
    have hs63 : s ≤ 63 := by omega
    have hlz : (64 - (Lib.bitLen ((y : Int).toNat) : Int)) = (s : Int) := by rw [Int.toNat_natCast, hk]; omega
    have HLZ := Lib.hid hlz
    have hzb : ((hi : Int) == 0) = false := by rw [beq_eq_false_iff_ne]; omega
    have hyb : ((y : Int) == 0) = false := by rw [beq_eq_false_iff_ne]; omega
    have hY1 : 9223372036854775808 ≤ y * 2 ^ s := by
      have h := Nat.mul_le_mul_right (2 ^ s) hk1
      rw [← Nat.pow_add, show k + s = 63 by omega] at h
      exact h
    have hY2 : y * 2 ^ s < 18446744073709551616 := by
      have h := Nat.mul_lt_mul_of_pos_right hk2 (show 0 < 2 ^ s from Nat.pow_pos (by omega))
      rw [← Nat.pow_add, show k + 1 + s = 64 by omega] at h
      exact h
    have hW := scaled_words hi lo s y hs63 hlo hhi
    have hS := scaled (hi * 18446744073709551616 + lo) y (2 ^ s) (Nat.pow_pos (by omega))
    obtain ⟨Y, hY⟩ : ∃ Y, y * 2 ^ s = Y := ⟨_, rfl⟩
    rw [hY] at hY1 hY2 hW hS
    have e1 : IntKind.u64.wrap ((y : Int) * 2 ^ s) = (Y : Int) := by
      rw [show ((y : Int) * 2 ^ s) = ((y * 2 ^ s : Nat) : Int) by simp, hY, IntKind.wrap_u64]; omega
    obtain ⟨a, ha⟩ : ∃ a, Y / 4294967296 = a := ⟨_, rfl⟩
    obtain ⟨b, hb⟩ : ∃ b, Y % 4294967296 = b := ⟨_, rfl⟩
    have e2 : ((Y : Int) / 4294967296) = (a : Int) := by omega
    have e3 : bits .and .u64 (Y : Int) 4294967295 = (b : Int) := by
      rw [show (4294967295 : Int) = ((4294967295 : Nat) : Int) from rfl, u64_and_nat _ _ hY2 (by decide), show (4294967295 : Nat) = 2 ^ 32 - 1 from rfl, Nat.and_two_pow_sub_one_eq_mod]
      exact congrArg _ hb
    have hp : 0 < 2 ^ s := Nat.pow_pos (by omega)
    obtain ⟨H, hH⟩ : ∃ H, hi * 2 ^ s = H := ⟨_, rfl⟩
    obtain ⟨L, hL⟩ : ∃ L, lo / 2 ^ (64 - s) = L := ⟨_, rfl⟩
    obtain ⟨v, hv⟩ : ∃ v, lo * 2 ^ s % 18446744073709551616 = v := ⟨_, rfl⟩
    obtain ⟨u, hu⟩ : ∃ u, H + L = u := ⟨_, rfl⟩
    obtain ⟨d, hd⟩ : ∃ d, v / 4294967296 = d := ⟨_, rfl⟩
    obtain ⟨f, hf⟩ : ∃ f, v % 4294967296 = f := ⟨_, rfl⟩
    rw [hH, hL, hv, hu] at hW
    obtain ⟨hW1, huY, hLs⟩ := hW
    have hHm : H % 2 ^ s = 0 := by rw [← hH]; exact Nat.mul_mod_left hi (2 ^ s)
    have hor := nat_join s H L hHm hLs
    have e4 : IntKind.u64.wrap ((hi : Int) * 2 ^ s) = (H : Int) := by
      rw [show ((hi : Int) * 2 ^ s) = ((hi * 2 ^ s : Nat) : Int) by simp, hH, IntKind.wrap_u64]; omega
    have e5 : ((lo : Int) / 2 ^ (64 - s)) = (L : Int) := by
      rw [show ((lo : Int) / 2 ^ (64 - s)) = ((lo / 2 ^ (64 - s) : Nat) : Int) by simp, hL]
    have e6 : bits .or .u64 (H : Int) (L : Int) = (u : Int) := by
      rw [u64_or_nat _ _ (by omega) (by omega), hor, hu]
    have e7 : IntKind.u64.wrap ((lo : Int) * 2 ^ s) = (v : Int) := by
      rw [show ((lo : Int) * 2 ^ s) = ((lo * 2 ^ s : Nat) : Int) by simp, IntKind.wrap_u64, ← hv]; simp
    have e8 : ((v : Int) / 4294967296) = (d : Int) := by omega
    have hvl : v < 18446744073709551616 := by rw [← hv]; exact Nat.mod_lt _ (by decide)
    have e9 : bits .and .u64 (v : Int) 4294967295 = (f : Int) := by
      rw [show (4294967295 : Int) = ((4294967295 : Nat) : Int) from rfl, u64_and_nat _ _ hvl (by decide), show (4294967295 : Nat) = 2 ^ 32 - 1 from rfl, Nat.and_two_pow_sub_one_eq_mod]
      exact congrArg _ hf
    have est := Est.start (u := u) (d := d) (y := Y) (a := a) (b := b) (by omega) (by omega) (by omega) (by omega) (by omega) huY
    obtain ⟨q, hq⟩ : ∃ q, u / a = q := ⟨_, rfl⟩
    obtain ⟨r, hr⟩ : ∃ r, u % a = r := ⟨_, rfl⟩
    rw [hq, hr] at est
    have hsum := est.sum
    obtain ⟨qa, hqa⟩ : ∃ qa, q * a = qa := ⟨_, rfl⟩
    rw [hqa] at hsum
    have e10 : IntKind.u64.wrap ((u : Int) / (a : Int)) = (q : Int) := by rw [u64_quo _ _ (by omega), hq]
    have e11 : IntKind.u64.wrap ((q : Int) * (a : Int)) = (qa : Int) := by
      rw [show ((q : Int) * (a : Int)) = ((q * a : Nat) : Int) by simp, hqa, IntKind.wrap_u64]; omega
    have e12 : IntKind.u64.wrap ((u : Int) - (qa : Int)) = (r : Int) := by rw [IntKind.wrap_u64]; omega
    have a1 : 2147483648 ≤ a := est.ha
    have a2 : a < 4294967296 := est.ha2
    have b2 : b < 4294967296 := est.hb
    have d2 : d < 4294967296 := est.hd
    have f2 : f < 4294967296 := by omega
    have r2 : r < a := by rw [← hr]; exact Nat.mod_lt _ (by omega)
    have HEST := Lib.hid est
    have HY := Lib.hid hY
    have HS := Lib.hid hS
    have HW1 := Lib.hid hW1
    have HV := Lib.hid (show v = d * 4294967296 + f by omega)
    have HH := Lib.hid hH
    clear hlz hk hz hs hk1 hk2 hk3 hY ha hb hS hH hL hv hu hd hf hW1 hHm hor hq hr hsum hqa est hLs hp
    go_enter Tryz.func75, Tryz.ntmps75
    go_upto_block 0 with (first | (go_at_call 84; (refine (Tryz.bits_LeadingZeros64 _ _ (by omega) (by omega)).mono ?_); rintro e w' ⟨rfl, rfl⟩; rw [HLZ.out]))
    clear e1 e2 e3 e4 e5 e6 e7 e8 e9 e10 e11 e12
    obtain ⟨Q1, hQ1⟩ : ∃ Q1, (u * 4294967296 + d) / Y = Q1 := ⟨_, rfl⟩
    have HQ1 := Lib.hid hQ1
    have hQ1l : Q1 < 4294967296 := by rw [← hQ1]; exact HEST.out.top
    clear hQ1
    go_cut [15] (fun x wx => x = .int .u64 (Q1 : Int) ∧ w' = wx)
    case first =>
      go_wp2_with fail
      go_loop [15, 16] (fun vq vr => ∃ q r : Nat, Est u d Y a b q r ∧ r < 4294967296 ∧ vq = .int .u64 q ∧ vr = .int .u64 r) (fun vq _ => (intOf vq).toNat)
      case atStart => exact ⟨q, r, HEST.out, by omega, rfl, rfl⟩
      case round =>
        obtain ⟨q, r, est, hr1, rfl, rfl⟩ := hrel
        have hqm : q ≤ 5000000000 := by have := est.high; omega
        have HQ5 := Lib.hid est.high
        by_cases hbig : 4294967296 ≤ q
        · obtain ⟨h1q, est2⟩ := est.down (.inl hbig)
          have HE2 := Lib.hid est2
          have B1 : decide ((4294967296 : Int) ≤ (q : Int)) = true := by rw [decide_eq_true_eq]; omega
          clear est est2
          by_cases hbr : 4294967296 ≤ r + a
          · have B2 : decide ((4294967296 : Int) ≤ (r : Int) + (a : Int)) = true := by rw [decide_eq_true_eq]; omega
            have HX := Lib.hid (HE2.out.exact_break (by have := HQ5.out; omega) hbr)
            go_wp2_with fail
            go_meet
            exact ⟨by rw [← HQ1.out, ← HX.out]; congr 1; omega, rfl⟩
          · have B2 : decide ((4294967296 : Int) ≤ (r : Int) + (a : Int)) = false := by rw [decide_eq_false_iff_not]; omega
            go_wp2_with fail
            go_round
            case rel => exact ⟨q - 1, r + a, HE2.out, by omega, by congr 1; omega, by congr 1⟩
            case measure => simp [intOf]; omega
        · have B1 : decide ((4294967296 : Int) ≤ (q : Int)) = false := by rw [decide_eq_false_iff_not]; omega
          obtain ⟨p, hp⟩ : ∃ p, q * b = p := ⟨_, rfl⟩
          have hpl := est.prod_lt (by omega)
          rw [hp] at hpl
          have ep : IntKind.u64.wrap ((q : Int) * (b : Int)) = (p : Int) := by
            rw [show ((q : Int) * (b : Int)) = ((q * b : Nat) : Int) by simp, hp, IntKind.wrap_u64]; omega
          have HP := Lib.hid hp
          clear hp
          by_cases ht : r * 4294967296 + d < p
          · have B3 : decide (4294967296 * (r : Int) + (d : Int) < (p : Int)) = true := by rw [decide_eq_true_eq]; omega
            obtain ⟨h1q, est2⟩ := est.down (.inr (by rw [HP.out]; exact ht))
            have HE2 := Lib.hid est2
            clear est est2
            by_cases hbr : 4294967296 ≤ r + a
            · have B2 : decide ((4294967296 : Int) ≤ (r : Int) + (a : Int)) = true := by rw [decide_eq_true_eq]; omega
              have HX := Lib.hid (HE2.out.exact_break (by have := HQ5.out; omega) hbr)
              go_wp2_with fail
              go_meet
              exact ⟨by rw [← HQ1.out, ← HX.out]; congr 1; omega, rfl⟩
            · have B2 : decide ((4294967296 : Int) ≤ (r : Int) + (a : Int)) = false := by rw [decide_eq_false_iff_not]; omega
              go_wp2_with fail
              go_round
              case rel => exact ⟨q - 1, r + a, HE2.out, by omega, by congr 1; omega, by congr 1⟩
              case measure => simp [intOf]; omega
          · have B3 : decide (4294967296 * (r : Int) + (d : Int) < (p : Int)) = false := by rw [decide_eq_false_iff_not]; omega
            have HX := Lib.hid (est.exact (by rw [HP.out]; omega))
            clear est
            go_wp2_with fail
            go_meet
            exact ⟨by rw [← HQ1.out, ← HX.out], rfl⟩
    case rest =>
      obtain ⟨rfl, rfl⟩ := hcut
      have e13 := wrap_rem u d Q1 Y hY2 (by omega) HQ1.out
      obtain ⟨u2, hu2⟩ : ∃ u2, (u * 4294967296 + d) % Y = u2 := ⟨_, rfl⟩
      have hu2l : u2 < Y := by rw [← hu2]; exact Nat.mod_lt _ (by omega)
      rw [hu2] at e13
      have est := Est.start (u := u2) (d := f) (y := Y) (a := a) (b := b) HEST.out.hy b2 a1 a2 f2 hu2l
      obtain ⟨q2, hq2⟩ : ∃ q2, u2 / a = q2 := ⟨_, rfl⟩
      obtain ⟨r2, hr2⟩ : ∃ r2, u2 % a = r2 := ⟨_, rfl⟩
      rw [hq2, hr2] at est
      have hsum := est.sum
      obtain ⟨qa2, hqa2⟩ : ∃ qa, q2 * a = qa := ⟨_, rfl⟩
      rw [hqa2] at hsum
      have e14 : IntKind.u64.wrap ((u2 : Int) / (a : Int)) = (q2 : Int) := by rw [u64_quo _ _ (by omega), hq2]
      have e15 : IntKind.u64.wrap ((q2 : Int) * (a : Int)) = (qa2 : Int) := by
        rw [show ((q2 : Int) * (a : Int)) = ((q2 * a : Nat) : Int) by simp, hqa2, IntKind.wrap_u64]; omega
      have e16 : IntKind.u64.wrap ((u2 : Int) - (qa2 : Int)) = (r2 : Int) := by rw [IntKind.wrap_u64]; omega
      have r2l : r2 < a := by rw [← hr2]; exact Nat.mod_lt _ (by omega)
      have HEST2 := Lib.hid est
      have HU2 := Lib.hid hu2
      clear est hu2 hq2 hr2 hsum hqa2
      obtain ⟨Q2, hQ2⟩ : ∃ Q2, (u2 * 4294967296 + f) / Y = Q2 := ⟨_, rfl⟩
      have HQ2 := Lib.hid hQ2
      have hQ2l : Q2 < 4294967296 := by rw [← hQ2]; exact HEST2.out.top
      clear hQ2
      go_upto_block 2 with fail
      clear e13 e14 e15 e16
      go_cut [18] (fun x wx => x = .int .u64 (Q2 : Int) ∧ w' = wx)
      case first =>
        go_wp2_with fail
        go_loop [18, 16] (fun vq vr => ∃ q r : Nat, Est u2 f Y a b q r ∧ r < 4294967296 ∧ vq = .int .u64 q ∧ vr = .int .u64 r) (fun vq _ => (intOf vq).toNat)
        case atStart => exact ⟨q2, r2, HEST2.out, by omega, rfl, rfl⟩
        case round =>
          obtain ⟨q, r, est, hr1, rfl, rfl⟩ := hrel
          have hqm : q ≤ 5000000000 := by have := est.high; omega
          have HQ5 := Lib.hid est.high
          by_cases hbig : 4294967296 ≤ q
          · obtain ⟨h1q, est2⟩ := est.down (.inl hbig)
            have HE2 := Lib.hid est2
            have B1 : decide ((4294967296 : Int) ≤ (q : Int)) = true := by rw [decide_eq_true_eq]; omega
            clear est est2
            by_cases hbr : 4294967296 ≤ r + a
            · have B2 : decide ((4294967296 : Int) ≤ (r : Int) + (a : Int)) = true := by rw [decide_eq_true_eq]; omega
              have HX := Lib.hid (HE2.out.exact_break (by have := HQ5.out; omega) hbr)
              go_wp2_with fail
              go_meet
              exact ⟨by rw [← HQ2.out, ← HX.out]; congr 1; omega, rfl⟩
            · have B2 : decide ((4294967296 : Int) ≤ (r : Int) + (a : Int)) = false := by rw [decide_eq_false_iff_not]; omega
              go_wp2_with fail
              go_round
              case rel => exact ⟨q - 1, r + a, HE2.out, by omega, by congr 1; omega, by congr 1⟩
              case measure => simp [intOf]; omega
          · have B1 : decide ((4294967296 : Int) ≤ (q : Int)) = false := by rw [decide_eq_false_iff_not]; omega
            obtain ⟨p, hp⟩ : ∃ p, q * b = p := ⟨_, rfl⟩
            have hpl := est.prod_lt (by omega)
            rw [hp] at hpl
            have ep : IntKind.u64.wrap ((q : Int) * (b : Int)) = (p : Int) := by
              rw [show ((q : Int) * (b : Int)) = ((q * b : Nat) : Int) by simp, hp, IntKind.wrap_u64]; omega
            have HP := Lib.hid hp
            clear hp
            by_cases ht : r * 4294967296 + f < p
            · have B3 : decide (4294967296 * (r : Int) + (f : Int) < (p : Int)) = true := by rw [decide_eq_true_eq]; omega
              obtain ⟨h1q, est2⟩ := est.down (.inr (by rw [HP.out]; exact ht))
              have HE2 := Lib.hid est2
              clear est est2
              by_cases hbr : 4294967296 ≤ r + a
              · have B2 : decide ((4294967296 : Int) ≤ (r : Int) + (a : Int)) = true := by rw [decide_eq_true_eq]; omega
                have HX := Lib.hid (HE2.out.exact_break (by have := HQ5.out; omega) hbr)
                go_wp2_with fail
                go_meet
                exact ⟨by rw [← HQ2.out, ← HX.out]; congr 1; omega, rfl⟩
              · have B2 : decide ((4294967296 : Int) ≤ (r : Int) + (a : Int)) = false := by rw [decide_eq_false_iff_not]; omega
                go_wp2_with fail
                go_round
                case rel => exact ⟨q - 1, r + a, HE2.out, by omega, by congr 1; omega, by congr 1⟩
                case measure => simp [intOf]; omega
            · have B3 : decide (4294967296 * (r : Int) + (f : Int) < (p : Int)) = false := by rw [decide_eq_false_iff_not]; omega
              have HX := Lib.hid (est.exact (by rw [HP.out]; omega))
              clear est
              go_wp2_with fail
              go_meet
              exact ⟨by rw [← HQ2.out, ← HX.out], rfl⟩
      case rest =>
        obtain ⟨rfl, rfl⟩ := hcut
        have e17 := wrap_rem u2 f Q2 Y hY2 (by omega) HQ2.out
        obtain ⟨R, hR⟩ : ∃ R, (u2 * 4294967296 + f) % Y = R := ⟨_, rfl⟩
        rw [hR] at e17
        have HR := Lib.hid hR
        clear hR
        have hw := two_words u d f Y (by omega)
        rw [← HV.out, HU2.out, HQ1.out, HQ2.out, HR.out, ← HW1.out] at hw
        rw [HS.out.1] at hw
        have h2 := HS.out.2
        rw [hw.2] at h2
        have H1 := Lib.hid hw.1
        have H2 := Lib.hid h2
        clear hw h2
        go_wp2_with fail
        go_ret2
        refine ⟨ret_ie ?_ ?_, 0, rfl⟩
        · rw [H1.out]
          omega
        · rw [← H2.out]
          simp
end Go.Proofs.YtcpglhjmhegfmaaGreatDoor
namespace Go.Proofs.YtcpglhjmhegfmaaGreatDoor
open Go.RowKit
set_option maxRecDepth 100000
set_option linter.unusedVariables false
set_option maxHeartbeats 400000
theorem below_drewN' (w : World) (n : Nat) : Below w.heap.size w (w.drewN n) := ⟨rfl, rfl, rfl, Nat.le_refl _, fun _ _ => rfl⟩
/-- The library's table of trailing zeros lies where it was laid. -/
def Tab (w : World) : Prop := ∀ j, j < 64 → w.cell? ⟨0, j, none⟩ = some (.int .u8 (Lib.deBruijn64tab.getD j 0 : Nat))
theorem Tab.below {w w' : World} (h : Tab w) (hb : Below w.heap.size w w') : Tab w' := by
  intro j hj
  have h1 := h j hj
  rw [← h1]
  refine hb.cell (p := ⟨0, j, none⟩) ?_
  rcases Nat.lt_or_ge 0 w.heap.size with h2 | h2
  · exact h2
  · simp [World.cell?, Array.getElem?_eq_none h2] at h1
theorem tz64_core (x k idx : Nat) (w : World) (hx0 : ((x : Int) == 0) = false)
    (key : IntKind.u64.wrap (bits BinOp.and IntKind.u64 (x : Int) (IntKind.u64.wrap (-(x : Int))) * 285870213051353865) / 288230376151711744 = (idx : Int))
    (hi : idx < 64) (hk : k < 64) (hcell : w.cell? ⟨0, idx, none⟩ = some (.int .u8 k)) :
    Calls Tryz.prog 61 #[.int .u64 x] w fun e w' => e = .returned (.int .i64 k) ∧ w = w' := by
  go_enter Tryz.func61, Tryz.ntmps61
  go_wp2_with (simp only [key])
  go_ret
  exact ⟨rfl, rfl⟩
theorem bits_TrailingZeros64 (x : Nat) (hx : x < 18446744073709551616) (h0 : x ≠ 0) (w : World) (hT : Tab w) :
    Calls Tryz.prog 61 #[.int .u64 x] w fun e w' => e = .returned (.int .i64 (Lib.ctz 64 x)) ∧ w = w' := by
  obtain ⟨hlow, hk⟩ := Lib.lowest_bit 64 x h0 hx
  obtain ⟨hi, htab⟩ := Lib.deBruijn64_at _ hk
  have hcell := hT _ hi
  rw [htab] at hcell
  exact tz64_core x _ _ w (by simp; omega) (tz64_key x _ hx h0 hlow) hi hk hcell
theorem prime_mul (a b m : Nat) (w : World) (ha : a < m) (hb : b < m) (hm : m < 18446744073709551616) :
    Calls Tryz.prog 63 #[.int .u64 a, .int .u64 b, .int .u64 m] w fun e w' => e = .returned (.int .u64 (a * b % m : Nat)) ∧ Below w.heap.size w w' := by
  obtain ⟨hi, hhi⟩ : ∃ hi, a * b / 18446744073709551616 = hi := ⟨_, rfl⟩
  obtain ⟨lo, hlo⟩ : ∃ lo, a * b % 18446744073709551616 = lo := ⟨_, rfl⟩
  have hsum : hi * 18446744073709551616 + lo = a * b := by rw [← hhi, ← hlo, Nat.mul_comm]; exact Nat.div_add_mod _ _
  have h1 : hi < m := by
    rw [← hhi, Nat.div_lt_iff_lt_mul (by decide)]
    exact Nat.lt_of_le_of_lt (Nat.mul_le_mul_left a (Nat.le_of_lt hb)) (by
      rcases Nat.eq_zero_or_pos m with h | h
      · omega
      · exact Nat.lt_of_lt_of_le (Nat.mul_lt_mul_of_pos_right ha h) (Nat.mul_le_mul_left m (Nat.le_of_lt hm)))
  have h2 : lo < 18446744073709551616 := by rw [← hlo]; exact Nat.mod_lt _ (by decide)
  have hd := bits_Div64 hi lo m
  rw [hsum] at hd
  have HA := Lib.hid (Nat.lt_trans ha hm)
  have HB := Lib.hid (Nat.lt_trans hb hm)
  have HH := Lib.hid hhi
  have HL := Lib.hid hlo
  have HD := Lib.hid hd
  have H1 := Lib.hid h1
  have H2 := Lib.hid h2
  have HM := Lib.hid hm
  clear hd hsum hhi hlo h1 h2 ha hb hm
  go_enter Tryz.func63, Tryz.ntmps63
  go_wp2_with (first | (go_at_call 57; (with_reducible refine (bits_Mul64' _ _ _ _ HA.out HB.out HH HL _).mono ?_); rintro e w' ⟨rfl, rfl⟩) | (go_at_call 75; (with_reducible refine (HD.out _ H2.out H1.out HM.out).mono ?_); rintro e w' ⟨rfl, n, rfl⟩))
  go_ret
  exact ⟨rfl, below_drewN' _ _⟩
theorem prime_pow (a0 e0 m : Nat) (w : World) (ha : a0 < m) (he : e0 < 18446744073709551616) (hm : m < 18446744073709551616) :
    Calls Tryz.prog 62 #[.int .u64 a0, .int .u64 e0, .int .u64 m] w fun e w' => e = .returned (.int .u64 (a0 ^ e0 % m : Nat)) ∧ Below w.heap.size w w' := by
  have hm0 : 1 ≤ m := by omega
  have h1 : ((1 : Int) % (m : Int)) = ((1 % m : Nat) : Int) := by simp
  have HE := Lib.hid he
  have HM := Lib.hid hm
  clear he hm
  go_enter Tryz.func62, Tryz.ntmps62
  go_wp2_with fail
  go_loopw [0, 1, 7] (fun va ve vx wr => ∃ a e x : Nat, va = .int .u64 a ∧ ve = .int .u64 e ∧ vx = .int .u64 x ∧ a < m ∧ x < m ∧ e ≤ e0 ∧ x * a ^ e % m = a0 ^ e0 % m ∧ Below w.heap.size w wr) (fun _ ve _ _ => (intOf ve).toNat)
  case atStart => exact ⟨a0, e0, 1 % m, rfl, rfl, by rw [← h1], ha, Nat.mod_lt _ (by omega), Nat.le_refl _, by rw [mul_mod_l, Nat.one_mul], Below.refl _ _⟩
  case round =>
    obtain ⟨a, e, x, rfl, rfl, rfl, ha1, hx1, he1, hinv, hbel⟩ := hrel
    have HI := Lib.hid hinv
    have HAM := Lib.hid ha1
    have HXM := Lib.hid hx1
    clear hinv h1 ha1 hx1
    by_cases hz : e = 0
    · subst hz
      go_wp2_with fail
      go_ret
      exact ⟨ret_int (by rw [← HI.out, Nat.pow_zero, Nat.mul_one, Nat.mod_eq_of_lt HXM.out]), hbel⟩
    · have hpos : (0 : Int) < (e : Int) := by omega
      by_cases ho : e % 2 = 1
      · have hpe : 0 < e := by omega
        have B1 : ((e : Int) % 2 == 1) = true := by rw [beq_iff_eq]; omega
        have HO := Lib.hid ho
        clear ho hz
        go_wp2_with (first | (go_at_call 63; (with_reducible refine (prime_mul x a m _ HXM.out HAM.out HM.out).mono ?_); rintro e w' ⟨rfl, hb1⟩) | (go_at_call 63; (with_reducible refine (prime_mul a a m _ HAM.out HAM.out HM.out).mono ?_); rintro e w' ⟨rfl, hb2⟩))
        have hq := u64_quo e 2 (Nat.lt_of_le_of_lt he1 HE.out)
        go_roundw
        case rel => exact ⟨a * a % m, e / 2, x * a % m, by congr 1, by rw [← hq]; rfl, by congr 1, Nat.mod_lt _ (by omega), Nat.mod_lt _ (by omega), by omega, by rw [pow_step_odd _ _ _ _ HO.out]; exact HI.out, below2 (below2 hbel hb1) hb2⟩
        case measure =>
          have hq2 : IntKind.u64.wrap ((e : Int) / 2) = ((e / 2 : Nat) : Int) := hq
          rw [hq2]; simp [intOf]; omega
      · have hpe : 0 < e := by omega
        have B1 : ((e : Int) % 2 == 1) = false := by rw [beq_eq_false_iff_ne]; omega
        have HO := Lib.hid ho
        clear ho hz
        go_wp2_with (first | (go_at_call 63; (with_reducible refine (prime_mul a a m _ HAM.out HAM.out HM.out).mono ?_); rintro e w' ⟨rfl, hb2⟩))
        have hq := u64_quo e 2 (Nat.lt_of_le_of_lt he1 HE.out)
        go_roundw
        case rel => exact ⟨a * a % m, e / 2, x, by congr 1, by rw [← hq]; rfl, rfl, Nat.mod_lt _ (by omega), HXM.out, by omega, by rw [pow_step_even _ _ _ _ HO.out]; exact HI.out, below2 hbel hb2⟩
        case measure =>
          have hq2 : IntKind.u64.wrap ((e : Int) / 2) = ((e / 2 : Nat) : Int) := hq
          rw [hq2]; simp [intOf]; omega
end Go.Proofs.YtcpglhjmhegfmaaGreatDoor
namespace Go.Proofs.YtcpglhjmhegfmaaGreatDoor
open Go.RowKit
set_option maxRecDepth 100000
set_option linter.unusedVariables false
set_option maxHeartbeats 400000
theorem idx_bases (w : World) : ∀ k, k < 12 → (Instr.index 110 (.agg basesV) (.int .i64 (k : Nat))).run Tryz.prog w = .ok (.int .u64 (basesL.getD k 0 : Nat)) w
  | 0, _ => by kernel_rfl
  | 1, _ => by kernel_rfl
  | 2, _ => by kernel_rfl
  | 3, _ => by kernel_rfl
  | 4, _ => by kernel_rfl
  | 5, _ => by kernel_rfl
  | 6, _ => by kernel_rfl
  | 7, _ => by kernel_rfl
  | 8, _ => by kernel_rfl
  | 9, _ => by kernel_rfl
  | 10, _ => by kernel_rfl
  | 11, _ => by kernel_rfl
  | n + 12, h => absurd h (by omega)
theorem bits_TrailingZeros64' (z : Int) (x : Nat) (hz : z = x) (hx : x < 18446744073709551616) (h0 : x ≠ 0) (w : World) (hT : Tab w) :
    Calls Tryz.prog 61 #[.int .u64 z] w fun e w' => e = .returned (.int .i64 (Lib.ctz 64 x)) ∧ w = w' := by
  subst hz
  exact bits_TrailingZeros64 x hx h0 w hT
theorem prime_is (n : Nat) (w : World) (hn : n < 18446744073709551616) (hT : Tab w) :
    Calls Tryz.prog 42 #[.int .u64 n] w fun e w' => e = .returned (.bool (isS n)) ∧ Below w.heap.size w w' := by
  by_cases h2 : n < 2
  · have HR := Lib.hid (isS_small h2)
    go_enter Tryz.func42, Tryz.ntmps42
    go_wp2_with fail
    go_step3
    go_wp2_with fail
    rw [Exit.noGoto_ret]
    go_ret
    exact ⟨ret_bool HR.out.symm, Below.refl _ _⟩
  · have HN := Lib.hid hn
    have HT := Lib.hid hT
    clear hn hT
    go_enter Tryz.func42, Tryz.ntmps42
    go_wp2_with fail
    go_step3
    go_wp2_with (first | (go_at_call 60; refine (prime_bases _).mono ?_; rintro e w' ⟨rfl, hb1⟩))
    go_loopw [14] (fun c wr => ∃ k : Nat, k ≤ 12 ∧ c = .int .i64 k ∧ (∀ j, j < k → n % basesL.getD j 0 ≠ 0) ∧ wr = w') (fun c _ => 12 - (intOf c).toNat)
    case atStart => exact ⟨0, by omega, rfl, fun j h => absurd h (by omega), rfl⟩
    case round =>
      obtain ⟨k, hk, rfl, hall, rfl⟩ := hrel
      have HALL := Lib.hid hall
      clear hall
      by_cases hlt : k < 12
      · have hix := fun w => idx_bases w k hlt
        obtain ⟨hb2, hb37⟩ := base_pos k hlt
        obtain ⟨p, hp⟩ : ∃ p, basesL.getD k 0 = p := ⟨_, rfl⟩
        simp only [hp] at hix hb2 hb37
        have HP := Lib.hid hp
        clear hp
        by_cases hd : n % p = 0
        · have B1 : ((n : Int) % (p : Int) == 0) = true := by rw [beq_iff_eq]; omega
          have HD := Lib.hid hd
          clear hd
          go_wp2_with fail
          rw [Exit.noGoto_ret]
          go_ret
          refine ⟨ret_bool ?_, hb1⟩
          rw [isS_hit (by omega) hlt HALL.out (by rw [HP.out]; exact HD.out), HP.out]
          rw [Bool.eq_iff_iff, beq_iff_eq, beq_iff_eq]; omega
        · have B1 : ((n : Int) % (p : Int) == 0) = false := by rw [beq_eq_false_iff_ne]; omega
          have HD := Lib.hid hd
          clear hd
          go_wp2_with fail
          go_roundw
          case rel => exact ⟨k + 1, by omega, by go_num, fun j hj => by
            by_cases e : j = k
            · subst e; rw [HP.out]; exact HD.out
            · exact HALL.out j (by omega), trivial⟩
          case measure => simp [intOf]; omega
      · obtain rfl : k = 12 := by omega
        have hT1 := Lib.hid (HT.out.below hb1)
        obtain ⟨N, hN⟩ : ∃ N, n - 1 = N := ⟨_, rfl⟩
        have eN : ((n : Int) - 1) = (N : Int) := by omega
        have N1 : 1 ≤ N := by omega
        have htl := tz_lt (show 2 ≤ n by omega) HN.out
        have hNl := Lib.hid (show N < 18446744073709551616 by have := HN.out; omega)
        obtain ⟨t, ht⟩ : ∃ t, tz n = t := ⟨_, rfl⟩
        rw [ht] at htl
        obtain ⟨d, hd⟩ : ∃ d, oddPart n = d := ⟨_, rfl⟩
        have hd2 : d = N / 2 ^ t := by rw [← hd, ← hN, ← ht]; rfl
        have ed : ((N : Int) / 2 ^ t) = (d : Int) := by rw [hd2]; simp
        have hdl := Lib.hid (show d < 18446744073709551616 by rw [hd2]; exact Nat.lt_of_le_of_lt (Nat.div_le_self _ _) hNl.out)
        have eNw : IntKind.u64.wrap (N : Int) = (N : Int) := by have := hNl.out; rw [IntKind.wrap_u64]; omega
        have htz := Lib.hid (show Lib.ctz 64 N = t by rw [← ht, ← hN]; rfl)
        have HNN := Lib.hid hN
        have Ht := Lib.hid ht
        have Hd := Lib.hid hd
        clear hN ht hd hd2
        go_wp2_with (first | (go_at_call 61; (with_reducible refine (bits_TrailingZeros64' _ N (by first | rfl | omega) hNl.out (by omega) _ hT1.out).mono ?_); rintro e w' ⟨rfl, rfl⟩; rw [htz.out]) | (go_at_call 60; refine (prime_bases _).mono ?_; rintro e w2 ⟨rfl, hb2⟩))
        go_step3
        go_wp2_with (go_at_call 60; refine (prime_bases _).mono ?_; rintro e w2 ⟨rfl, hb2⟩)
        obtain ⟨wo, rfl⟩ : ∃ wo : World, wo = w2 := ⟨_, rfl⟩
        have HAL2 := Lib.hid HALL.out
        have hT2 := Lib.hid (hT1.out.below hb2)
        have hbw := Lib.hid (below2 hb1 hb2)
        clear hb1 hb2 hT1 HALL HT htz
        go_loopw [33] (fun c wr => ∃ k : Nat, k ≤ 12 ∧ c = .int .i64 k ∧ (∀ j, j < k → strongB n (basesL.getD j 0) = true) ∧ Below wo.heap.size wo wr) (fun c _ => 12 - (intOf c).toNat)
        case atStart => exact ⟨0, by omega, rfl, fun j h => absurd h (by omega), Below.refl _ _⟩
        case round =>
          obtain ⟨k, hk, rfl, hall, hbel⟩ := hrel
          have HALL := Lib.hid hall
          have hTr := Lib.hid (hT2.out.below hbel)
          clear hall
          by_cases hlt : k < 12
          · have hix := fun w => idx_bases w k hlt
            obtain ⟨hb2, hb37⟩ := base_pos k hlt
            obtain ⟨p, hp⟩ : ∃ p, basesL.getD k 0 = p := ⟨_, rfl⟩
            simp only [hp] at hix hb2 hb37
            obtain ⟨x0, hx0⟩ : ∃ x0, first n p = x0 := ⟨_, rfl⟩
            have hpow : ∀ w, Calls Tryz.prog 62 #[.int .u64 ((p : Int) % (n : Int)), .int .u64 d, .int .u64 n] w fun e w' => e = .returned (.int .u64 (x0 : Nat)) ∧ Below w.heap.size w w' := by
              intro w
              have := prime_pow (p % n) d n w (Nat.mod_lt _ (by omega)) hdl.out HN.out
              rw [show (p % n) ^ d % n = x0 by rw [← hx0, ← Hd.out]; rfl] at this
              rw [show ((p : Int) % (n : Int)) = ((p % n : Nat) : Int) by simp]
              exact this
            have HPOW := Lib.hid hpow
            have HP := Lib.hid hp
            have HX0 := Lib.hid hx0
            clear hp hpow hx0
            by_cases h1 : x0 = 1
            · subst h1
              have HST := Lib.hid (strong_one HX0.out)
              go_wp2_with (go_at_call 62; refine (HPOW.out _).mono ?_; rintro e w' ⟨rfl, hb3⟩)
              go_roundw
              case rel =>
                refine ⟨k + 1, by omega, by go_num, fun j hj => ?_, below2 hbel hb3⟩
                by_cases e : j = k
                · subst e; rw [HP.out]; exact HST.out
                · exact HALL.out j (by omega)
              case measure => simp [intOf]; omega
            · by_cases hl : x0 = N
              · subst hl
                have HST := Lib.hid (strong_last (by rw [HX0.out]; exact HNN.out.symm))
                go_wp2_with (go_at_call 62; refine (HPOW.out _).mono ?_; rintro e w' ⟨rfl, hb3⟩)
                go_roundw
                case rel =>
                  refine ⟨k + 1, by omega, by go_num, fun j hj => ?_, below2 hbel hb3⟩
                  by_cases e : j = k
                  · subst e; rw [HP.out]; exact HST.out
                  · exact HALL.out j (by omega)
                case measure => simp [intOf]; omega
              · have hxn := Lib.hid (show x0 < n by rw [← HX0.out]; exact Nat.mod_lt _ (by omega))
                have C1 : ((x0 : Int) == 1) = false := by rw [beq_eq_false_iff_ne]; omega
                have C2 : ((x0 : Int) == (N : Int)) = false := by rw [beq_eq_false_iff_ne]; omega
                have H1 := Lib.hid h1
                have H2 := Lib.hid hl
                clear h1 hl
                go_wp2_with (go_at_call 62; refine (HPOW.out _).mono ?_; rintro e w3 ⟨rfl, hb3⟩)
                obtain ⟨wi, rfl⟩ : ∃ wi : World, wi = w3 := ⟨_, rfl⟩
                go_loopw [9, 10] (fun vx c wr => ∃ i x : Nat, 1 ≤ i ∧ i ≤ 64 ∧ vx = .int .u64 x ∧ c = .int .i64 i ∧ x < n ∧ sqr n x0 (i - 1) = x ∧ (∀ j, 1 ≤ j → j < i → sqr n x0 j ≠ N) ∧ Below wi.heap.size wi wr) (fun _ c _ => 64 - (intOf c).toNat)
                case atStart => exact ⟨1, x0, by omega, by omega, rfl, rfl, hxn.out, sqr_zero hxn.out, fun j h1 h2 => absurd h2 (by omega), Below.refl _ _⟩
                case round =>
                  obtain ⟨i, x, hi1, hi64, rfl, rfl, hx, hsq, hnot, hbel3⟩ := hrel
                  have HX := Lib.hid hx
                  have HSQ := Lib.hid hsq
                  have HNOT := Lib.hid hnot
                  clear hx hsq hnot
                  by_cases hit : i < t
                  · obtain ⟨y, hy⟩ : ∃ y, x * x % n = y := ⟨_, rfl⟩
                    have hmul : ∀ w, Calls Tryz.prog 63 #[.int .u64 x, .int .u64 x, .int .u64 n] w fun e w' => e = .returned (.int .u64 (y : Nat)) ∧ Below w.heap.size w w' := by
                      intro w
                      rw [← hy]
                      exact prime_mul x x n w HX.out HX.out HN.out
                    have HMUL := Lib.hid hmul
                    have hsy := Lib.hid (show sqr n x0 i = y by rw [← hy, ← HSQ.out, sqr_succ, show i - 1 + 1 = i by omega])
                    have hyn := Lib.hid (show y < n by rw [← hy]; exact Nat.mod_lt _ (by omega))
                    clear hmul hy
                    by_cases hyl : y = N
                    · subst hyl
                      have HST := Lib.hid (strong_sqr (n := n) (a := p) hi1 (by rw [Ht.out]; exact hit) (by rw [HX0.out, hsy.out]; exact HNN.out.symm))
                      go_wp2_with (go_at_call 63; refine (HMUL.out _).mono ?_; rintro e w' ⟨rfl, hb4⟩)
                      go_roundw
                      case rel =>
                        refine ⟨k + 1, by omega, by go_num, fun j hj => ?_, below2 (below2 (below2 hbel hb3) hbel3) hb4⟩
                        by_cases e : j = k
                        · subst e; rw [HP.out]; exact HST.out
                        · exact HALL.out j (by omega)
                      case measure => simp [intOf]; omega
                    · have D1 : ((y : Int) == (N : Int)) = false := by rw [beq_eq_false_iff_ne]; omega
                      have HY := Lib.hid hyl
                      clear hyl
                      go_wp2_with (go_at_call 63; refine (HMUL.out _).mono ?_; rintro e w' ⟨rfl, hb4⟩)
                      go_roundw
                      case rel => exact ⟨i + 1, y, by omega, by omega, rfl, by go_num, hyn.out, by rw [Nat.add_sub_cancel]; exact hsy.out, fun j h1 h2 => by
                        by_cases e : j = i
                        · subst e; rw [hsy.out]; exact HY.out
                        · exact HNOT.out j h1 (by omega), below2 hbel3 hb4⟩
                      case measure => simp [intOf]; omega
                  · have HST := Lib.hid (strong_not (n := n) (a := p) (by rw [HX0.out]; exact H1.out) (by rw [HX0.out, HNN.out]; exact H2.out) (fun j h1 h2 => by rw [HX0.out, HNN.out]; exact HNOT.out j h1 (by rw [Ht.out] at h2; omega)))
                    go_wp2_with fail
                    rw [Exit.noGoto_ret]
                    go_ret
                    exact ⟨ret_bool (isS_no (by omega) HAL2.out hlt (by rw [HP.out]; exact HST.out)).symm, below2 (below2 (below2 hbw.out hbel) hb3) hbel3⟩
          · obtain rfl : k = 12 := by omega
            go_wp2_with fail
            rw [Exit.noGoto_ret]
            go_ret
            exact ⟨ret_bool (isS_yes (by omega) HAL2.out HALL.out).symm, below2 hbw.out hbel⟩
end Go.Proofs.YtcpglhjmhegfmaaGreatDoor
namespace Go.Proofs.YtcpglhjmhegfmaaGreatDoor
open Go.RowKit
set_option maxRecDepth 100000
set_option linter.unusedVariables false
set_option maxHeartbeats 400000
/-- Whether a number is a safe prime, and the error. -/
def safeS (s : ByteArray) : Bool × Int := (decide ((smallS s).2 = 0) && (isS (smallS s).1 && isS (((smallS s).1 - 1) / 2)), (smallS s).2)
theorem prime_Safe (s : ByteArray) (w : World) (hT : Tab w) :
    Calls Tryz.prog 56 #[.string s] w fun e w' => e = .returned (.tuple #[.bool (safeS s).1, .int .i64 (safeS s).2]) ∧ Below w.heap.size w w' := by
  have hr : (safeS s).1 = (decide ((smallS s).2 = 0) && (isS (smallS s).1 && isS (((smallS s).1 - 1) / 2))) := rfl
  have hr2 : (safeS s).2 = (smallS s).2 := rfl
  have hl := Lib.hid (smallS_lt s)
  have HR := Lib.hid hr
  have HR2 := Lib.hid hr2
  have hsm := prime_small s
  generalize (smallS s).1 = x at *
  generalize (smallS s).2 = er at *
  have HS := Lib.hid hsm
  have HT := Lib.hid hT
  clear hr hr2 hsm hT
  by_cases he : er = 0
  · subst he
    cases h1 : isS x
    · go_enter Tryz.func56, Tryz.ntmps56
      go_wp2_with (first | (go_at_call 41; refine (HS.out _).mono ?_; rintro e w' ⟨rfl, rfl⟩) | (go_at_call 42; refine (prime_is x _ hl.out HT.out).mono ?_; rintro e w' ⟨rfl, hb1⟩))
      go_ret2
      exact ⟨ret_be (by rw [HR.out, h1]; rfl) (by rw [HR2.out]), hb1⟩
    · have hx2 : 2 ≤ x := by
        rcases Nat.lt_or_ge x 2 with h | h
        · rw [isS_small h] at h1; cases h1
        · exact h
      have hw : IntKind.u64.wrap ((x : Int) - 1) = (x : Int) - 1 := by have := hl.out; rw [IntKind.wrap_u64]; omega
      have hdv : IntKind.u64.wrap (((x : Int) - 1) / 2) = (((x - 1) / 2 : Nat) : Int) := by have := hl.out; rw [IntKind.wrap_u64]; omega
      have hdv2 : (((x : Int) - 1) / 2) = (((x - 1) / 2 : Nat) : Int) := by omega
      have hdv3 : IntKind.u64.wrap (((x : Int) - 1).tdiv 2) = (((x - 1) / 2 : Nat) : Int) := by
        rw [Int.tdiv_eq_ediv_of_nonneg (by omega)]; exact hdv
      have hl2 := Lib.hid (show (x - 1) / 2 < 18446744073709551616 by have := hl.out; omega)
      generalize (x - 1) / 2 = y at *
      cases h2 : isS y
      all_goals
        go_enter Tryz.func56, Tryz.ntmps56
        go_wp2_with (first | (go_at_call 41; refine (HS.out _).mono ?_; rintro e w' ⟨rfl, rfl⟩) | (go_at_call 42; (with_reducible refine (prime_is x _ hl.out HT.out).mono ?_); rintro e w' ⟨rfl, hb1⟩; have hT1 := Lib.hid (HT.out.below hb1)) | (go_at_call 42; (with_reducible refine (prime_is y _ hl2.out hT1.out).mono ?_); rintro e w' ⟨rfl, hb2⟩))
        go_ret2
        exact ⟨ret_be (by rw [HR.out, h1, h2]; rfl) (by rw [HR2.out]), below2 hb1 hb2⟩
  · have heb : (er == 0) = false := by rw [beq_eq_false_iff_ne]; exact he
    have HE := Lib.hid he
    clear he
    go_enter Tryz.func56, Tryz.ntmps56
    go_wp2_with (first | (go_at_call 41; refine (HS.out _).mono ?_; rintro e w' ⟨rfl, rfl⟩))
    go_ret2
    exact ⟨ret_be (by rw [HR.out, decide_eq_false HE.out]; rfl) (by rw [HR2.out]), Below.refl _ _⟩
/-- The error of the primes of a trapdoor. -/
def trapS (p q : ByteArray) : Int :=
  if (safeS p).2 ≠ 0 then (safeS p).2 else if (safeS q).2 ≠ 0 then (safeS q).2 else if (safeS p).1 && ((safeS q).1 && !(p.toList == q.toList)) then 0 else 12
theorem Tab.lt {w : World} (h : Tab w) : 0 < w.heap.size := by
  have h1 := h 0 (by decide)
  rcases Nat.lt_or_ge 0 w.heap.size with h2 | h2
  · exact h2
  · simp [World.cell?, Array.getElem?_eq_none h2] at h1
theorem Tab.setCell {w : World} (h : Tab w) {p : Addr} (hp : 0 < p.block) (v : Value) : Tab (w.setCell p v) := by
  intro j hj
  rw [← h j hj]
  exact World.cell?_setCell_other w p _ v (fun e => by subst e; exact absurd hp (Nat.lt_irrefl _))
theorem Tab.alloc {w : World} (h : Tab w) (o : Obj) : Tab (w.alloc o) := h.below ((Below.refl _ _).alloc (Nat.le_refl _) _)
theorem below_safe {w w1 w2 w3 : World} {o1 o2 o3 : Obj} {v1 : Value} {p : Addr} (hp : w.heap.size ≤ p.block) (hb1 : Below (w.alloc o1).heap.size (w.alloc o1) w1) (hb2 : Below ((w1.alloc o2).alloc o3).heap.size ((w1.alloc o2).alloc o3) w2)
    (hb3 : Below (w2.setCell p v1).heap.size (w2.setCell p v1) w3) : Below w.heap.size w w3 := by
  have s1 := hb1.size
  have s2 := hb2.size
  simp at s1 s2
  have a : Below w.heap.size w ((w1.alloc o2).alloc o3) := ((((Below.refl _ _).alloc (Nat.le_refl _) _).trans (hb1.mono (by simp))).alloc (by omega) _).alloc (by simp; omega) _
  exact ((a.trans (hb2.mono (by simp; omega))).setCell hp _).trans (hb3.mono (by simp; omega))
theorem below_safe1 {w w1 w2 : World} {o1 o2 o3 : Obj} {v1 : Value} {p : Addr} (hp : w.heap.size ≤ p.block) (hb1 : Below (w.alloc o1).heap.size (w.alloc o1) w1) (hb2 : Below ((w1.alloc o2).alloc o3).heap.size ((w1.alloc o2).alloc o3) w2) : Below w.heap.size w (w2.setCell p v1) := by
  have s1 := hb1.size
  have s2 := hb2.size
  simp at s1 s2
  have a : Below w.heap.size w ((w1.alloc o2).alloc o3) := ((((Below.refl _ _).alloc (Nat.le_refl _) _).trans (hb1.mono (by simp))).alloc (by omega) _).alloc (by simp; omega) _
  exact (a.trans (hb2.mono (by simp; omega))).setCell hp _
theorem rsagroup_safe (p q : ByteArray) (w : World) (hT : Tab w) :
    Calls Tryz.prog 38 #[.agg #[.string p, .string q]] w fun e w' => e = .returned (.int .i64 (trapS p q)) ∧ Below w.heap.size w w' := by
  have hlt0 := Lib.hid hT.lt
  have HT := Lib.hid hT
  clear hT
  have hr : trapS p q = if (safeS p).2 ≠ 0 then (safeS p).2 else if (safeS q).2 ≠ 0 then (safeS q).2 else if (safeS p).1 && ((safeS q).1 && !(p.toList == q.toList)) then 0 else 12 := rfl
  have hsp := prime_Safe p
  have hsq := prime_Safe q
  generalize (safeS p).1 = a1 at *
  generalize (safeS p).2 = e1 at *
  generalize (safeS q).1 = a2 at *
  generalize (safeS q).2 = e2 at *
  have HR := Lib.hid hr
  have HP := Lib.hid hsp
  have HQ := Lib.hid hsq
  clear hr hsp hsq
  by_cases h1 : e1 = 0
  · subst h1
    by_cases h2 : e2 = 0
    · subst h2
      cases a1 <;> cases a2 <;> cases hpq : (p.toList == q.toList)
      all_goals
        go_enter Tryz.func38, Tryz.ntmps38
        go_wp2_with (first | (go_at_call 36; refine (rsagroup_primes _ _ _).mono ?_; rintro e w1 ⟨rfl, hb1⟩; have hcw1 := (bcell hb1).1))
        have hT1 := Lib.hid ((HT.out.below ((Below.refl _ _).alloc (Nat.le_refl _) _)).below hb1)
        have hs1 := hb1.size
        refine wp_loop_rounds 3 ?_
        rw [rounds_succ]
        go_wp2_with fail
        refine (HP.out _ ?_).mono ?_
        · exact (hT1.out.alloc _).alloc _
        rintro e w2 ⟨rfl, hb2⟩
        have hcw2 := (bcell hb2).1
        have hfw2 := (bcell hb2).2
        have hT2 := Lib.hid (((hT1.out.alloc _).alloc _).below hb2)
        have hs2 : w1.heap.size + 1 < w2.heap.size := by have := hb2.size; simp at this; omega
        go_wp2_with fail
        rw [rounds_succ]
        go_wp2_with fail
        refine (HQ.out _ ?_).mono ?_
        · exact hT2.out.setCell (show 0 < w1.heap.size + 1 by have h1 := hlt0.out; simp at hs1; omega) _
        rintro e w3 ⟨rfl, hb3⟩
        have hcw3 := (bcell hb3).1
        have hfw3 := (bcell hb3).2
        have hs3 : w1.heap.size + 1 < w3.heap.size := by have := hb3.size; simp at this; omega
        have hq3 : w.heap.size < w3.heap.size := by simp at hs1; omega
        have hq2 : w.heap.size < w2.heap.size := by simp at hs1; omega
        have hq1 : w.heap.size < w1.heap.size := by simp at hs1; omega
        have hq4 : w.heap.size < w1.heap.size + 1 := by omega
        have hq5 : w.heap.size < w1.heap.size + 1 + 1 := by omega
        have hne : ¬ w.heap.size = w1.heap.size + 1 := by omega
        have hne2 : ¬ w1.heap.size + 1 = w.heap.size := by omega
        go_wp2_with fail
        rw [rounds_succ]
        go_wp2_with fail
        go_ret
        exact ⟨ret_int (by rw [HR.out]; simp [hpq]), (below_safe (show w.heap.size ≤ w1.heap.size + 1 by simp at hs1; omega) hb1 hb2 hb3).setCell (show w.heap.size ≤ w1.heap.size + 1 by simp at hs1; omega) _⟩
    · have heb : (e2 != 0) = true := by rw [bne_iff_ne]; exact h2
      have HE := Lib.hid h2
      clear h2
      go_enter Tryz.func38, Tryz.ntmps38
      go_wp2_with (first | (go_at_call 36; refine (rsagroup_primes _ _ _).mono ?_; rintro e w1 ⟨rfl, hb1⟩; have hcw1 := (bcell hb1).1))
      have hT1 := Lib.hid ((HT.out.below ((Below.refl _ _).alloc (Nat.le_refl _) _)).below hb1)
      have hs1 := hb1.size
      refine wp_loop_rounds 3 ?_
      rw [rounds_succ]
      go_wp2_with fail
      refine (HP.out _ ?_).mono ?_
      · exact (hT1.out.alloc _).alloc _
      rintro e w2 ⟨rfl, hb2⟩
      have hcw2 := (bcell hb2).1
      have hfw2 := (bcell hb2).2
      have hT2 := Lib.hid (((hT1.out.alloc _).alloc _).below hb2)
      have hs2 : w1.heap.size + 1 < w2.heap.size := by have := hb2.size; simp at this; omega
      go_wp2_with fail
      rw [rounds_succ]
      go_wp2_with fail
      refine (HQ.out _ ?_).mono ?_
      · exact hT2.out.setCell (show 0 < w1.heap.size + 1 by have h1 := hlt0.out; simp at hs1; omega) _
      rintro e w3 ⟨rfl, hb3⟩
      have hcw3 := (bcell hb3).1
      have hfw3 := (bcell hb3).2
      have hs3 : w1.heap.size + 1 < w3.heap.size := by have := hb3.size; simp at this; omega
      go_wp2_with fail
      go_ret
      exact ⟨ret_int (by rw [HR.out, if_neg (by simp), if_pos HE.out] <;> rfl), (below_safe (show w.heap.size ≤ w1.heap.size + 1 by simp at hs1; omega) hb1 hb2 hb3).setCell (show w.heap.size ≤ w1.heap.size + 1 by simp at hs1; omega) _⟩
  · have heb : (e1 != 0) = true := by rw [bne_iff_ne]; exact h1
    have HE := Lib.hid h1
    clear h1
    go_enter Tryz.func38, Tryz.ntmps38
    go_wp2_with (first | (go_at_call 36; refine (rsagroup_primes _ _ _).mono ?_; rintro e w1 ⟨rfl, hb1⟩; have hcw1 := (bcell hb1).1))
    have hT1 := Lib.hid ((HT.out.below ((Below.refl _ _).alloc (Nat.le_refl _) _)).below hb1)
    have hs1 := hb1.size
    refine wp_loop_rounds 3 ?_
    rw [rounds_succ]
    go_wp2_with fail
    refine (HP.out _ ?_).mono ?_
    · exact (hT1.out.alloc _).alloc _
    rintro e w2 ⟨rfl, hb2⟩
    have hcw2 := (bcell hb2).1
    have hfw2 := (bcell hb2).2
    have hT2 := Lib.hid (((hT1.out.alloc _).alloc _).below hb2)
    have hs2 : w1.heap.size + 1 < w2.heap.size := by have := hb2.size; simp at this; omega
    go_wp2_with fail
    go_ret
    exact ⟨ret_int (by rw [HR.out, if_pos HE.out] <;> rfl), below_safe1 (show w.heap.size ≤ w1.heap.size + 1 by simp at hs1; omega) hb1 hb2⟩
/-- The error of a group with its trapdoor. -/
def checkS (m o p q : ByteArray) : Int :=
  if valid m && (valid o && (valid p && valid q)) then
    if goodS m o then if (natMul p q).2 = 0 ∧ ((natMul p q).1.toList == m.toList) = true then trapS p q else 1 else 13
  else 3
theorem rsagroup_Check (m o p q : ByteArray) (w : World) (sm : m.size ≤ 8) (hT : Tab w) :
    Calls Tryz.prog 34 #[.agg #[.string m, .string o], .agg #[.string p, .string q]] w fun e w' => e = .returned (.int .i64 (checkS m o p q)) ∧ Below w.heap.size w w' := by
  have hr : checkS m o p q = if valid m && (valid o && (valid p && valid q)) then
    if goodS m o then if (natMul p q).2 = 0 ∧ ((natMul p q).1.toList == m.toList) = true then trapS p q else 1 else 13 else 3 := rfl
  have HR := Lib.hid hr
  have hmul := natural_Mul p q
  have HMUL := Lib.hid hmul
  have HT := Lib.hid ((hT.alloc (.cells #[.string m, .string o] 24)).alloc (.cells #[.string p, .string q] 29))
  clear hr hmul hT
  have fin0 : Below w.heap.size w ((w.alloc (.cells #[.string m, .string o] 24)).alloc (.cells #[.string p, .string q] 29)) := ((Below.refl _ _).alloc (Nat.le_refl _) _).alloc (by simp) _
  have F0 := Lib.hid fin0
  clear fin0
  by_cases hv : (valid m && (valid o && (valid p && valid q))) = true
  · have hv' := hv
    simp only [Bool.and_eq_true] at hv'
    obtain ⟨v1, v2, v3, v4⟩ := hv'
    rw [if_pos hv] at HR
    clear hv
    cases hg : goodS m o
    · go_enter Tryz.func34, Tryz.ntmps34
      go_wp2_with (first | (go_at_call 13; refine (natural_Valid _ _).mono ?_; rintro e w' ⟨rfl, rfl⟩) | (go_at_call 50; refine (rsagroup_good _ _ _ (by omega)).mono ?_; rintro e w1 ⟨rfl, hb1⟩; have hcw1 := (bcell hb1).1))
      go_ret
      exact ⟨ret_int (by rw [HR.out, hg]; rfl), below2 F0.out hb1⟩
    · generalize (natMul p q).1 = ms at *
      generalize (natMul p q).2 = me at *
      by_cases he : me = 0
      · subst he
        cases hms : (ms.toList == m.toList)
        · go_enter Tryz.func34, Tryz.ntmps34
          go_wp2_with (first | (go_at_call 13; refine (natural_Valid _ _).mono ?_; rintro e w' ⟨rfl, rfl⟩) | (go_at_call 50; refine (rsagroup_good _ _ _ (by omega)).mono ?_; rintro e w1 ⟨rfl, hb1⟩; have hcw1 := (bcell hb1).1; have hs1 := hb1.size; have hq1 : w.heap.size < w1.heap.size := by { simp at hs1; omega }; have hq2 : w.heap.size + 1 < w1.heap.size := by { simp at hs1; omega }) | (go_at_call 39; refine (HMUL.out _).mono ?_; rintro e w2 ⟨rfl, hb2⟩; have hcw2 := (bcell hb2).1; have hs2 := hb2.size) | (go_at_call 38; refine (rsagroup_safe p q _ ((HT.out.below hb1).below hb2)).mono ?_; rintro e w3 ⟨rfl, hb3⟩))
          go_ret
          exact ⟨ret_int (by rw [HR.out, hg, hms]; simp), below2 (below2 F0.out hb1) hb2⟩
        · go_enter Tryz.func34, Tryz.ntmps34
          go_wp2_with (first | (go_at_call 13; refine (natural_Valid _ _).mono ?_; rintro e w' ⟨rfl, rfl⟩) | (go_at_call 50; refine (rsagroup_good _ _ _ (by omega)).mono ?_; rintro e w1 ⟨rfl, hb1⟩; have hcw1 := (bcell hb1).1; have hs1 := hb1.size; have hq1 : w.heap.size < w1.heap.size := by { simp at hs1; omega }; have hq2 : w.heap.size + 1 < w1.heap.size := by { simp at hs1; omega }) | (go_at_call 39; refine (HMUL.out _).mono ?_; rintro e w2 ⟨rfl, hb2⟩; have hcw2 := (bcell hb2).1; have hs2 := hb2.size) | (go_at_call 38; refine (rsagroup_safe p q _ ((HT.out.below hb1).below hb2)).mono ?_; rintro e w3 ⟨rfl, hb3⟩))
          go_ret
          exact ⟨ret_int (by rw [HR.out, hg, hms]; simp), below2 (below2 (below2 F0.out hb1) hb2) hb3⟩
      · have heb : (me != 0) = true := by rw [bne_iff_ne]; exact he
        have HE := Lib.hid he
        clear he
        go_enter Tryz.func34, Tryz.ntmps34
        go_wp2_with (first | (go_at_call 13; refine (natural_Valid _ _).mono ?_; rintro e w' ⟨rfl, rfl⟩) | (go_at_call 50; refine (rsagroup_good _ _ _ (by omega)).mono ?_; rintro e w1 ⟨rfl, hb1⟩; have hcw1 := (bcell hb1).1; have hs1 := hb1.size; have hq1 : w.heap.size < w1.heap.size := by { simp at hs1; omega }; have hq2 : w.heap.size + 1 < w1.heap.size := by { simp at hs1; omega }) | (go_at_call 39; refine (HMUL.out _).mono ?_; rintro e w2 ⟨rfl, hb2⟩; have hcw2 := (bcell hb2).1; have hs2 := hb2.size) | (go_at_call 38; refine (rsagroup_safe p q _ ((HT.out.below hb1).below hb2)).mono ?_; rintro e w3 ⟨rfl, hb3⟩))
        go_ret
        exact ⟨ret_int (by rw [HR.out, hg, if_pos rfl, if_neg (fun h => HE.out h.1)] <;> rfl), below2 (below2 F0.out hb1) hb2⟩
  · rw [if_neg hv] at HR
    cases v1 : valid m
    · clear hv
      go_enter Tryz.func34, Tryz.ntmps34
      go_wp2_with (first | (go_at_call 13; refine (natural_Valid _ _).mono ?_; rintro e w' ⟨rfl, rfl⟩) | (go_at_call 50; refine (rsagroup_good _ _ _ (by omega)).mono ?_; rintro e w1 ⟨rfl, hb1⟩; have hcw1 := (bcell hb1).1; have hs1 := hb1.size; have hq1 : w.heap.size < w1.heap.size := by { simp at hs1; omega }; have hq2 : w.heap.size + 1 < w1.heap.size := by { simp at hs1; omega }) | (go_at_call 39; refine (HMUL.out _).mono ?_; rintro e w2 ⟨rfl, hb2⟩; have hcw2 := (bcell hb2).1; have hs2 := hb2.size) | (go_at_call 38; refine (rsagroup_safe p q _ ((HT.out.below hb1).below hb2)).mono ?_; rintro e w3 ⟨rfl, hb3⟩))
      go_ret
      exact ⟨ret_int (by rw [HR.out] <;> rfl), F0.out⟩
    · cases v2 : valid o
      · clear hv
        go_enter Tryz.func34, Tryz.ntmps34
        go_wp2_with (first | (go_at_call 13; refine (natural_Valid _ _).mono ?_; rintro e w' ⟨rfl, rfl⟩) | (go_at_call 50; refine (rsagroup_good _ _ _ (by omega)).mono ?_; rintro e w1 ⟨rfl, hb1⟩; have hcw1 := (bcell hb1).1; have hs1 := hb1.size; have hq1 : w.heap.size < w1.heap.size := by { simp at hs1; omega }; have hq2 : w.heap.size + 1 < w1.heap.size := by { simp at hs1; omega }) | (go_at_call 39; refine (HMUL.out _).mono ?_; rintro e w2 ⟨rfl, hb2⟩; have hcw2 := (bcell hb2).1; have hs2 := hb2.size) | (go_at_call 38; refine (rsagroup_safe p q _ ((HT.out.below hb1).below hb2)).mono ?_; rintro e w3 ⟨rfl, hb3⟩))
        go_ret
        exact ⟨ret_int (by rw [HR.out] <;> rfl), F0.out⟩
      · cases v3 : valid p
        · clear hv
          go_enter Tryz.func34, Tryz.ntmps34
          go_wp2_with (first | (go_at_call 13; refine (natural_Valid _ _).mono ?_; rintro e w' ⟨rfl, rfl⟩) | (go_at_call 50; refine (rsagroup_good _ _ _ (by omega)).mono ?_; rintro e w1 ⟨rfl, hb1⟩; have hcw1 := (bcell hb1).1; have hs1 := hb1.size; have hq1 : w.heap.size < w1.heap.size := by { simp at hs1; omega }; have hq2 : w.heap.size + 1 < w1.heap.size := by { simp at hs1; omega }) | (go_at_call 39; refine (HMUL.out _).mono ?_; rintro e w2 ⟨rfl, hb2⟩; have hcw2 := (bcell hb2).1; have hs2 := hb2.size) | (go_at_call 38; refine (rsagroup_safe p q _ ((HT.out.below hb1).below hb2)).mono ?_; rintro e w3 ⟨rfl, hb3⟩))
          go_ret
          exact ⟨ret_int (by rw [HR.out] <;> rfl), F0.out⟩
        · cases v4 : valid q
          · clear hv
            go_enter Tryz.func34, Tryz.ntmps34
            go_wp2_with (first | (go_at_call 13; refine (natural_Valid _ _).mono ?_; rintro e w' ⟨rfl, rfl⟩) | (go_at_call 50; refine (rsagroup_good _ _ _ (by omega)).mono ?_; rintro e w1 ⟨rfl, hb1⟩; have hcw1 := (bcell hb1).1; have hs1 := hb1.size; have hq1 : w.heap.size < w1.heap.size := by { simp at hs1; omega }; have hq2 : w.heap.size + 1 < w1.heap.size := by { simp at hs1; omega }) | (go_at_call 39; refine (HMUL.out _).mono ?_; rintro e w2 ⟨rfl, hb2⟩; have hcw2 := (bcell hb2).1; have hs2 := hb2.size) | (go_at_call 38; refine (rsagroup_safe p q _ ((HT.out.below hb1).below hb2)).mono ?_; rintro e w3 ⟨rfl, hb3⟩))
            go_ret
            exact ⟨ret_int (by rw [HR.out] <;> rfl), F0.out⟩
          · exact absurd (by rw [v1, v2, v3, v4]; rfl) hv
end Go.Proofs.YtcpglhjmhegfmaaGreatDoor
namespace Go.Proofs.YtcpglhjmhegfmaaGreatDoor
open Go.RowKit
set_option maxRecDepth 100000
set_option linter.unusedVariables false
set_option maxHeartbeats 400000
/-- The order of the squares, or the error. -/
def orderS (p q : ByteArray) : ByteArray × Int :=
  if valid p && valid q then (if trapS p q = 0 then natMul (B ((num p - 1) / 2)) (B ((num q - 1) / 2)) else (E0, trapS p q)) else (E0, 3)
theorem safeS_zero {p : ByteArray} (h : (safeS p).2 = 0) (h1 : (safeS p).1 = true) : valid p = true ∧ 2 ≤ num p ∧ num p < 18446744073709551616 ∧ isS (num p) = true ∧ isS ((num p - 1) / 2) = true := by
  unfold safeS at h h1
  simp only [Bool.and_eq_true, decide_eq_true_eq] at h h1
  have hs := smallS_lt p
  unfold smallS at h h1 hs
  by_cases hv : valid p = true
  · rw [if_pos hv] at h h1 hs
    by_cases h8 : p.size ≤ 8
    · rw [if_pos h8] at h1 hs
      refine ⟨hv, ?_, hs, h1.2.1, h1.2.2⟩
      rcases Nat.lt_or_ge (num p) 2 with h2 | h2
      · have := isS_small h2
        rw [show isS (num p) = true from h1.2.1] at this
        cases this
      · exact h2
    · rw [if_neg h8] at h; cases h
  · rw [if_neg hv] at h; cases h
theorem trapS_zero {p q : ByteArray} (h : trapS p q = 0) : ((safeS p).2 = 0 ∧ (safeS p).1 = true) ∧ ((safeS q).2 = 0 ∧ (safeS q).1 = true) ∧ (p.toList == q.toList) = false := by
  unfold trapS at h
  by_cases h1 : (safeS p).2 = 0
  · by_cases h2 : (safeS q).2 = 0
    · rw [if_neg (by simpa using h1), if_neg (by simpa using h2)] at h
      split at h
      · rename_i h3
        simp only [Bool.and_eq_true, Bool.not_eq_true'] at h3
        exact ⟨⟨h1, h3.1⟩, ⟨h2, h3.2.1⟩, h3.2.2⟩
      · cases h
    · rw [if_neg (by simpa using h1), if_pos h2] at h; exact absurd h h2
  · rw [if_pos h1] at h; exact absurd h h1
set_option maxHeartbeats 1600000 in
theorem rsagroup_Order (p q : ByteArray) (w : World) (hT : Tab w) :
    Calls Tryz.prog 25 #[.agg #[.string p, .string q]] w fun e w' => e = .returned (.tuple #[.string (orderS p q).1, .int .i64 (orderS p q).2]) ∧ Below w.heap.size w w' := by
  have hr : orderS p q = if valid p && valid q then (if trapS p q = 0 then natMul (B ((num p - 1) / 2)) (B ((num q - 1) / 2)) else (E0, trapS p q)) else (E0, 3) := rfl
  have HR := Lib.hid hr
  have HT := Lib.hid (hT.alloc (.cells #[.string p, .string q] 29))
  clear hr hT
  have F0 := Lib.hid (show Below w.heap.size w (w.alloc (.cells #[.string p, .string q] 29)) from (Below.refl _ _).alloc (Nat.le_refl _) _)
  by_cases hv : (valid p && valid q) = true
  · have hv' := hv
    rw [Bool.and_eq_true] at hv'
    obtain ⟨v1, v2⟩ := hv'
    rw [if_pos hv] at HR
    clear hv
    by_cases ht : trapS p q = 0
    · obtain ⟨hp, hq, _⟩ := trapS_zero ht
      obtain ⟨_, p2, p3, _, _⟩ := safeS_zero hp.1 hp.2
      obtain ⟨_, q2, q3, _, _⟩ := safeS_zero hq.1 hq.2
      rw [if_pos ht] at HR
      have ep := B_num v1
      have eq := B_num v2
      have hmul := natural_Mul (B ((num p - 1) / 2)) (B ((num q - 1) / 2))
      rw [← HR.out] at hmul
      have HMUL := Lib.hid hmul
      have hhp := fun w => rsagroup_half (num p) w (by omega) p3
      have hhq := fun w => rsagroup_half (num q) w (by omega) q3
      rw [ep] at hhp
      rw [eq] at hhq
      have HHP := Lib.hid hhp
      have HHQ := Lib.hid hhq
      have hsf := rsagroup_safe p q
      rw [ht] at hsf
      have HSF := Lib.hid hsf
      clear hmul hhp hhq hsf ht hp hq p2 p3 q2 q3 ep eq
      go_enter Tryz.func25, Tryz.ntmps25
      go_wp2_with (first | (go_at_call 13; refine (natural_Valid _ _).mono ?_; rintro e w' ⟨rfl, rfl⟩) | (go_at_call 38; refine (HSF.out _ HT.out).mono ?_; rintro e w1 ⟨rfl, hb1⟩; have hcw1 := (bcell hb1).1; have hs1 := hb1.size; have hq1 : w.heap.size < w1.heap.size := by { simp at hs1; omega }))
      have hcell1 : w1.cell? ⟨w.heap.size, 1, none⟩ = some (.string q) := (hb1.cell (p := ⟨w.heap.size, 1, none⟩) (by simp)).trans (by simp)
      have hcell0 : w1.cell? ⟨w.heap.size, 0, none⟩ = some (.string p) := (hb1.cell (p := ⟨w.heap.size, 0, none⟩) (by simp)).trans (by simp)
      clear hcw1
      go_region_with (first | (go_at_call 40; (with_reducible refine (HHP.out _).mono ?_); rintro e w2 ⟨rfl, hb2⟩; have hcell2 : w2.cell? ⟨w.heap.size, 1, none⟩ = some (.string q) := (hb2.cell (p := ⟨w.heap.size, 1, none⟩) (by simpa using hq1)).trans hcell1) | (go_at_call 40; (with_reducible refine (HHQ.out _).mono ?_); rintro e w3 ⟨rfl, hb3⟩) | (go_at_call 39; refine (HMUL.out _).mono ?_; rintro e w4 ⟨rfl, hb4⟩))
      all_goals
        go_wp2_with fail
        go_ret2
        have b1 : Below w.heap.size w w1 := below2 F0.out hb1
        have b2 : Below w.heap.size w w2 := below2 (Below.drew b1) hb2
        have b3 : Below w.heap.size w w3 := below2 b2 hb3
        exact ⟨ret_se rfl rfl, below2 b3 hb4⟩
    · have hsf := rsagroup_safe p q
      have HSF := Lib.hid hsf
      have htb : (trapS p q != 0) = true := by rw [bne_iff_ne]; exact ht
      rw [if_neg ht] at HR
      clear hsf ht
      go_enter Tryz.func25, Tryz.ntmps25
      go_wp2_with (first | (go_at_call 13; refine (natural_Valid _ _).mono ?_; rintro e w' ⟨rfl, rfl⟩) | (go_at_call 38; refine (HSF.out _ HT.out).mono ?_; rintro e w1 ⟨rfl, hb1⟩))
      go_ret2
      exact ⟨ret_se (by rw [HR.out] <;> rfl) (by rw [HR.out] <;> rfl), below2 F0.out hb1⟩
  · rw [if_neg hv] at HR
    cases v1 : valid p
    · clear hv
      go_enter Tryz.func25, Tryz.ntmps25
      go_wp2_with (first | (go_at_call 13; refine (natural_Valid _ _).mono ?_; rintro e w' ⟨rfl, rfl⟩))
      go_ret2
      exact ⟨ret_se (by rw [HR.out] <;> rfl) (by rw [HR.out] <;> rfl), F0.out⟩
    · cases v2 : valid q
      · clear hv
        go_enter Tryz.func25, Tryz.ntmps25
        go_wp2_with (first | (go_at_call 13; refine (natural_Valid _ _).mono ?_; rintro e w' ⟨rfl, rfl⟩))
        go_ret2
        exact ⟨ret_se (by rw [HR.out] <;> rfl) (by rw [HR.out] <;> rfl), F0.out⟩
      · exact absurd (by rw [v1, v2]; rfl) hv
end Go.Proofs.YtcpglhjmhegfmaaGreatDoor
