/- The walks of package prime: the test. -/
import Derived.Test.YtfggpgiinihflaaDoorP2
import Derived.Test.YtfggpgiinihflaaDoorPrime
import Derived.WalkMore
namespace Go.Proofs.YtfggpgiinihflaaDoor
open Go.RowKit
set_option maxRecDepth 100000
set_option linter.unusedVariables false
set_option maxHeartbeats 400000

theorem idx_bases (w : World) : ∀ k, k < 12 → (Instr.index 94 (.agg basesV) (.int .i64 (k : Nat))).run Tryd.prog w = .ok (.int .u64 (basesL.getD k 0 : Nat)) w
  | 0, _ => by kernel_rfl
  | 1, _ => by kernel_rfl
  | 2, _ => by kernel_rfl
  | 3, _ => by kernel_rfl
  | 4, _ => by kernel_rfl
  | 5, _ => by kernel_rfl
  | 6, _ => by kernel_rfl
  | 7, _ => by kernel_rfl
  | 8, _ => by kernel_rfl
  | 9, _ => by kernel_rfl
  | 10, _ => by kernel_rfl
  | 11, _ => by kernel_rfl
  | n + 12, h => absurd h (by omega)
theorem bits_TrailingZeros64' (z : Int) (x : Nat) (hz : z = x) (hx : x < 18446744073709551616) (h0 : x ≠ 0) (w : World) (hT : Tab w) :
    Calls Tryd.prog 65 #[.int .u64 z] w fun e w' => e = .returned (.int .i64 (Lib.ctz 64 x)) ∧ w = w' := by
  subst hz
  exact bits_TrailingZeros64 x hx h0 w hT
theorem prime_is (n : Nat) (w : World) (hn : n < 18446744073709551616) (hT : Tab w) :
    Calls Tryd.prog 55 #[.int .u64 n] w fun e w' => e = .returned (.bool (isS n)) ∧ Below w.heap.size w w' := by
  by_cases h2 : n < 2
  · have HR := Lib.hid (isS_small h2)
    go_enter Tryd.func55, Tryd.ntmps55
    go_wp2_with fail
    go_step3
    go_wp2_with fail
    rw [Exit.noGoto_ret]
    go_ret
    exact ⟨ret_bool HR.out.symm, Below.refl _ _⟩
  · have HN := Lib.hid hn
    have HT := Lib.hid hT
    clear hn hT
    go_enter Tryd.func55, Tryd.ntmps55
    go_wp2_with fail
    go_step3
    go_wp2_with (first | (go_at_call 64; refine (prime_bases _).mono ?_; rintro e w' ⟨rfl, hb1⟩))
    go_loopw [14] (fun c wr => ∃ k : Nat, k ≤ 12 ∧ c = .int .i64 k ∧ (∀ j, j < k → n % basesL.getD j 0 ≠ 0) ∧ wr = w') (fun c _ => 12 - (intOf c).toNat)
    case atStart => exact ⟨0, by omega, rfl, fun j h => absurd h (by omega), rfl⟩
    case round =>
      obtain ⟨k, hk, rfl, hall, rfl⟩ := hrel
      have HALL := Lib.hid hall
      clear hall
      by_cases hlt : k < 12
      · have hix := fun w => idx_bases w k hlt
        obtain ⟨hb2, hb37⟩ := base_pos k hlt
        obtain ⟨p, hp⟩ : ∃ p, basesL.getD k 0 = p := ⟨_, rfl⟩
        simp only [hp] at hix hb2 hb37
        have HP := Lib.hid hp
        clear hp
        by_cases hd : n % p = 0
        · have B1 : ((n : Int) % (p : Int) == 0) = true := by rw [beq_iff_eq]; omega
          have HD := Lib.hid hd
          clear hd
          go_wp2_with fail
          rw [Exit.noGoto_ret]
          go_ret
          refine ⟨ret_bool ?_, hb1⟩
          rw [isS_hit (by omega) hlt HALL.out (by rw [HP.out]; exact HD.out), HP.out]
          rw [Bool.eq_iff_iff, beq_iff_eq, beq_iff_eq]; omega
        · have B1 : ((n : Int) % (p : Int) == 0) = false := by rw [beq_eq_false_iff_ne]; omega
          have HD := Lib.hid hd
          clear hd
          go_wp2_with fail
          go_roundw
          case rel => exact ⟨k + 1, by omega, by go_num, fun j hj => by
            by_cases e : j = k
            · subst e; rw [HP.out]; exact HD.out
            · exact HALL.out j (by omega), trivial⟩
          case measure => simp [intOf]; omega
      · obtain rfl : k = 12 := by omega
        have hT1 := Lib.hid (HT.out.below hb1)
        obtain ⟨N, hN⟩ : ∃ N, n - 1 = N := ⟨_, rfl⟩
        have eN : ((n : Int) - 1) = (N : Int) := by omega
        have N1 : 1 ≤ N := by omega
        have htl := tz_lt (show 2 ≤ n by omega) HN.out
        have hNl := Lib.hid (show N < 18446744073709551616 by have := HN.out; omega)
        obtain ⟨t, ht⟩ : ∃ t, tz n = t := ⟨_, rfl⟩
        rw [ht] at htl
        obtain ⟨d, hd⟩ : ∃ d, oddPart n = d := ⟨_, rfl⟩
        have hd2 : d = N / 2 ^ t := by rw [← hd, ← hN, ← ht]; rfl
        have ed : ((N : Int) / 2 ^ t) = (d : Int) := by rw [hd2]; simp
        have hdl := Lib.hid (show d < 18446744073709551616 by rw [hd2]; exact Nat.lt_of_le_of_lt (Nat.div_le_self _ _) hNl.out)
        have eNw : IntKind.u64.wrap (N : Int) = (N : Int) := by have := hNl.out; rw [IntKind.wrap_u64]; omega
        have htz := Lib.hid (show Lib.ctz 64 N = t by rw [← ht, ← hN]; rfl)
        have HNN := Lib.hid hN
        have Ht := Lib.hid ht
        have Hd := Lib.hid hd
        clear hN ht hd hd2
        go_wp2_with (first | (go_at_call 65; (with_reducible refine (bits_TrailingZeros64' _ N (by first | rfl | omega) hNl.out (by omega) _ hT1.out).mono ?_); rintro e w' ⟨rfl, rfl⟩; rw [htz.out]) | (go_at_call 64; refine (prime_bases _).mono ?_; rintro e w2 ⟨rfl, hb2⟩))
        go_step3
        go_wp2_with (go_at_call 64; refine (prime_bases _).mono ?_; rintro e w2 ⟨rfl, hb2⟩)
        obtain ⟨wo, rfl⟩ : ∃ wo : World, wo = w2 := ⟨_, rfl⟩
        have HAL2 := Lib.hid HALL.out
        have hT2 := Lib.hid (hT1.out.below hb2)
        have hbw := Lib.hid (below2 hb1 hb2)
        clear hb1 hb2 hT1 HALL HT htz
        go_loopw [33] (fun c wr => ∃ k : Nat, k ≤ 12 ∧ c = .int .i64 k ∧ (∀ j, j < k → strongB n (basesL.getD j 0) = true) ∧ Below wo.heap.size wo wr) (fun c _ => 12 - (intOf c).toNat)
        case atStart => exact ⟨0, by omega, rfl, fun j h => absurd h (by omega), Below.refl _ _⟩
        case round =>
          obtain ⟨k, hk, rfl, hall, hbel⟩ := hrel
          have HALL := Lib.hid hall
          have hTr := Lib.hid (hT2.out.below hbel)
          clear hall
          by_cases hlt : k < 12
          · have hix := fun w => idx_bases w k hlt
            obtain ⟨hb2, hb37⟩ := base_pos k hlt
            obtain ⟨p, hp⟩ : ∃ p, basesL.getD k 0 = p := ⟨_, rfl⟩
            simp only [hp] at hix hb2 hb37
            obtain ⟨x0, hx0⟩ : ∃ x0, first n p = x0 := ⟨_, rfl⟩
            have hpow : ∀ w, Calls Tryd.prog 66 #[.int .u64 ((p : Int) % (n : Int)), .int .u64 d, .int .u64 n] w fun e w' => e = .returned (.int .u64 (x0 : Nat)) ∧ Below w.heap.size w w' := by
              intro w
              have := prime_pow (p % n) d n w (Nat.mod_lt _ (by omega)) hdl.out HN.out
              rw [show (p % n) ^ d % n = x0 by rw [← hx0, ← Hd.out]; rfl] at this
              rw [show ((p : Int) % (n : Int)) = ((p % n : Nat) : Int) by simp]
              exact this
            have HPOW := Lib.hid hpow
            have HP := Lib.hid hp
            have HX0 := Lib.hid hx0
            clear hp hpow hx0
            by_cases h1 : x0 = 1
            · subst h1
              have HST := Lib.hid (strong_one HX0.out)
              go_wp2_with (go_at_call 66; refine (HPOW.out _).mono ?_; rintro e w' ⟨rfl, hb3⟩)
              go_roundw
              case rel =>
                refine ⟨k + 1, by omega, by go_num, fun j hj => ?_, below2 hbel hb3⟩
                by_cases e : j = k
                · subst e; rw [HP.out]; exact HST.out
                · exact HALL.out j (by omega)
              case measure => simp [intOf]; omega
            · by_cases hl : x0 = N
              · subst hl
                have HST := Lib.hid (strong_last (by rw [HX0.out]; exact HNN.out.symm))
                go_wp2_with (go_at_call 66; refine (HPOW.out _).mono ?_; rintro e w' ⟨rfl, hb3⟩)
                go_roundw
                case rel =>
                  refine ⟨k + 1, by omega, by go_num, fun j hj => ?_, below2 hbel hb3⟩
                  by_cases e : j = k
                  · subst e; rw [HP.out]; exact HST.out
                  · exact HALL.out j (by omega)
                case measure => simp [intOf]; omega
              · have hxn := Lib.hid (show x0 < n by rw [← HX0.out]; exact Nat.mod_lt _ (by omega))
                have C1 : ((x0 : Int) == 1) = false := by rw [beq_eq_false_iff_ne]; omega
                have C2 : ((x0 : Int) == (N : Int)) = false := by rw [beq_eq_false_iff_ne]; omega
                have H1 := Lib.hid h1
                have H2 := Lib.hid hl
                clear h1 hl
                go_wp2_with (go_at_call 66; refine (HPOW.out _).mono ?_; rintro e w3 ⟨rfl, hb3⟩)
                obtain ⟨wi, rfl⟩ : ∃ wi : World, wi = w3 := ⟨_, rfl⟩
                go_loopw [9, 10] (fun vx c wr => ∃ i x : Nat, 1 ≤ i ∧ i ≤ 64 ∧ vx = .int .u64 x ∧ c = .int .i64 i ∧ x < n ∧ sqr n x0 (i - 1) = x ∧ (∀ j, 1 ≤ j → j < i → sqr n x0 j ≠ N) ∧ Below wi.heap.size wi wr) (fun _ c _ => 64 - (intOf c).toNat)
                case atStart => exact ⟨1, x0, by omega, by omega, rfl, rfl, hxn.out, sqr_zero hxn.out, fun j h1 h2 => absurd h2 (by omega), Below.refl _ _⟩
                case round =>
                  obtain ⟨i, x, hi1, hi64, rfl, rfl, hx, hsq, hnot, hbel3⟩ := hrel
                  have HX := Lib.hid hx
                  have HSQ := Lib.hid hsq
                  have HNOT := Lib.hid hnot
                  clear hx hsq hnot
                  by_cases hit : i < t
                  · obtain ⟨y, hy⟩ : ∃ y, x * x % n = y := ⟨_, rfl⟩
                    have hmul : ∀ w, Calls Tryd.prog 67 #[.int .u64 x, .int .u64 x, .int .u64 n] w fun e w' => e = .returned (.int .u64 (y : Nat)) ∧ Below w.heap.size w w' := by
                      intro w
                      rw [← hy]
                      exact prime_mul x x n w HX.out HX.out HN.out
                    have HMUL := Lib.hid hmul
                    have hsy := Lib.hid (show sqr n x0 i = y by rw [← hy, ← HSQ.out, sqr_succ, show i - 1 + 1 = i by omega])
                    have hyn := Lib.hid (show y < n by rw [← hy]; exact Nat.mod_lt _ (by omega))
                    clear hmul hy
                    by_cases hyl : y = N
                    · subst hyl
                      have HST := Lib.hid (strong_sqr (n := n) (a := p) hi1 (by rw [Ht.out]; exact hit) (by rw [HX0.out, hsy.out]; exact HNN.out.symm))
                      go_wp2_with (go_at_call 67; refine (HMUL.out _).mono ?_; rintro e w' ⟨rfl, hb4⟩)
                      go_roundw
                      case rel =>
                        refine ⟨k + 1, by omega, by go_num, fun j hj => ?_, below2 (below2 (below2 hbel hb3) hbel3) hb4⟩
                        by_cases e : j = k
                        · subst e; rw [HP.out]; exact HST.out
                        · exact HALL.out j (by omega)
                      case measure => simp [intOf]; omega
                    · have D1 : ((y : Int) == (N : Int)) = false := by rw [beq_eq_false_iff_ne]; omega
                      have HY := Lib.hid hyl
                      clear hyl
                      go_wp2_with (go_at_call 67; refine (HMUL.out _).mono ?_; rintro e w' ⟨rfl, hb4⟩)
                      go_roundw
                      case rel => exact ⟨i + 1, y, by omega, by omega, rfl, by go_num, hyn.out, by rw [Nat.add_sub_cancel]; exact hsy.out, fun j h1 h2 => by
                        by_cases e : j = i
                        · subst e; rw [hsy.out]; exact HY.out
                        · exact HNOT.out j h1 (by omega), below2 hbel3 hb4⟩
                      case measure => simp [intOf]; omega
                  · have HST := Lib.hid (strong_not (n := n) (a := p) (by rw [HX0.out]; exact H1.out) (by rw [HX0.out, HNN.out]; exact H2.out) (fun j h1 h2 => by rw [HX0.out, HNN.out]; exact HNOT.out j h1 (by rw [Ht.out] at h2; omega)))
                    go_wp2_with fail
                    rw [Exit.noGoto_ret]
                    go_ret
                    exact ⟨ret_bool (isS_no (by omega) HAL2.out hlt (by rw [HP.out]; exact HST.out)).symm, below2 (below2 (below2 hbw.out hbel) hb3) hbel3⟩
          · obtain rfl : k = 12 := by omega
            go_wp2_with fail
            rw [Exit.noGoto_ret]
            go_ret
            exact ⟨ret_bool (isS_yes (by omega) HAL2.out HALL.out).symm, below2 hbw.out hbel⟩

end Go.Proofs.YtfggpgiinihflaaDoor
