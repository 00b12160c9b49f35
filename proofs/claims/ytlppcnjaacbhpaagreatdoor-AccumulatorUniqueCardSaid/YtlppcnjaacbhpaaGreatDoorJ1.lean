/- The walks of package modular: the symbol of Jacobi. -/
import Derived.Test.YtlppcnjaacbhpaaGreatDoorM1
import Derived.Test.YtlppcnjaacbhpaaGreatDoorJac
namespace Go.Proofs.YtlppcnjaacbhpaaGreatDoor
open Go.RowKit
set_option maxRecDepth 100000
set_option linter.unusedVariables false
set_option maxHeartbeats 400000

theorem modular_low' (x d : Nat) (w : World) (hx : x < 18446744073709551616) (hd : Hid (x % 8 = d)) :
    Calls Tryz.prog 124 #[.string (B x)] w fun e w' => e = .returned (.int .i64 ((d : Nat) : Int)) ∧ w = w' := by
  have := modular_low x w (Nat.le_trans (B_size_le'.2 hx) (by decide : 8 ≤ 100000))
  rw [hd.out] at this
  exact this
theorem B_beq1 (n : Nat) : ((B n).toList == [1]) = decide (n = 1) := by
  rw [← B_beq n 1, ByteArray.toList_eq (B 1)]; rfl
theorem B_beq' (x y : Nat) : ((B x).toList == (B y).toList) = decide (x = y) := B_beq x y
set_option maxHeartbeats 2000000 in
theorem modular_Jacobi (x y : Nat) (w : World) (hx : x < 18446744073709551616) (hy : y < 18446744073709551616) (hodd : y % 2 = 1) :
    Calls Tryz.prog 97 #[.string (B x), .string (B y)] w fun e w' => e = .returned (.tuple #[.int .i64 (jacS x y), .int .i64 0]) ∧ Below w.heap.size w w' := by
  have hc := fun T1 T2 => modular_check11 (B x) (B y) T1 T2 w
  rw [checkErr11 (u64_lt_lim hx) (u64_lt_lim hy) (by omega)] at hc
  have HC := Lib.hid hc
  obtain ⟨d0, hd0⟩ : ∃ d, y % 8 = d := ⟨_, rfl⟩
  have hd1 : ((d0 : Int) % 2 == 0) = false := by rw [beq_eq_false_iff_ne]; omega
  have hd8 : d0 < 8 := by omega
  have HD0 := Lib.hid hd0
  have HY := Lib.hid hy
  have HR := Lib.hid (fun w => modular_reduced x y w hx hy (by omega))
  have HO := Lib.hid hodd
  have HX := Lib.hid hx
  clear hc hd0 hy hx hodd
  go_enter Tryz.func97, Tryz.ntmps97
  go_wp2_with (first | (go_at_call 102; refine (HC.out _ _).mono ?_; rintro e w1 ⟨rfl, hb1⟩) | (go_at_call 124; (with_reducible refine (modular_low' y d0 _ HY.out HD0).mono ?_); rintro e w2 ⟨rfl, rfl⟩) | (go_at_call 104; refine (HR.out _).mono ?_; rintro er w3 ⟨rfl, hb3⟩))
  have b0 := below2 hb1 hb3
  have B0 := Lib.hid b0
  clear hb1 hb3 b0 hd1
  obtain ⟨wo, rfl⟩ : ∃ wo : World, wo = w3 := ⟨_, rfl⟩
  go_loopw [0, 1, 7] (fun v0 v1 v7 wr => ∃ (a n f : Nat) (s : Int), v0 = .string (B a) ∧ v1 = .string (B n) ∧ v7 = .int .i64 s ∧ a < 18446744073709551616 ∧ n < 18446744073709551616 ∧ n % 2 = 1 ∧ -1 ≤ s ∧ s ≤ 1 ∧ a < f ∧ jacOut f a n s = jacS x y ∧ Below wo.heap.size wo wr) (fun v0 _ _ _ => strNum v0)
  case atStart => exact ⟨x % y, y, x % y + 1, 1, rfl, rfl, rfl, Nat.lt_of_le_of_lt (Nat.mod_le _ _) HX.out, HY.out, HO.out, by omega, by omega, by omega, rfl, Below.refl _ _⟩
  case round =>
    obtain ⟨a, n, f, s, rfl, rfl, rfl, ha, hn, hno, hs1, hs2, haf, hj, hbel⟩ := hrel
    have HA := Lib.hid ha
    have HN := Lib.hid hn
    have HNO := Lib.hid hno
    have HJ := Lib.hid hj
    clear ha hn hno hj
    by_cases hz : a = 0
    · subst hz
      have he := B_isEmpty_true
      have hj0 : (if n = 1 then s else 0) = jacS x y := by
        rw [← HJ.out]
        obtain ⟨f', rfl⟩ : ∃ f', f = f' + 1 := ⟨f - 1, by omega⟩
        rfl
      have HJ0 := Lib.hid hj0
      clear hj0
      by_cases h1 : n = 1
      · subst h1
        have hb : ((B 1).toList == [1]) = true := B_beq1 1
        go_wp2_with fail
        go_ret2
        exact ⟨ret_ie (by rw [← HJ0.out]; rfl) rfl, below2 B0.out hbel⟩
      · have hb := B_beq1 n
        rw [decide_eq_false h1] at hb
        have HE := Lib.hid h1
        clear h1
        go_wp2_with fail
        go_ret2
        exact ⟨ret_ie (by rw [← HJ0.out, if_neg HE.out] <;> rfl) rfl, below2 B0.out hbel⟩
    · have he := B_isEmpty_false hz
      obtain ⟨f', rfl⟩ : ∃ f', f = f' + 1 := ⟨f - 1, by omega⟩
      obtain ⟨b, hb⟩ : ∃ b, (jacIn a a n s).1 = b := ⟨_, rfl⟩
      obtain ⟨t, ht⟩ : ∃ t, (jacIn a a n s).2 = t := ⟨_, rfl⟩
      have hj1 : jacOut f' (n % b) b (if b % 4 = 3 ∧ n % 4 = 3 then -t else t) = jacS x y := by
        rw [← HJ.out, ← hb, ← ht]
        conv => rhs; unfold jacOut
        rw [if_neg hz]
      have hin : jacIn a a n s = (b, t) := by rw [← hb, ← ht]
      have HJ1 := Lib.hid hj1
      have HIN := Lib.hid hin
      obtain ⟨e, hde⟩ : ∃ d, n % 8 = d := ⟨_, rfl⟩
      have he8 : e < 8 := by omega
      have HDE := Lib.hid hde
      have HZ := Lib.hid hz
      clear hj1 hin hb ht hde HJ
      obtain ⟨wi, rfl⟩ : ∃ wi : World, wi = wr := ⟨_, rfl⟩
      go_wp2_with fail
      go_loopw [0, 7] (fun v0 v7 wr2 => ∃ (c g : Nat) (u : Int), v0 = .string (B c) ∧ v7 = .int .i64 u ∧ 0 < c ∧ c ≤ a ∧ c ≤ g ∧ -1 ≤ u ∧ u ≤ 1 ∧ jacIn g c n u = (b, t) ∧ Below wi.heap.size wi wr2) (fun v0 _ _ => strNum v0)
      case atStart => exact ⟨a, a, s, rfl, rfl, by omega, by omega, by omega, hs1, hs2, HIN.out, Below.refl _ _⟩
      case round =>
        obtain ⟨c, g, u, rfl, rfl, hc0, hca, hcg, hu1, hu2, hji, hbel2⟩ := hrel
        have HJI := Lib.hid hji
        have HC1 := Lib.hid (Nat.lt_of_le_of_lt hca HA.out)
        clear hji
        obtain ⟨d, hd⟩ : ∃ d, c % 8 = d := ⟨_, rfl⟩
        have hd8 : d < 8 := by omega
        have HDD := Lib.hid hd
        by_cases hev : c % 2 = 0
        · have D1 : ((d : Int) % 2 == 0) = true := by rw [beq_iff_eq]; omega
          have HDIV := Lib.hid (fun w => natural_DivMod' c 2 w HC1.out (by decide) (by decide))
          have e2 : (⟨#[2]⟩ : ByteArray) = B 2 := rfl
          have E2 := Lib.hid e2
          have HEV := Lib.hid hev
          clear hd hev e2
          by_cases h3 : e = 3
          · have K3 : ((e : Int) == 3) = true := by rw [beq_iff_eq]; omega
            have h35 : e = 3 ∨ e = 5 := .inl h3
            have H35 := Lib.hid h35
            clear h3 h35
            go_wp2_with (first | (go_at_call 124; (with_reducible refine (modular_low' c d _ HC1.out HDD).mono ?_); rintro er w' ⟨rfl, rfl⟩) | (go_at_call 124; (with_reducible refine (modular_low' n e _ HN.out HDE).mono ?_); rintro er w' ⟨rfl, rfl⟩) | (go_at_call 72; (rw [E2.out]; refine (HDIV.out _).mono ?_); rintro er w3 ⟨rfl, hb3⟩))
            go_roundw
            case rel =>
              obtain ⟨g', rfl⟩ : ∃ g', g = g' + 1 := ⟨g - 1, by omega⟩
              exact ⟨c / 2, g', -u, by rfl, by rfl, by have := HEV.out; omega, by omega, by omega, by omega, by omega, by rw [← HJI.out, jacIn_even HEV.out, HDE.out, if_pos H35.out], below2 hbel2 hb3⟩
            case measure => simp only [strNum, num_B]; omega
          · have K3 : ((e : Int) == 3) = false := by rw [beq_eq_false_iff_ne]; omega
            by_cases h5 : e = 5
            · have K5 : ((e : Int) == 5) = true := by rw [beq_iff_eq]; omega
              have h35 : e = 3 ∨ e = 5 := .inr h5
              have H35 := Lib.hid h35
              clear h3 h5 h35
              go_wp2_with (first | (go_at_call 124; (with_reducible refine (modular_low' c d _ HC1.out HDD).mono ?_); rintro er w' ⟨rfl, rfl⟩) | (go_at_call 124; (with_reducible refine (modular_low' n e _ HN.out HDE).mono ?_); rintro er w' ⟨rfl, rfl⟩) | (go_at_call 72; (rw [E2.out]; refine (HDIV.out _).mono ?_); rintro er w3 ⟨rfl, hb3⟩))
              go_roundw
              case rel =>
                obtain ⟨g', rfl⟩ : ∃ g', g = g' + 1 := ⟨g - 1, by omega⟩
                exact ⟨c / 2, g', -u, by rfl, by rfl, by have := HEV.out; omega, by omega, by omega, by omega, by omega, by rw [← HJI.out, jacIn_even HEV.out, HDE.out, if_pos H35.out], below2 hbel2 hb3⟩
              case measure => simp only [strNum, num_B]; omega
            · have K5 : ((e : Int) == 5) = false := by rw [beq_eq_false_iff_ne]; omega
              have h35 : ¬ (e = 3 ∨ e = 5) := by omega
              have H35 := Lib.hid h35
              clear h3 h5 h35
              go_wp2_with (first | (go_at_call 124; (with_reducible refine (modular_low' c d _ HC1.out HDD).mono ?_); rintro er w' ⟨rfl, rfl⟩) | (go_at_call 124; (with_reducible refine (modular_low' n e _ HN.out HDE).mono ?_); rintro er w' ⟨rfl, rfl⟩) | (go_at_call 72; (rw [E2.out]; refine (HDIV.out _).mono ?_); rintro er w3 ⟨rfl, hb3⟩))
              go_roundw
              case rel =>
                obtain ⟨g', rfl⟩ : ∃ g', g = g' + 1 := ⟨g - 1, by omega⟩
                exact ⟨c / 2, g', u, by rfl, by rfl, by have := HEV.out; omega, by omega, by omega, by omega, by omega, by rw [← HJI.out, jacIn_even HEV.out, HDE.out, if_neg H35.out], below2 hbel2 hb3⟩
              case measure => simp only [strNum, num_B]; omega
        · have D1 : ((d : Int) % 2 == 0) = false := by rw [beq_eq_false_iff_ne]; omega
          have hcb : c = b ∧ u = t := by
            have := HJI.out
            rw [jacIn_odd hev] at this
            exact ⟨(Prod.mk.injEq _ _ _ _ ▸ this).1, (Prod.mk.injEq _ _ _ _ ▸ this).2⟩
          obtain ⟨rfl, rfl⟩ := hcb
          have D4 : d % 4 = c % 4 := by omega
          have HRED := Lib.hid (fun w => modular_reduced n c w HN.out HC1.out hc0)
          have HD4 := Lib.hid D4
          have HE4 := Lib.hid (show e % 4 = n % 4 by have := HDE.out; omega)
          have hnm := Lib.hid (show n % c < c from Nat.mod_lt _ hc0)
          have HCO := Lib.hid (show c % 2 = 1 by omega)
          clear hd hev D4
          by_cases h34 : d % 4 = 3
          · have K1 : ((d : Int) % 4 == 3) = true := by rw [beq_iff_eq]; omega
            by_cases h43 : e % 4 = 3
            · have K2 : ((e : Int) % 4 == 3) = true := by rw [beq_iff_eq]; omega
              have HCC := Lib.hid (show c % 4 = 3 ∧ n % 4 = 3 by rw [← HD4.out, ← HE4.out]; exact ⟨h34, h43⟩)
              clear h34 h43
              go_wp2_with (first | (go_at_call 124; (with_reducible refine (modular_low' c d _ HC1.out HDD).mono ?_); rintro er w' ⟨rfl, rfl⟩) | (go_at_call 124; (with_reducible refine (modular_low' n e _ HN.out HDE).mono ?_); rintro er w' ⟨rfl, rfl⟩) | (go_at_call 104; refine (HRED.out _).mono ?_; rintro er w3 ⟨rfl, hb3⟩))
              go_roundw
              case rel => exact ⟨n % c, c, f', -u, rfl, rfl, by rfl, Nat.lt_trans hnm.out HC1.out, HC1.out, HCO.out, by omega, by omega, by have := hnm.out; omega, by rw [← HJ1.out, if_pos HCC.out], below2 (below2 hbel hbel2) hb3⟩
              case measure => simp only [strNum, num_B]; exact Nat.lt_of_lt_of_le hnm.out hca
            · have K2 : ((e : Int) % 4 == 3) = false := by rw [beq_eq_false_iff_ne]; omega
              have HCC := Lib.hid (show ¬ (c % 4 = 3 ∧ n % 4 = 3) by rw [← HD4.out, ← HE4.out]; exact fun h => h43 h.2)
              clear h34 h43
              go_wp2_with (first | (go_at_call 124; (with_reducible refine (modular_low' c d _ HC1.out HDD).mono ?_); rintro er w' ⟨rfl, rfl⟩) | (go_at_call 124; (with_reducible refine (modular_low' n e _ HN.out HDE).mono ?_); rintro er w' ⟨rfl, rfl⟩) | (go_at_call 104; refine (HRED.out _).mono ?_; rintro er w3 ⟨rfl, hb3⟩))
              go_roundw
              case rel => exact ⟨n % c, c, f', u, rfl, rfl, by rfl, Nat.lt_trans hnm.out HC1.out, HC1.out, HCO.out, by omega, by omega, by have := hnm.out; omega, by rw [← HJ1.out, if_neg HCC.out], below2 (below2 hbel hbel2) hb3⟩
              case measure => simp only [strNum, num_B]; exact Nat.lt_of_lt_of_le hnm.out hca
          · have K1 : ((d : Int) % 4 == 3) = false := by rw [beq_eq_false_iff_ne]; omega
            have HCC := Lib.hid (show ¬ (c % 4 = 3 ∧ n % 4 = 3) by rw [← HD4.out, ← HE4.out]; exact fun h => h34 h.1)
            clear h34
            go_wp2_with (first | (go_at_call 124; (with_reducible refine (modular_low' c d _ HC1.out HDD).mono ?_); rintro er w' ⟨rfl, rfl⟩) | (go_at_call 124; (with_reducible refine (modular_low' n e _ HN.out HDE).mono ?_); rintro er w' ⟨rfl, rfl⟩) | (go_at_call 104; refine (HRED.out _).mono ?_; rintro er w3 ⟨rfl, hb3⟩))
            go_roundw
            case rel => exact ⟨n % c, c, f', u, rfl, rfl, by rfl, Nat.lt_trans hnm.out HC1.out, HC1.out, HCO.out, by omega, by omega, by have := hnm.out; omega, by rw [← HJ1.out, if_neg HCC.out], below2 (below2 hbel hbel2) hb3⟩
            case measure => simp only [strNum, num_B]; exact Nat.lt_of_lt_of_le hnm.out hca

end Go.Proofs.YtlppcnjaacbhpaaGreatDoor
