/- The walks of package modular: plus, Add, Sub, Inverse. -/
import Derived.Test.YtapplggboepfaaaGreatDoorI6
import Derived.Test.YtapplggboepfaaaGreatDoorSA
import Derived.Test.YtapplggboepfaaaGreatDoorBM
namespace Go.Proofs.YtapplggboepfaaaGreatDoor
open Go.RowKit
set_option maxRecDepth 100000
set_option linter.unusedVariables false
set_option maxHeartbeats 1000000

theorem modular_plus (a b m : Nat) (w : World) (ha : a < m) (hb : b < m) (hm : m < 18446744073709551616) :
    Calls Tryz.prog 71 #[.string (B a), .string (B b), .string (B m)] w fun e w' => e = .returned (.string (B ((a + b) % m))) ∧ Below w.heap.size w w' := by
  have hl : ∀ x, x ≤ m + m → x < lim := fun x hx => k_lim (by omega)
  have KS := Lib.hid (fun w => natural_Sub' m b w (hl m (by omega)) (by omega))
  have KC := Lib.hid (fun w => natural_Cmp (B a) (B (m - b)) w)
  rw [natCmp_BB (hl a (by omega)) (hl (m - b) (by omega))] at KC
  obtain ⟨r, hr⟩ : ∃ r, m - b = r := ⟨_, rfl⟩
  rw [hr] at KS KC
  rcases Nat.lt_trichotomy a r with h | h | h
  · rw [cmpN_lt h] at KC
    rw [Nat.mod_eq_of_lt (show a + b < m by omega)]
    have KA := Lib.hid (fun w => natural_Add' a b w (hl a (by omega)) (hl b (by omega)) (hl _ (by omega)))
    clear ha hb hm hl hr h
    go_enter Tryz.func71, Tryz.ntmps71
    go_wp2_with (first
      | (go_at_call 73; (with_reducible refine (KS.out _).mono ?_); rintro e w1 ⟨rfl, hb1⟩; have HB1 := Lib.hid hb1; clear hb1)
      | (go_at_call 29; (with_reducible refine (KC.out _).mono ?_); rintro e w2 ⟨rfl, rfl⟩)
      | (go_at_call 101; (with_reducible refine (KA.out _).mono ?_); rintro e w3 ⟨rfl, hb3⟩; have HB3 := Lib.hid hb3; clear hb3))
    go_ret
    exact ⟨rfl, below2 HB1.out HB3.out⟩
  · rw [show cmpN a r = 0 by unfold cmpN; rw [if_neg (by omega), if_pos h]] at KC
    rw [show (a + b) % m = a - r by rw [show a + b = m by omega, Nat.mod_self]; omega]
    have KA := Lib.hid (fun w => natural_Sub' a r w (hl a (by omega)) (by omega))
    clear ha hb hm hl hr h
    go_enter Tryz.func71, Tryz.ntmps71
    go_wp2_with (first
      | (go_at_call 73; (with_reducible refine (KS.out _).mono ?_); rintro e w1 ⟨rfl, hb1⟩; have HB1 := Lib.hid hb1; clear hb1)
      | (go_at_call 29; (with_reducible refine (KC.out _).mono ?_); rintro e w2 ⟨rfl, rfl⟩)
      | (go_at_call 73; (with_reducible refine (KA.out _).mono ?_); rintro e w3 ⟨rfl, hb3⟩; have HB3 := Lib.hid hb3; clear hb3))
    go_ret
    exact ⟨rfl, below2 HB1.out HB3.out⟩
  · rw [cmpN_gt h] at KC
    rw [show (a + b) % m = a - r by rw [show a + b = (a - r) + m by omega, Nat.add_mod_right]; exact Nat.mod_eq_of_lt (by omega)]
    have KA := Lib.hid (fun w => natural_Sub' a r w (hl a (by omega)) (by omega))
    clear ha hb hm hl hr h
    go_enter Tryz.func71, Tryz.ntmps71
    go_wp2_with (first
      | (go_at_call 73; (with_reducible refine (KS.out _).mono ?_); rintro e w1 ⟨rfl, hb1⟩; have HB1 := Lib.hid hb1; clear hb1)
      | (go_at_call 29; (with_reducible refine (KC.out _).mono ?_); rintro e w2 ⟨rfl, rfl⟩)
      | (go_at_call 73; (with_reducible refine (KA.out _).mono ?_); rintro e w3 ⟨rfl, hb3⟩; have HB3 := Lib.hid hb3; clear hb3))
    go_ret
    exact ⟨rfl, below2 HB1.out HB3.out⟩
theorem modular_Add (x y m : Nat) (w : World) (hx : x < 18446744073709551616) (hy : y < 18446744073709551616) (hm : m < 18446744073709551616) (h0 : 0 < m) :
    Calls Tryz.prog 50 #[.string (B x), .string (B y), .string (B m)] w fun e w' => e = .returned (.tuple #[.string (B ((x + y) % m)), .int .i64 0]) ∧ Below w.heap.size w w' := by
  have hc := fun T1 T2 => modular_check21 (B x) (B y) (B m) T1 T2 w
  rw [checkErr21 (u64_lt_lim hx) (u64_lt_lim hy) (u64_lt_lim hm) (Nat.ne_of_gt h0)] at hc
  have HC := Lib.hid hc
  have K1 := Lib.hid (fun w => modular_reduced x m w hx hm h0)
  have K2 := Lib.hid (fun w => modular_reduced y m w hy hm h0)
  have K3 := Lib.hid (fun w => modular_plus (x % m) (y % m) m w (Nat.mod_lt _ h0) (Nat.mod_lt _ h0) hm)
  rw [← Nat.add_mod] at K3
  generalize x % m = a at K1 K3
  generalize y % m = b at K2 K3
  generalize (x + y) % m = c at K3 ⊢
  clear hc hx hy hm h0
  go_enter Tryz.func50, Tryz.ntmps50
  go_wp2_with (first
    | (go_at_call 69; refine (HC.out _ _).mono ?_; rintro e w1 ⟨rfl, hb1⟩; have HB1 := Lib.hid hb1; clear hb1)
    | (go_at_call 72; (with_reducible refine (K1.out _).mono ?_); rintro e w2 ⟨rfl, hb2⟩; have HB2 := Lib.hid (below2 HB1.out hb2); clear hb2)
    | (go_at_call 72; (with_reducible refine (K2.out _).mono ?_); rintro e w3 ⟨rfl, hb3⟩; have HB3 := Lib.hid (below2 HB2.out hb3); clear hb3)
    | (go_at_call 71; (with_reducible refine (K3.out _).mono ?_); rintro e w4 ⟨rfl, hb4⟩; have HB4 := Lib.hid (below2 HB3.out hb4); clear hb4))
  go_ret2
  exact ⟨rfl, HB4.out⟩
theorem modular_Sub (x y m : Nat) (w : World) (hx : x < 18446744073709551616) (hy : y < 18446744073709551616) (hm : m < 18446744073709551616) (h0 : 0 < m) :
    Calls Tryz.prog 52 #[.string (B x), .string (B y), .string (B m)] w fun e w' => e = .returned (.tuple #[.string (B ((x % m + (m - y % m)) % m)), .int .i64 0]) ∧ Below w.heap.size w w' := by
  have hc := fun T1 T2 => modular_check21 (B x) (B y) (B m) T1 T2 w
  rw [checkErr21 (u64_lt_lim hx) (u64_lt_lim hy) (u64_lt_lim hm) (Nat.ne_of_gt h0)] at hc
  have HC := Lib.hid hc
  have K1 := Lib.hid (fun w => modular_reduced x m w hx hm h0)
  have K2 := Lib.hid (fun w => modular_reduced y m w hy hm h0)
  have ha := Nat.mod_lt x h0
  have hb := Nat.mod_lt y h0
  generalize x % m = a at K1 ha ⊢
  generalize y % m = b at K2 hb ⊢
  have hl : m < lim := u64_lt_lim hm
  by_cases hz : b = 0
  · rw [show (a + (m - b)) % m = a by rw [hz, Nat.sub_zero, Nat.add_mod_right, Nat.mod_eq_of_lt ha]]
    subst hz
    have eB := B_isEmpty_true
    clear hc hx hy hm h0 ha hb hl
    go_enter Tryz.func52, Tryz.ntmps52
    go_wp2_with (first
      | (go_at_call 69; refine (HC.out _ _).mono ?_; rintro e w1 ⟨rfl, hb1⟩; have HB1 := Lib.hid hb1; clear hb1)
      | (go_at_call 72; (with_reducible refine (K1.out _).mono ?_); rintro e w2 ⟨rfl, hb2⟩; have HB2 := Lib.hid (below2 HB1.out hb2); clear hb2)
      | (go_at_call 72; (with_reducible refine (K2.out _).mono ?_); rintro e w3 ⟨rfl, hb3⟩; have HB3 := Lib.hid (below2 HB2.out hb3); clear hb3))
    go_ret2
    exact ⟨rfl, HB3.out⟩
  · have eB := B_isEmpty_false hz
    have K3 := Lib.hid (fun w => natural_Sub' m b w hl (Nat.le_of_lt hb))
    have K4 := Lib.hid (fun w => modular_plus a (m - b) m w ha (by omega) hm)
    generalize (a + (m - b)) % m = c at K4 ⊢
    generalize m - b = d at K3 K4
    clear hc hx hy hm h0 ha hb hl hz
    go_enter Tryz.func52, Tryz.ntmps52
    go_wp2_with (first
      | (go_at_call 69; refine (HC.out _ _).mono ?_; rintro e w1 ⟨rfl, hb1⟩; have HB1 := Lib.hid hb1; clear hb1)
      | (go_at_call 72; (with_reducible refine (K1.out _).mono ?_); rintro e w2 ⟨rfl, hb2⟩; have HB2 := Lib.hid (below2 HB1.out hb2); clear hb2)
      | (go_at_call 72; (with_reducible refine (K2.out _).mono ?_); rintro e w3 ⟨rfl, hb3⟩; have HB3 := Lib.hid (below2 HB2.out hb3); clear hb3)
      | (go_at_call 73; (with_reducible refine (K3.out _).mono ?_); rintro e w5 ⟨rfl, hb5⟩; have HB5 := Lib.hid (below2 HB3.out hb5); clear hb5)
      | (go_at_call 71; (with_reducible refine (K4.out _).mono ?_); rintro e w4 ⟨rfl, hb4⟩; have HB4 := Lib.hid (below2 HB5.out hb4); clear hb4))
    go_ret2
    exact ⟨rfl, HB4.out⟩
theorem modular_Inverse (s q : Nat) (w : World) (hs : s < 18446744073709551616) (hq : q < 18446744073709551616) (h2 : 2 ≤ q) :
    Calls Tryz.prog 53 #[.string (B s), .string (B q)] w fun e w' => (∃ er : Int, e = .returned (.tuple #[.string (B (invM s q)), .int .i64 er])) ∧ Below w.heap.size w w' := by
  have hc := fun T1 T2 => modular_check11 (B s) (B q) T1 T2 w
  rw [checkErr11 (u64_lt_lim hs) (u64_lt_lim hq) (by omega)] at hc
  have HC := Lib.hid hc
  have K1 := Lib.hid (fun w => modular_reduced s q w hs hq (by omega))
  have K2 := Lib.hid (fun w => integer_Extended (s % q) q w (Nat.lt_trans (Nat.mod_lt _ (by omega)) hq) hq (by omega))
  have HI : ∀ X Y : Int, 0 ≤ X → ((s % q : Nat) : Int) * X + q * Y = 1 → invM s q = X.natAbs % q := fun X Y h1 h => invM_ext h2 h1 h
  have HN := Lib.hid (@invM_none s q h2)
  generalize s % q = a at K1 K2 HI HN
  have HI := Lib.hid HI
  have HQ := Lib.hid (And.intro hq h2)
  generalize hG : Nat.gcd a q = g at K2 HN
  by_cases hg : g = 1
  · subst hg
    have k1 : ((B 1).toList == [1]) = true := by rw [B_beq1]; rfl
    clear hc hs hq h2 hG HN
    go_enter Tryz.func53, Tryz.ntmps53
    go_wp2_with (first
      | (go_at_call 69; refine (HC.out _ _).mono ?_; rintro e w1 ⟨rfl, hb1⟩; have HB1 := Lib.hid hb1; clear hb1)
      | (go_at_call 72; (with_reducible refine (K1.out _).mono ?_); rintro e w2 ⟨rfl, hb2⟩; have HB2 := Lib.hid (below2 HB1.out hb2); clear hb2)
      | (go_at_call 74; (with_reducible refine (K2.out _).mono ?_); rintro e w3 ⟨⟨X, Y, rfl, hX, hXY, hXb⟩, hb3⟩
         have HB3 := Lib.hid (below2 HB2.out hb3)
         have HR := Lib.hid (HI.out X Y hX (by rw [hXY]; rfl))
         have K3 := Lib.hid (fun w => modular_reduced X.natAbs q w (Nat.lt_of_le_of_lt hXb HQ.out.1) HQ.out.1 (by have := HQ.out.2; omega))
         rw [← HR.out] at K3
         clear hb3 hX hXY hXb
         unfold iz)
      | (go_at_call 72; (with_reducible refine (K3.out _).mono ?_); rintro e w4 ⟨rfl, hb4⟩; have HB4 := Lib.hid (below2 ((HB3.out.alloc HB3.out.size _).alloc (by have := HB3.out.size; simp; omega) _) hb4); clear hb4))
    go_ret2
    exact ⟨⟨0, rfl⟩, HB4.out⟩
  · rw [HN.out hg]
    have e1 : ((B g).toList == [1]) = false := by rw [B_beq1]; exact decide_eq_false hg
    clear hc hs hq h2 hG HN hg HI
    go_enter Tryz.func53, Tryz.ntmps53
    go_wp2_with (first
      | (go_at_call 69; refine (HC.out _ _).mono ?_; rintro e w1 ⟨rfl, hb1⟩; have HB1 := Lib.hid hb1; clear hb1)
      | (go_at_call 72; (with_reducible refine (K1.out _).mono ?_); rintro e w2 ⟨rfl, hb2⟩; have HB2 := Lib.hid (below2 HB1.out hb2); clear hb2)
      | (go_at_call 74; (with_reducible refine (K2.out _).mono ?_); rintro e w3 ⟨⟨X, Y, rfl, hX, hXY, hXb⟩, hb3⟩
         have HB3 := Lib.hid (below2 HB2.out hb3)
         clear hb3 hX hXY hXb
         unfold iz))
    go_ret2
    exact ⟨⟨9, rfl⟩, by first | exact HB3.out | exact (HB3.out.alloc HB3.out.size _).alloc (by have := HB3.out.size; simp; omega) _⟩

end Go.Proofs.YtapplggboepfaaaGreatDoor
