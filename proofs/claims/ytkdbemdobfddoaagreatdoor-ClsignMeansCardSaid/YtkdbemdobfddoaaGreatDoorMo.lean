/- The walks of package modular: plus, Add, Sub, Inverse. -/
import Derived.Test.YtkdbemdobfddoaaGreatDoorI6
import Derived.Test.YtkdbemdobfddoaaGreatDoorSA
import Derived.Test.YtkdbemdobfddoaaGreatDoorBM
namespace Go.Proofs.YtkdbemdobfddoaaGreatDoor
open Go.RowKit
set_option maxRecDepth 100000
set_option linter.unusedVariables false
set_option maxHeartbeats 1000000

theorem modular_Inverse (s q : Nat) (w : World) (hs : s < 18446744073709551616) (hq : q < 18446744073709551616) (h2 : 2 ≤ q) :
    Calls Tryz.prog 70 #[.string (B s), .string (B q)] w fun e w' => (∃ er : Int, e = .returned (.tuple #[.string (B (invM s q)), .int .i64 er])) ∧ Below w.heap.size w w' := by
  have hc := fun T1 T2 => modular_check11 (B s) (B q) T1 T2 w
  rw [checkErr11 (u64_lt_lim hs) (u64_lt_lim hq) (by omega)] at hc
  have HC := Lib.hid hc
  have K1 := Lib.hid (fun w => modular_reduced s q w hs hq (by omega))
  have K2 := Lib.hid (fun w => integer_Extended (s % q) q w (Nat.lt_trans (Nat.mod_lt _ (by omega)) hq) hq (by omega))
  have HI : ∀ X Y : Int, 0 ≤ X → ((s % q : Nat) : Int) * X + q * Y = 1 → invM s q = X.natAbs % q := fun X Y h1 h => invM_ext h2 h1 h
  have HN := Lib.hid (@invM_none s q h2)
  generalize s % q = a at K1 K2 HI HN
  have HI := Lib.hid HI
  have HQ := Lib.hid (And.intro hq h2)
  generalize hG : Nat.gcd a q = g at K2 HN
  by_cases hg : g = 1
  · subst hg
    have k1 : ((B 1).toList == [1]) = true := by rw [B_beq1]; rfl
    clear hc hs hq h2 hG HN
    go_enter Tryz.func70, Tryz.ntmps70
    go_wp2_with (first
      | (go_at_call 131; refine (HC.out _ _).mono ?_; rintro e w1 ⟨rfl, hb1⟩; have HB1 := Lib.hid hb1; clear hb1)
      | (go_at_call 133; (with_reducible refine (K1.out _).mono ?_); rintro e w2 ⟨rfl, hb2⟩; have HB2 := Lib.hid (below2 HB1.out hb2); clear hb2)
      | (go_at_call 132; (with_reducible refine (K2.out _).mono ?_); rintro e w3 ⟨⟨X, Y, rfl, hX, hXY, hXb⟩, hb3⟩
         have HB3 := Lib.hid (below2 HB2.out hb3)
         have HR := Lib.hid (HI.out X Y hX (by rw [hXY]; rfl))
         have K3 := Lib.hid (fun w => modular_reduced X.natAbs q w (Nat.lt_of_le_of_lt hXb HQ.out.1) HQ.out.1 (by have := HQ.out.2; omega))
         rw [← HR.out] at K3
         clear hb3 hX hXY hXb
         unfold iz)
      | (go_at_call 133; (with_reducible refine (K3.out _).mono ?_); rintro e w4 ⟨rfl, hb4⟩; have HB4 := Lib.hid (below2 ((HB3.out.alloc HB3.out.size _).alloc (by have := HB3.out.size; simp; omega) _) hb4); clear hb4))
    go_ret2
    exact ⟨⟨0, rfl⟩, HB4.out⟩
  · rw [HN.out hg]
    have e1 : ((B g).toList == [1]) = false := by rw [B_beq1]; exact decide_eq_false hg
    clear hc hs hq h2 hG HN hg HI
    go_enter Tryz.func70, Tryz.ntmps70
    go_wp2_with (first
      | (go_at_call 131; refine (HC.out _ _).mono ?_; rintro e w1 ⟨rfl, hb1⟩; have HB1 := Lib.hid hb1; clear hb1)
      | (go_at_call 133; (with_reducible refine (K1.out _).mono ?_); rintro e w2 ⟨rfl, hb2⟩; have HB2 := Lib.hid (below2 HB1.out hb2); clear hb2)
      | (go_at_call 132; (with_reducible refine (K2.out _).mono ?_); rintro e w3 ⟨⟨X, Y, rfl, hX, hXY, hXb⟩, hb3⟩
         have HB3 := Lib.hid (below2 HB2.out hb3)
         clear hb3 hX hXY hXb
         unfold iz))
    go_ret2
    exact ⟨⟨9, rfl⟩, by first | exact HB3.out | exact (HB3.out.alloc HB3.out.size _).alloc (by have := HB3.out.size; simp; omega) _⟩

end Go.Proofs.YtkdbemdobfddoaaGreatDoor
