/- The walks of the reference's package 09 on canonical numbers of at most 8 bytes: form, divides, Check, Has, IsGenerator. -/
import Derived.Test.YtdajbcohmnmbpaaGreatDoorPA
import Derived.Test.YtdajbcohmnmbpaaGreatDoorRB
import Derived.Test.YtdajbcohmnmbpaaGreatDoorRA
import Derived.Test.YtdajbcohmnmbpaaGreatDoorR8
import Derived.Test.YtdajbcohmnmbpaaGreatDoorSE
namespace Go.Proofs.YtdajbcohmnmbpaaGreatDoor
open Go.RowKit
set_option maxRecDepth 100000
set_option linter.unusedVariables false
set_option maxHeartbeats 4000000

theorem r09_formN (M q : Nat) (w : World) (hM : M < lim) (hq : q < lim) :
    Calls Tryz.prog 206 #[.agg #[.string (B M), .string (B q)]] w fun e w' => e = .returned (.bool true) ∧ Below w.heap.size w w' := by
  have KV := Lib.hid (fun w => r01_Valid (B M) w)
  have KW := Lib.hid (fun w => r01_Valid (B q) w)
  rw [valid_B hM] at KV
  rw [valid_B hq] at KW
  have HA0 := Lib.hid (BoxG.start w (B M) (B q))
  clear hM hq
  go_enter Tryz.func206, Tryz.ntmps206
  go_wp2_with (first
    | (go_at_call 117; (with_reducible refine (KV.out _).mono ?_); rintro e w1 ⟨rfl, rfl⟩)
    | (go_at_call 117; (with_reducible refine (KW.out _).mono ?_); rintro e w1 ⟨rfl, rfl⟩))
  go_ret
  exact ⟨rfl, HA0.out.bel⟩
theorem r09_divides (M q : Nat) (w : World) (hM : M < 18446744073709551616) (hq : q < 18446744073709551616) (h1 : 1 ≤ M) (h0 : 0 < q) :
    Calls Tryz.prog 207 #[.agg #[.string (B M), .string (B q)]] w fun e w' => e = .returned (.bool (decide ((M - 1) % q = 0))) ∧ Below w.heap.size w w' := by
  have hsM : (B M).size ≤ 200 := by have := B_size_le'.2 (show M < 256 ^ 8 from hM); omega
  have KS := Lib.hid (fun w => r01_Minus M 1 w hsM (by decide) h1)
  rw [show B 1 = (⟨#[1]⟩ : ByteArray) from rfl] at KS
  obtain ⟨N, hN⟩ : ∃ N, N = M - 1 := ⟨_, rfl⟩
  rw [← hN] at KS ⊢
  have KD := Lib.hid (fun w => r01_Over N q w (u64_lt_lim (by omega)) (u64_lt_lim hq) h0)
  obtain ⟨r, hr⟩ : ∃ r, r = N % q := ⟨_, rfl⟩
  obtain ⟨k, hk⟩ : ∃ k, k = N / q := ⟨_, rfl⟩
  rw [← hk, ← hr] at KD
  rw [← hr]
  have e1 : (B M).toList.isEmpty = false := B_isEmpty_false (by omega)
  have e2 : (B r).toList.isEmpty = decide (r = 0) := B_isEmpty r
  have HA0 := Lib.hid (BoxG.start w (B M) (B q))
  obtain ⟨c0, c1, _, _⟩ := HA0.out
  clear hM hq h1 h0 hN hk hr hsM
  go_enter Tryz.func207, Tryz.ntmps207
  go_wp2_with fail
  go_region_held3 (fun w' => w'.cell? ⟨w.heap.size, 0, none⟩ = some (.string (B M)) ∧ w'.cell? ⟨w.heap.size, 1, none⟩ = some (.string (B q))) (first | go_keep) (first
    | (go_at_call 191; (with_reducible refine (KS.out _).mono ?_); rintro e w1 ⟨rfl, hb1⟩
       have HA1 : Hid (BoxG w w1 (B M) (B q)) := by first | exact Lib.hid (HA0.out.next hb1) | exact Lib.hid ((HA0.out.next (Below.refl _ _).drew).next hb1)
       obtain ⟨c0, c1, _, _⟩ := HA1.out
       clear hb1)
    | (go_at_call 167; (with_reducible refine (KD.out _).mono ?_); rintro e w2 ⟨rfl, hb2⟩
       have HA2 : Hid (BoxG w w2 (B M) (B q)) := by first | exact Lib.hid (HA1.out.next hb2) | exact Lib.hid ((HA1.out.next (Below.refl _ _).drew).next hb2)
       obtain ⟨c0, c1, _, _⟩ := HA2.out
       clear hb2))
  all_goals
    go_wp2_with fail
    go_ret
    exact ⟨rfl, HA2.out.bel⟩
theorem r04_Is_B (n : Nat) (w : World) (hn : n < 18446744073709551616) : Calls Tryz.prog 89 #[.string (B n)] w fun e w' => e = .returned (.tuple #[.bool (isS n), .int .i64 0]) ∧ Below w.heap.size w w' := by
  have := r04_Is (B n) w
  have hsm : smallS (B n) = (n, 0) := by unfold smallS; rw [valid_B (Nat.lt_trans hn (by decide)), if_pos rfl, if_pos (B_size_le'.2 (Nat.lt_of_lt_of_le hn (by decide))), num_B]
  have e : isPS (B n) = (isS n, 0) := by unfold isPS; rw [hsm]; simp
  rw [e] at this
  exact this
theorem r09_Check (M q : Nat) (w : World) (hM : M < 18446744073709551616) (hq : q < 18446744073709551616) :
    Calls Tryz.prog 155 #[.agg #[.string (B M), .string (B q)]] w fun e w' => e = .returned (.int .i64 (pgN M q)) ∧ Below w.heap.size w w' := by
  have KF := Lib.hid (fun w => r09_formN M q w (u64_lt_lim hM) (u64_lt_lim hq))
  have KM := Lib.hid (fun wq => r04_Is_B M wq hM)
  have KQ := Lib.hid (fun wq => r04_Is_B q wq hq)
  have l1 : decide ((8 : Int) < ((B M).size : Int)) = false := by rw [decide_eq_false_iff_not]; have := B_size_le'.2 (show M < 256 ^ 8 from hM); omega
  have l2 : decide ((8 : Int) < ((B q).size : Int)) = false := by rw [decide_eq_false_iff_not]; have := B_size_le'.2 (show q < 256 ^ 8 from hq); omega
  have HA0 := Lib.hid (BoxG.start w (B M) (B q))
  cases sM : isS M
  · have hr : pgN M q = 12 := by unfold pgN; rw [sM]; rfl
    rw [hr]
    rw [sM] at KM
    clear hM hq sM hr
    go_enter Tryz.func155, Tryz.ntmps155
    go_wp2_with (first
      | (go_at_call 206; (with_reducible refine (KF.out _).mono ?_); rintro e w1 ⟨rfl, hb1⟩
         have HA1 := Lib.hid (HA0.out.next hb1)
         obtain ⟨c0, c1, _, _⟩ := HA1.out
         clear hb1)
      | (go_at_call 89; (with_reducible refine (KM.out _).mono ?_); rintro e w2 ⟨rfl, hb2⟩
         have HA2 := Lib.hid (HA1.out.next hb2)
         clear hb2))
    go_ret
    exact ⟨rfl, HA2.out.bel⟩
  · rw [sM] at KM
    cases sq : isS q
    · have hr : pgN M q = 12 := by unfold pgN; rw [sM, sq]; rfl
      rw [hr]
      rw [sq] at KQ
      clear hM hq sM sq hr
      go_enter Tryz.func155, Tryz.ntmps155
      go_wp2_with (first
        | (go_at_call 206; (with_reducible refine (KF.out _).mono ?_); rintro e w1 ⟨rfl, hb1⟩
           have HA1 := Lib.hid (HA0.out.next hb1)
           obtain ⟨c0, c1, _, _⟩ := HA1.out
           clear hb1)
        | (go_at_call 89; (with_reducible refine (KM.out _).mono ?_); rintro e w2 ⟨rfl, hb2⟩
           have HA2 := Lib.hid (HA1.out.next hb2)
           obtain ⟨c0, c1, _, _⟩ := HA2.out
           clear hb2)
        | (go_at_call 89; (with_reducible refine (KQ.out _).mono ?_); rintro e w3 ⟨rfl, hb3⟩
           have HA3 := Lib.hid (HA2.out.next hb3)
           clear hb3))
      go_ret
      exact ⟨rfl, HA3.out.bel⟩
    · rw [sq] at KQ
      have h1 : 1 ≤ M := by
        rcases Nat.eq_zero_or_pos M with h | h
        · rw [h, isS_small (by decide)] at sM; cases sM
        · exact h
      have h0 : 0 < q := by
        rcases Nat.eq_zero_or_pos q with h | h
        · rw [h, isS_small (by decide)] at sq; cases sq
        · exact h
      have KC := Lib.hid (fun w => r09_divides M q w hM hq h1 h0)
      by_cases hd : (M - 1) % q = 0
      all_goals
        first
          | (have hr : pgN M q = 0 := by { unfold pgN; rw [sM, sq, if_pos rfl, if_pos rfl, if_pos hd] }
             rw [hr]
             rw [decide_eq_true hd] at KC)
          | (have hr : pgN M q = 13 := by { unfold pgN; rw [sM, sq, if_pos rfl, if_pos rfl, if_neg hd] }
             rw [hr]
             rw [decide_eq_false hd] at KC)
        clear hM hq h1 h0 hd sM sq hr
        go_enter Tryz.func155, Tryz.ntmps155
        go_wp2_with (first
          | (go_at_call 206; (with_reducible refine (KF.out _).mono ?_); rintro e w1 ⟨rfl, hb1⟩
             have HA1 := Lib.hid (HA0.out.next hb1)
             obtain ⟨c0, c1, _, _⟩ := HA1.out
             clear hb1)
          | (go_at_call 89; (with_reducible refine (KM.out _).mono ?_); rintro e w2 ⟨rfl, hb2⟩
             have HA2 := Lib.hid (HA1.out.next hb2)
             obtain ⟨c0, c1, _, _⟩ := HA2.out
             clear hb2)
          | (go_at_call 89; (with_reducible refine (KQ.out _).mono ?_); rintro e w3 ⟨rfl, hb3⟩
             have HA3 := Lib.hid (HA2.out.next hb3)
             obtain ⟨c0, c1, _, _⟩ := HA3.out
             clear hb3)
          | (go_at_call 207; (with_reducible refine (KC.out _).mono ?_); rintro e w4 ⟨rfl, hb4⟩
             have HA4 := Lib.hid (HA3.out.next hb4)
             clear hb4))
        go_ret
        exact ⟨rfl, HA4.out.bel⟩

end Go.Proofs.YtdajbcohmnmbpaaGreatDoor
