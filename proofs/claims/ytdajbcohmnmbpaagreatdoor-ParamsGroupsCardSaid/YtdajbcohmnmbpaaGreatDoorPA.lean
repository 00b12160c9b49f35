/- The walks of package primegroup on canonical numbers of at most 8 bytes: formed, cofactor, Check. -/
import Derived.Test.YtdajbcohmnmbpaaGreatDoorZM1
namespace Go.Proofs.YtdajbcohmnmbpaaGreatDoor
open Go.RowKit
set_option maxRecDepth 100000
set_option linter.unusedVariables false
set_option maxHeartbeats 4000000

/-- A group in its box. -/
structure BoxG (w wx : World) (m o : ByteArray) : Prop where
  c0 : wx.cell? ⟨w.heap.size, 0, none⟩ = some (.string m)
  c1 : wx.cell? ⟨w.heap.size, 1, none⟩ = some (.string o)
  lt : w.heap.size < wx.heap.size
  bel : Below w.heap.size w wx
theorem BoxG.start (w : World) (m o : ByteArray) : BoxG w (w.alloc (.cells #[.string m, .string o] 30)) m o :=
  ⟨by simp [go_sem], by simp [go_sem], by simp, (Below.refl _ _).alloc (Nat.le_refl _) _⟩
theorem BoxG.next {w wx wy : World} {m o : ByteArray} (h : BoxG w wx m o) (hb : Below wx.heap.size wx wy) : BoxG w wy m o :=
  ⟨(hb.cell (p := ⟨w.heap.size, 0, none⟩) h.lt).trans h.c0, (hb.cell (p := ⟨w.heap.size, 1, none⟩) h.lt).trans h.c1, Nat.lt_of_lt_of_le h.lt hb.size, h.bel.trans (hb.mono (Nat.le_of_lt h.lt))⟩
theorem pg_formed (M q : Nat) (w : World) (hM : M < lim) (hq : q < lim) :
    Calls Tryz.prog 196 #[.agg #[.string (B M), .string (B q)]] w fun e w' => e = .returned (.bool true) ∧ Below w.heap.size w w' := by
  have KV := Lib.hid (fun w => natural_Valid (B M) w)
  have KW := Lib.hid (fun w => natural_Valid (B q) w)
  rw [valid_B hM] at KV
  rw [valid_B hq] at KW
  have HA0 := Lib.hid (BoxG.start w (B M) (B q))
  clear hM hq
  go_enter Tryz.func196, Tryz.ntmps196
  go_wp2_with (first
    | (go_at_call 58; (with_reducible refine (KV.out _).mono ?_); rintro e w1 ⟨rfl, rfl⟩)
    | (go_at_call 58; (with_reducible refine (KW.out _).mono ?_); rintro e w1 ⟨rfl, rfl⟩))
  go_ret
  exact ⟨rfl, HA0.out.bel⟩
/-- The cofactor where both numbers are at least 1. -/
theorem pg_cofactorN (M q : Nat) (w : World) (hM : M < 18446744073709551616) (hq : q < 18446744073709551616) (h1 : 1 ≤ M) (h0 : 0 < q) :
    Calls Tryz.prog 197 #[.agg #[.string (B M), .string (B q)]] w fun e w' => e = .returned (.tuple #[.string (B ((M - 1) / q)), .bool (decide ((M - 1) % q = 0))]) ∧ Below w.heap.size w w' := by
  have KS := Lib.hid (fun w => natural_Sub' M 1 w (u64_lt_lim hM) h1)
  rw [show B 1 = (⟨#[1]⟩ : ByteArray) from rfl] at KS
  obtain ⟨N, hN⟩ : ∃ N, N = M - 1 := ⟨_, rfl⟩
  rw [← hN] at KS ⊢
  have KD := Lib.hid (fun w => natural_DivMod' N q w (by omega) hq h0)
  obtain ⟨r, hr⟩ : ∃ r, r = N % q := ⟨_, rfl⟩
  obtain ⟨k, hk⟩ : ∃ k, k = N / q := ⟨_, rfl⟩
  rw [← hk, ← hr] at KD ⊢
  have e1 : (B q).toList.isEmpty = false := B_isEmpty_false (by omega)
  have e2 : (B r).toList.isEmpty = decide (r = 0) := B_isEmpty r
  have HA0 := Lib.hid (BoxG.start w (B M) (B q))
  clear hM hq h1 h0 hN hk hr
  go_enter Tryz.func197, Tryz.ntmps197
  go_wp2_with (first
    | (go_at_call 41; (with_reducible refine (KS.out _).mono ?_); rintro e w1 ⟨rfl, hb1⟩
       have HA1 := Lib.hid (HA0.out.next hb1)
       obtain ⟨c0, c1, _, _⟩ := HA1.out
       clear hb1)
    | (go_at_call 39; (with_reducible refine (KD.out _).mono ?_); rintro e w2 ⟨rfl, hb2⟩
       have HA2 := Lib.hid (HA1.out.next hb2)
       clear hb2))
  go_ret2
  exact ⟨rfl, HA2.out.bel⟩
/-- The error of a group of canonical numbers of at most 8 bytes. -/
def pgN (M q : Nat) : Int := if isS M = true then (if isS q = true then (if (M - 1) % q = 0 then 0 else 13) else 12) else 12
theorem pg_CheckN (M q : Nat) (w : World) (hM : M < 18446744073709551616) (hq : q < 18446744073709551616) (hT : Tab w) :
    Calls Tryz.prog 145 #[.agg #[.string (B M), .string (B q)]] w fun e w' => e = .returned (.int .i64 (pgN M q)) ∧ Below w.heap.size w w' := by
  have KF := Lib.hid (fun w => pg_formed M q w (u64_lt_lim hM) (u64_lt_lim hq))
  have KM := Lib.hid (fun wq (h : Below w.heap.size w wq) => prime_Is_B M wq hM (hT.below h))
  have KQ := Lib.hid (fun wq (h : Below w.heap.size w wq) => prime_Is_B q wq hq (hT.below h))
  have l1 : decide ((8 : Int) < ((B M).size : Int)) = false := by rw [decide_eq_false_iff_not]; have := B_size_le'.2 (show M < 256 ^ 8 from hM); omega
  have l2 : decide ((8 : Int) < ((B q).size : Int)) = false := by rw [decide_eq_false_iff_not]; have := B_size_le'.2 (show q < 256 ^ 8 from hq); omega
  have HA0 := Lib.hid (BoxG.start w (B M) (B q))
  cases sM : isS M
  · have hr : pgN M q = 12 := by unfold pgN; rw [sM]; rfl
    rw [hr]
    rw [sM] at KM
    clear hM hq sM hT hr
    go_enter Tryz.func145, Tryz.ntmps145
    go_wp2_with (first
      | (go_at_call 196; (with_reducible refine (KF.out _).mono ?_); rintro e w1 ⟨rfl, hb1⟩
         have HA1 := Lib.hid (HA0.out.next hb1)
         obtain ⟨c0, c1, _, _⟩ := HA1.out
         clear hb1)
      | (go_at_call 84; (with_reducible refine (KM.out _ HA1.out.bel).mono ?_); rintro e w2 ⟨rfl, hb2⟩
         have HA2 := Lib.hid (HA1.out.next hb2)
         clear hb2))
    go_ret
    exact ⟨rfl, HA2.out.bel⟩
  · rw [sM] at KM
    cases sq : isS q
    · have hr : pgN M q = 12 := by unfold pgN; rw [sM, sq]; rfl
      rw [hr]
      rw [sq] at KQ
      clear hM hq sM sq hT hr
      go_enter Tryz.func145, Tryz.ntmps145
      go_wp2_with (first
        | (go_at_call 196; (with_reducible refine (KF.out _).mono ?_); rintro e w1 ⟨rfl, hb1⟩
           have HA1 := Lib.hid (HA0.out.next hb1)
           obtain ⟨c0, c1, _, _⟩ := HA1.out
           clear hb1)
        | (go_at_call 84; (with_reducible refine (KM.out _ HA1.out.bel).mono ?_); rintro e w2 ⟨rfl, hb2⟩
           have HA2 := Lib.hid (HA1.out.next hb2)
           obtain ⟨c0, c1, _, _⟩ := HA2.out
           clear hb2)
        | (go_at_call 84; (with_reducible refine (KQ.out _ HA2.out.bel).mono ?_); rintro e w3 ⟨rfl, hb3⟩
           have HA3 := Lib.hid (HA2.out.next hb3)
           clear hb3))
      go_ret
      exact ⟨rfl, HA3.out.bel⟩
    · rw [sq] at KQ
      have h1 : 1 ≤ M := by
        rcases Nat.eq_zero_or_pos M with h | h
        · rw [h, isS_small (by decide)] at sM; cases sM
        · exact h
      have h0 : 0 < q := by
        rcases Nat.eq_zero_or_pos q with h | h
        · rw [h, isS_small (by decide)] at sq; cases sq
        · exact h
      have KC := Lib.hid (fun w => pg_cofactorN M q w hM hq h1 h0)
      obtain ⟨k, hk⟩ : ∃ k, k = (M - 1) / q := ⟨_, rfl⟩
      rw [← hk] at KC
      by_cases hd : (M - 1) % q = 0
      all_goals
        first
          | (have hr : pgN M q = 0 := by { unfold pgN; rw [sM, sq, if_pos rfl, if_pos rfl, if_pos hd] }
             rw [hr]
             rw [decide_eq_true hd] at KC)
          | (have hr : pgN M q = 13 := by { unfold pgN; rw [sM, sq, if_pos rfl, if_pos rfl, if_neg hd] }
             rw [hr]
             rw [decide_eq_false hd] at KC)
        clear hM hq h1 h0 hd sM sq hT hk hr
        go_enter Tryz.func145, Tryz.ntmps145
        go_wp2_with (first
          | (go_at_call 196; (with_reducible refine (KF.out _).mono ?_); rintro e w1 ⟨rfl, hb1⟩
             have HA1 := Lib.hid (HA0.out.next hb1)
             obtain ⟨c0, c1, _, _⟩ := HA1.out
             clear hb1)
          | (go_at_call 84; (with_reducible refine (KM.out _ HA1.out.bel).mono ?_); rintro e w2 ⟨rfl, hb2⟩
             have HA2 := Lib.hid (HA1.out.next hb2)
             obtain ⟨c0, c1, _, _⟩ := HA2.out
             clear hb2)
          | (go_at_call 84; (with_reducible refine (KQ.out _ HA2.out.bel).mono ?_); rintro e w3 ⟨rfl, hb3⟩
             have HA3 := Lib.hid (HA2.out.next hb3)
             obtain ⟨c0, c1, _, _⟩ := HA3.out
             clear hb3)
          | (go_at_call 197; (with_reducible refine (KC.out _).mono ?_); rintro e w4 ⟨rfl, hb4⟩
             have HA4 := Lib.hid (HA3.out.next hb4)
             clear hb4))
        go_ret
        exact ⟨rfl, HA4.out.bel⟩

end Go.Proofs.YtdajbcohmnmbpaaGreatDoor
