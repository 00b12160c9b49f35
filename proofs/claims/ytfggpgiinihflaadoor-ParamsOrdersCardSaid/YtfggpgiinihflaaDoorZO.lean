/- The walks of package primegroup: Check of a group whose numbers pass the test and whose order divides. The law ParamsOrders. -/
import Derived.Test.YtfggpgiinihflaaDoorZM4
namespace Go.Proofs.YtfggpgiinihflaaDoor
open Go.RowKit
set_option maxRecDepth 100000
set_option linter.unusedVariables false
set_option maxHeartbeats 4000000

/-- A group in its box. -/
structure BoxG (w wx : World) (m o : ByteArray) : Prop where
  c0 : wx.cell? ⟨w.heap.size, 0, none⟩ = some (.string m)
  c1 : wx.cell? ⟨w.heap.size, 1, none⟩ = some (.string o)
  lt : w.heap.size < wx.heap.size
  bel : Below w.heap.size w wx
theorem BoxG.start (w : World) (m o : ByteArray) : BoxG w (w.alloc (.cells #[.string m, .string o] 43)) m o :=
  ⟨by simp [go_sem], by simp [go_sem], by simp, (Below.refl _ _).alloc (Nat.le_refl _) _⟩
theorem BoxG.next {w wx wy : World} {m o : ByteArray} (h : BoxG w wx m o) (hb : Below wx.heap.size wx wy) : BoxG w wy m o :=
  ⟨(hb.cell (p := ⟨w.heap.size, 0, none⟩) h.lt).trans h.c0, (hb.cell (p := ⟨w.heap.size, 1, none⟩) h.lt).trans h.c1, Nat.lt_of_lt_of_le h.lt hb.size, h.bel.trans (hb.mono (Nat.le_of_lt h.lt))⟩
theorem pg_formed (M q : Nat) (w : World) (hM : M < lim) (hq : q < lim) :
    Calls Tryd.prog 38 #[.agg #[.string (B M), .string (B q)]] w fun e w' => e = .returned (.bool true) ∧ Below w.heap.size w w' := by
  have KV := Lib.hid (fun w => natural_Valid (B M) w)
  have KW := Lib.hid (fun w => natural_Valid (B q) w)
  rw [valid_B hM] at KV
  rw [valid_B hq] at KW
  have HA0 := Lib.hid (BoxG.start w (B M) (B q))
  clear hM hq
  go_enter Tryd.func38, Tryd.ntmps38
  go_wp2_with (first
    | (go_at_call 33; (with_reducible refine (KV.out _).mono ?_); rintro e w1 ⟨rfl, rfl⟩)
    | (go_at_call 33; (with_reducible refine (KW.out _).mono ?_); rintro e w1 ⟨rfl, rfl⟩))
  go_ret
  exact ⟨rfl, HA0.out.bel⟩
theorem pg_cofactor (M q : Nat) (w : World) (hM : M < 18446744073709551616) (hq : q < 18446744073709551616) (h1 : 1 ≤ M) (h0 : 0 < q) (hd : (M - 1) % q = 0) :
    Calls Tryd.prog 40 #[.agg #[.string (B M), .string (B q)]] w fun e w' => e = .returned (.tuple #[.string (B ((M - 1) / q)), .bool true]) ∧ Below w.heap.size w w' := by
  have KS := Lib.hid (fun w => natural_Sub' M 1 w (u64_lt_lim hM) h1)
  rw [show B 1 = (⟨#[1]⟩ : ByteArray) from rfl] at KS
  obtain ⟨N, hN⟩ : ∃ N, N = M - 1 := ⟨_, rfl⟩
  rw [← hN] at KS hd ⊢
  have KD := Lib.hid (fun w => natural_DivMod' N q w (by omega) hq h0)
  rw [hd] at KD
  obtain ⟨k, hk⟩ : ∃ k, k = N / q := ⟨_, rfl⟩
  rw [← hk] at KD ⊢
  have e1 : (B q).toList.isEmpty = false := B_isEmpty_false (by omega)
  have e2 : (B 0).toList.isEmpty = true := B_isEmpty_true
  have HA0 := Lib.hid (BoxG.start w (B M) (B q))
  clear hM hq h1 h0 hd hN hk
  go_enter Tryd.func40, Tryd.ntmps40
  go_wp2_with (first
    | (go_at_call 56; (with_reducible refine (KS.out _).mono ?_); rintro e w1 ⟨rfl, hb1⟩
       have HA1 := Lib.hid (HA0.out.next hb1)
       obtain ⟨c0, c1, _, _⟩ := HA1.out
       clear hb1)
    | (go_at_call 57; (with_reducible refine (KD.out _).mono ?_); rintro e w2 ⟨rfl, hb2⟩
       have HA2 := Lib.hid (HA1.out.next hb2)
       clear hb2))
  go_ret2
  exact ⟨rfl, HA2.out.bel⟩
theorem pg_Check (M q : Nat) (w : World) (hM : M < 18446744073709551616) (hq : q < 18446744073709551616) (h1 : 1 ≤ M) (h0 : 0 < q) (hd : (M - 1) % q = 0) (sM : isS M = true) (sq : isS q = true) (hT : Tab w) :
    Calls Tryd.prog 20 #[.agg #[.string (B M), .string (B q)]] w fun e w' => e = .returned (.int .i64 0) ∧ Below w.heap.size w w' := by
  have KF := Lib.hid (fun w => pg_formed M q w (u64_lt_lim hM) (u64_lt_lim hq))
  have KC := Lib.hid (fun w => pg_cofactor M q w hM hq h1 h0 hd)
  have KM := Lib.hid (fun wq (h : Below w.heap.size w wq) => prime_Is_B M wq hM (hT.below h))
  have KQ := Lib.hid (fun wq (h : Below w.heap.size w wq) => prime_Is_B q wq hq (hT.below h))
  rw [sM] at KM
  rw [sq] at KQ
  have l1 : decide ((8 : Int) < ((B M).size : Int)) = false := by rw [decide_eq_false_iff_not]; have := B_size_le'.2 (show M < 256 ^ 8 from hM); omega
  have l2 : decide ((8 : Int) < ((B q).size : Int)) = false := by rw [decide_eq_false_iff_not]; have := B_size_le'.2 (show q < 256 ^ 8 from hq); omega
  have HA0 := Lib.hid (BoxG.start w (B M) (B q))
  obtain ⟨k, hk⟩ : ∃ k, k = (M - 1) / q := ⟨_, rfl⟩
  rw [← hk] at KC
  clear hM hq h1 h0 hd sM sq hT hk
  go_enter Tryd.func20, Tryd.ntmps20
  go_wp2_with (first
    | (go_at_call 38; (with_reducible refine (KF.out _).mono ?_); rintro e w1 ⟨rfl, hb1⟩
       have HA1 := Lib.hid (HA0.out.next hb1)
       obtain ⟨c0, c1, _, _⟩ := HA1.out
       clear hb1)
    | (go_at_call 39; (with_reducible refine (KM.out _ HA1.out.bel).mono ?_); rintro e w2 ⟨rfl, hb2⟩
       have HA2 := Lib.hid (HA1.out.next hb2)
       obtain ⟨c0, c1, _, _⟩ := HA2.out
       clear hb2)
    | (go_at_call 39; (with_reducible refine (KQ.out _ HA2.out.bel).mono ?_); rintro e w3 ⟨rfl, hb3⟩
       have HA3 := Lib.hid (HA2.out.next hb3)
       obtain ⟨c0, c1, _, _⟩ := HA3.out
       clear hb3)
    | (go_at_call 40; (with_reducible refine (KC.out _).mono ?_); rintro e w4 ⟨rfl, hb4⟩
       have HA4 := Lib.hid (HA3.out.next hb4)
       clear hb4))
  go_ret
  exact ⟨rfl, HA4.out.bel⟩

theorem r01_SmallO (n : Nat) (w : World) (hn : n < 18446744073709551616) : Calls Tryd.prog 12 #[.string (B n)] w fun e w' => e = .returned (.tuple #[.int .u64 n, .bool true]) ∧ w = w' := by
  have := r01_Small (B n) w
  rw [natSmall_B hn] at this
  exact this
theorem isPrime_no (n : Nat) (w : World) (h : isS n = false) (hn : n < 1099511627776) : Calls Tryd.prog 13 #[.int .u64 n] w fun e w' => e = .returned (.bool false) ∧ w = w' := by
  refine (law11_isPrime n w hn).mono ?_
  rintro e w' ⟨⟨b, rfl, hb⟩, rfl⟩
  have : b = false := by
    cases b
    · rfl
    · have := isS_prime (hb.1 rfl) (Nat.lt_trans hn (by decide))
      rw [h] at this
      cases this
  rw [this]
  exact ⟨rfl, rfl⟩
theorem mainL_ok {q m : Nat} : ∀ (r k : Nat), mainL q r k = some m → ∃ i, i < r ∧ m = (k + 2 * i) * q + 1 ∧ isS m = true ∧ ∀ j, j < i → isS ((k + 2 * j) * q + 1) = false := by
  intro r
  induction r with
  | zero => intro k h; cases h
  | succ r ih =>
    intro k h
    cases hp : isS (k * q + 1)
    · rw [mainL_on hp] at h
      obtain ⟨i, h1, h2, h3, h4⟩ := ih _ h
      have e : ∀ j, k + 2 + 2 * j = k + 2 * (j + 1) := fun j => by omega
      refine ⟨i + 1, by omega, by rw [← e]; exact h2, h3, fun j hj => ?_⟩
      rcases j with _ | j
      · simpa using hp
      · rw [← e]; exact h4 j (by omega)
    · rw [mainL_hit hp] at h
      cases h
      exact ⟨0, by omega, by simp, hp, fun j hj => absurd hj (Nat.not_lt_zero _)⟩
theorem mainD_ok {bits : Int} {vals : List ByteArray} {seed : ByteArray} {z : Int} (hb : bits ≤ 24 ∨ 60 < bits) (h : (mainD bits vals seed z).1 = 0) :
    ∃ M q z2 i, mainD bits vals seed z = (0, M, q, z2) ∧ 2 ≤ q ∧ q < 16777216 ∧ i < 32768 ∧ M = (2 + 2 * i) * q + 1 ∧ isS M = true ∧ isS q = true ∧ ∀ j, j < i → isS ((2 + 2 * j) * q + 1) = false := by
  unfold mainD at h ⊢
  split at h
  · rename_i hg
    rw [if_pos hg]
    split at h
    · rename_i hb2
      rw [if_pos hb2]
      split at h
      · rename_i h0
        rw [if_pos h0]
        obtain ⟨a1, a2, a3, a4, a5, a6, a7⟩ := primeD_found h0
        cases hm : mainL (primeD bits vals seed z).2.1 32768 2 with
        | none => rw [hm] at h; cases h
        | some m =>
          obtain ⟨i, h1, h2, h3, h4⟩ := mainL_ok _ _ hm
          have h24 : (primeD bits vals seed z).2.1 < 2 ^ 24 := Nat.lt_of_lt_of_le a5 (Nat.pow_le_pow_right (by decide) (by omega : bits.toNat ≤ 24))
          have h2' : 2 ≤ (primeD bits vals seed z).2.1 := Nat.le_trans (Nat.pow_le_pow_right (n := 2) (by decide) (by omega : 1 ≤ bits.toNat - 1)) a4
          exact ⟨m, _, _, i, rfl, h2', h24, h1, h2, h3, a6, h4⟩
      · rename_i h0
        exact absurd h h0
    · cases h
  · cases h
theorem law_orders (bits : Int) (vals : List ByteArray) (A : Option Addr) (n c : Nat) (seed : ByteArray) (z : Int) (w : World) (hn : vals.length = n) (hm : n ≤ maxLen) (hsl : SLs w w.heap.size A vals) (hT : Tab w) (hT10 : Tab10 w) :
    Calls Tryd.prog 6 #[.int .i64 bits, .agg #[.slice A n c, .string seed, .int .i64 z]] w fun e w' => e = .returned (.bool true) ∧ Below w.heap.size w w' := by
  have KAW := Lib.hid (fun wq (h1 : Below w.heap.size w wq) => law11_awake wq (hT.below h1) (hT10.below h1))
  have HA0 := Lib.hid (BoxT.start w A n c seed z)
  have KSM := Lib.hid (fun wq => law11_small bits wq)
  cases hsm : smallT bits
  · rw [hsm] at KSM
    clear hn hm hsl hT hT10 hsm
    go_enter Tryd.func6, Tryd.ntmps6
    go_wp2_with (first
      | (go_at_call 7; (with_reducible refine (KSM.out _).mono ?_); rintro e w0 ⟨rfl, rfl⟩)
      | (go_at_call 9; (with_reducible refine (KAW.out _ HA0.out.bel).mono ?_); rintro e w5 ⟨rfl, hb5⟩
         have HA6 := Lib.hid (HA0.out.next hb5)
         clear hb5))
    go_ret
    exact ⟨rfl, HA6.out.bel⟩
  · rw [hsm] at KSM
    by_cases hf : FewP vals seed z
    · have KFW := Lib.hid (fun wq (h1 : Below w.heap.size w wq) => few_is vals A n c wq.heap.size seed z wq hn hm ((hsl.below h1).more h1.size) (Nat.le_refl _) true ⟨fun _ => hf, fun _ => rfl⟩)
      have hm1 : n ≤ 1000 := by have := hf.1; omega
      have hs1 : seed.size ≤ 100000 := by have := hf.2.2.1; omega
      have KW0 := fun wq (h1 : Below w.heap.size w wq) => params_Main bits vals A n c seed z wq hn hm1 ((hsl.below h1).more h1.size) hs1 (hT.below h1) (hT10.below h1)
      by_cases h0 : (mainD bits vals seed z).1 = 0
      · have hb24 : bits ≤ 24 ∨ 60 < bits := by
          unfold smallT at hsm
          simpa using hsm
        obtain ⟨M, q, z2, i, e, q2, q24, hi, hM, sM, sq, hall⟩ := mainD_ok hb24 h0
        have KW := Lib.hid (fun wq (h1' : Below w.heap.size w wq) => (KW0 wq h1').mono (R' := fun e w' => (∃ g, e = .returned (.tuple #[.agg #[.string (B M), .string (B q)], .agg #[.slice (some ⟨g, 0, none⟩) n n, .string seed, .int .i64 z2], .int .i64 0])) ∧ Below wq.heap.size wq w') (by
          rw [e]
          rintro e w' ⟨⟨_, g, rfl⟩ | ⟨h, _⟩, hb⟩
          · exact ⟨⟨g, rfl⟩, hb⟩
          · exact absurd rfl h))
        obtain ⟨Q2, hQ2⟩ : ∃ Q2, Q2 = 2 * q := ⟨_, rfl⟩
        have hMQ : M = (1 + i) * Q2 + 1 := by
          rw [hM, hQ2, show 2 + 2 * i = (1 + i) * 2 by omega, Nat.mul_assoc]
        have hPr : (1 + i) * Q2 ≤ 32768 * 33554430 := Nat.mul_le_mul (by omega) (by omega)
        have hM40 : M < 1099511627776 := by omega
        obtain ⟨N, hN⟩ : ∃ N, N = (1 + i) * Q2 := ⟨_, rfl⟩
        rw [← hN] at hMQ hPr
        have hrem : N % Q2 = 0 := by rw [hN]; exact Nat.mul_mod_left _ _
        have hremq : (M - 1) % q = 0 := by rw [hM, Nat.add_sub_cancel]; exact Nat.mul_mod_left _ _
        have KCK := Lib.hid (fun wq (h1 : Below w.heap.size w wq) => pg_Check M q wq (Nat.lt_trans hM40 (by decide)) (Nat.lt_trans q24 (by decide)) (by omega) (by omega) hremq sM sq (hT.below h1))
        have KSa := Lib.hid (fun wq => r01_SmallO M wq (Nat.lt_trans hM40 (by decide)))
        have KSb := Lib.hid (fun wq => r01_SmallO q wq (Nat.lt_trans q24 (by decide)))
        have KIP := Lib.hid (fun (X j : Nat) wq (hj : j < i) (hX : X = (1 + j) * Q2 + 1) => isPrime_no X wq (by
          rw [hX, hQ2, ← Nat.mul_assoc, show (1 + j) * 2 = 2 + 2 * j by omega]; exact hall j hj) (by
          have : (1 + j) * Q2 ≤ 32768 * 33554430 := Nat.mul_le_mul (by omega) (by omega)
          omega))
        have k0 : ((q : Int) == 0) = false := by rw [beq_eq_false_iff_ne]; omega
        have k1 : decide ((1099511627776 : Int) ≤ (q : Int)) = false := by rw [decide_eq_false_iff_not]; omega
        have k2 : decide ((1099511627776 : Int) ≤ (M : Int)) = false := by rw [decide_eq_false_iff_not]; omega
        have k3 : IntKind.u64.wrap ((M : Int) - 1) = (N : Int) := by rw [IntKind.wrap_u64]; omega
        have k4 : IntKind.u64.wrap (2 * (q : Int)) = (Q2 : Int) := by rw [IntKind.wrap_u64]; omega
        have k5 : ¬ Q2 = 0 := by omega
        have k6 : ((N : Int) % (Q2 : Int)) = ((0 : Nat) : Int) := by rw [← hrem]; rfl
        obtain ⟨X0, hX0⟩ : ∃ X0, X0 = Q2 + 1 := ⟨_, rfl⟩
        have k7 : IntKind.u64.wrap ((Q2 : Int) + 1) = (X0 : Int) := by rw [IntKind.wrap_u64]; omega
        have HX0 := Lib.hid (show X0 = (1 + 0) * Q2 + 1 by rw [hX0]; omega)
        have HM := Lib.hid (show M = (1 + i) * Q2 + 1 by rw [hMQ, hN])
        have HQ2 := Lib.hid (show 1 ≤ Q2 ∧ Q2 ≤ 33554430 by omega)
        have HI := Lib.hid hi
        have HM40 := Lib.hid hM40
        clear hn hm hsl hT hT10 hsm hf KW0 h0 e q2 q24 hi hM sM sq hall hQ2 hMQ hPr hM40 hN hrem hremq hX0 hm1 hs1 hb24
        go_enter Tryd.func6, Tryd.ntmps6
        go_wp2_with (first
          | (go_at_call 7; (with_reducible refine (KSM.out _).mono ?_); rintro e w0 ⟨rfl, rfl⟩)
          | (go_at_call 8; (with_reducible refine (KFW.out _ HA0.out.bel).mono ?_); rintro e w1 ⟨rfl, hb1⟩
             have HA1 := Lib.hid (HA0.out.next hb1)
             obtain ⟨t0, t1, t2, hlt, _⟩ := HA1.out
             clear hb1)
          | (go_at_call 19; (with_reducible refine (KW.out _ HA1.out.bel).mono ?_); rintro e w2 ⟨⟨g, rfl⟩, hb2⟩
             have HA2 := Lib.hid (HA1.out.next hb2)
             have HA3 := Lib.hid ((HA2.out.alloc (.cells #[.string (B M), .string (B q)] 43)).alloc (.cells #[.slice (some ⟨g, 0, none⟩) n n, .string seed, .int .i64 z2] 24))
             have HG3 := Lib.hid ((BoxG.start w2 (B M) (B q)).next ((Below.refl _ _).alloc (Nat.le_refl _) (.cells #[.slice (some ⟨g, 0, none⟩) n n, .string seed, .int .i64 z2] 24)))
             obtain ⟨x0, x1, _, _⟩ := HG3.out
             clear hb2)
          | (go_at_call 12; (with_reducible refine (KSa.out _).mono ?_); rintro e w0 ⟨rfl, rfl⟩)
          | (go_at_call 12; (with_reducible refine (KSb.out _).mono ?_); rintro e w0 ⟨rfl, rfl⟩)
          | (go_at_call 20; (with_reducible refine (KCK.out _ HA3.out.bel).mono ?_); rintro e w5 ⟨rfl, hb5⟩
             have HA6 := Lib.hid (HA3.out.next hb5)
             clear hb5))
        clear k0 k1 k2 k3 k6 KW KFW KSM KSa KSb KCK HA0 HA1 HA2 HA3 HG3
        go_loop [12] (fun v => ∃ X j : Nat, v = .int .u64 X ∧ j ≤ i ∧ X = (1 + j) * Q2 + 1) (fun v => M - (intOf v).toNat)
        case atStart => exact ⟨X0, 0, rfl, Nat.zero_le _, HX0.out⟩
        case round =>
          obtain ⟨X, j, rfl, hj, hX⟩ := hrel
          by_cases hlt : j < i
          · obtain ⟨X2, hX2⟩ : ∃ X2, X2 = X + Q2 := ⟨_, rfl⟩
            have hX2' : X2 = (1 + (j + 1)) * Q2 + 1 := by
              have : (1 + (j + 1)) * Q2 = (1 + j) * Q2 + Q2 := by rw [show 1 + (j + 1) = (1 + j) + 1 by omega, Nat.succ_mul]
              omega
            have hle : X2 ≤ M := by
              rw [hX2', HM.out]
              exact Nat.add_le_add_right (Nat.mul_le_mul_right _ (by omega)) 1
            have hM40 := HM40.out
            have m1 : IntKind.u64.wrap ((X : Int) + (Q2 : Int)) = (X2 : Int) := by rw [hX2, IntKind.wrap_u64]; omega
            have hq1 := HQ2.out
            have m2 : decide (X < M) = true := decide_eq_true (by omega)
            have HP := Lib.hid (fun wq => KIP.out X j wq hlt hX)
            have HJ := Lib.hid (And.intro hlt hX2')
            have hms : M - X2 < M - X := by omega
            have HMS := Lib.hid hms
            clear hlt hX2 hX2' hle hM40 hX hj hq1 hms
            go_wp2_with (first | (go_at_call 13; (with_reducible refine (HP.out _).mono ?_); rintro e w0 ⟨rfl, rfl⟩))
            go_round
            case rel => exact ⟨X2, j + 1, rfl, HJ.out.1, HJ.out.2⟩
            case measure => exact HMS.out
          · have hjX : X = M := by rw [hX, HM.out, show j = i by omega]
            have m2 : decide (X < M) = false := decide_eq_false (by omega)
            clear hlt hj hX hjX
            go_wp2_with (first | (go_at_call 9; (with_reducible refine (KAW.out _ HA6.out.bel).mono ?_); rintro e w7 ⟨rfl, hb7⟩
                                  have HA7 := Lib.hid (HA6.out.next hb7)
                                  clear hb7))
            go_ret
            exact ⟨rfl, HA7.out.bel⟩
      · obtain ⟨er, her⟩ : ∃ er, er = (mainD bits vals seed z).1 := ⟨_, rfl⟩
        have ne1 : (er == 0) = false := by rw [her, beq_eq_false_iff_ne]; exact h0
        have KW := Lib.hid (fun wq (h1' : Below w.heap.size w wq) => (KW0 wq h1').mono (R' := fun e w' => e = .returned (.tuple #[.agg #[.string ⟨#[]⟩, .string ⟨#[]⟩], .agg #[.slice none 0 0, .string ⟨#[]⟩, .int .i64 0], .int .i64 er]) ∧ Below wq.heap.size wq w') (by
          rintro e w' ⟨⟨h, _⟩ | ⟨_, h⟩, hb⟩
          · exact absurd h h0
          · rw [her]; exact ⟨h, hb⟩))
        clear hn hm hsl hT hT10 hsm hf KW0 h0 her hm1 hs1
        go_enter Tryd.func6, Tryd.ntmps6
        go_wp2_with (first
          | (go_at_call 7; (with_reducible refine (KSM.out _).mono ?_); rintro e w0 ⟨rfl, rfl⟩)
          | (go_at_call 8; (with_reducible refine (KFW.out _ HA0.out.bel).mono ?_); rintro e w1 ⟨rfl, hb1⟩
             have HA1 := Lib.hid (HA0.out.next hb1)
             obtain ⟨t0, t1, t2, hlt, _⟩ := HA1.out
             clear hb1)
          | (go_at_call 19; (with_reducible refine (KW.out _ HA1.out.bel).mono ?_); rintro e w2 ⟨rfl, hb2⟩
             have HA2 := Lib.hid (HA1.out.next hb2)
             have HA3 := Lib.hid ((HA2.out.alloc (.cells #[.string ⟨#[]⟩, .string ⟨#[]⟩] 43)).alloc (.cells #[.slice none 0 0, .string ⟨#[]⟩, .int .i64 0] 24))
             have HG3 := Lib.hid ((BoxG.start w2 ⟨#[]⟩ ⟨#[]⟩).next ((Below.refl _ _).alloc (Nat.le_refl _) (.cells #[.slice none 0 0, .string ⟨#[]⟩, .int .i64 0] 24)))
             clear hb2)
          | (go_at_call 9; (with_reducible refine (KAW.out _ HA3.out.bel).mono ?_); rintro e w5 ⟨rfl, hb5⟩
             have HA6 := Lib.hid (HA3.out.next hb5)
             obtain ⟨x0, x1, _, _⟩ := (HG3.out.next hb5)
             clear hb5))
        go_ret
        exact ⟨rfl, HA6.out.bel⟩
    · have KFW := Lib.hid (fun wq (h1 : Below w.heap.size w wq) => few_is vals A n c wq.heap.size seed z wq hn hm ((hsl.below h1).more h1.size) (Nat.le_refl _) false ⟨fun h => (by cases h), fun h => absurd h hf⟩)
      clear hn hm hsl hT hT10 hsm hf
      go_enter Tryd.func6, Tryd.ntmps6
      go_wp2_with (first
        | (go_at_call 7; (with_reducible refine (KSM.out _).mono ?_); rintro e w0 ⟨rfl, rfl⟩)
        | (go_at_call 8; (with_reducible refine (KFW.out _ HA0.out.bel).mono ?_); rintro e w1 ⟨rfl, hb1⟩
           have HA1 := Lib.hid (HA0.out.next hb1)
           obtain ⟨t0, t1, t2, hlt, _⟩ := HA1.out
           clear hb1)
        | (go_at_call 9; (with_reducible refine (KAW.out _ HA1.out.bel).mono ?_); rintro e w5 ⟨rfl, hb5⟩
           have HA6 := Lib.hid (HA1.out.next hb5)
           clear hb5))
      go_ret
      exact ⟨rfl, HA6.out.bel⟩

end Go.Proofs.YtfggpgiinihflaaDoor
