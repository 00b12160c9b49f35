/- The law ParamsBits: it returns true for every number of bits and every tape. -/
import Derived.Test.YtfggpgiinihflaaDoorZM4
namespace Go.Proofs.YtfggpgiinihflaaDoor
open Go.RowKit
set_option maxRecDepth 100000
set_option linter.unusedVariables false
set_option maxHeartbeats 4000000

theorem r01_SmallB (n : Nat) (w : World) (hn : n < 18446744073709551616) : Calls Tryd.prog 12 #[.string (B n)] w fun e w' => e = .returned (.tuple #[.int .u64 n, .bool true]) ∧ w = w' := by
  have := r01_Small (B n) w
  rw [natSmall_B hn] at this
  exact this
theorem isPrime_yes (n : Nat) (w : World) (h : primeT n) (hn : n < 1099511627776) : Calls Tryd.prog 13 #[.int .u64 n] w fun e w' => e = .returned (.bool true) ∧ w = w' := by
  refine (law11_isPrime n w hn).mono ?_
  rintro e w' ⟨⟨b, rfl, hb⟩, rfl⟩
  rw [hb.2 h]
  exact ⟨rfl, rfl⟩
theorem primeT_24 {bits : Int} {p : Nat} (hb : bits ≤ 24) (h2 : 2 ≤ bits) (hp : p < 2 ^ bits.toNat) (hs : isS p = true) : primeT p ∧ p < 16777216 := by
  have h : (2 : Nat) ^ bits.toNat ≤ 2 ^ 24 := Nat.pow_le_pow_right (by decide) (by omega)
  have h24 : (2 : Nat) ^ 24 = 16777216 := by decide
  have : p < 16777216 := by omega
  exact ⟨isS_24 hs this, this⟩
theorem top_bit {k p : Nat} (h1 : 2 ^ k ≤ p) (h2 : p < 2 ^ (k + 1)) : (p : Int) / 2 ^ k = 1 := by
  have e : ((2 : Int) ^ k) = ((2 ^ k : Nat) : Int) := (Int.natCast_pow 2 k).symm
  have h3 : p / 2 ^ k = 1 := by
    have hpos : 0 < 2 ^ k := Nat.pow_pos (by decide)
    rw [Nat.pow_succ] at h2
    exact Nat.div_eq_of_lt_le (by omega) (by omega)
  rw [e, ← Int.natCast_ediv, h3]
  rfl
theorem law_bits_a (bits : Int) (vals : List ByteArray) (A : Option Addr) (n c : Nat) (seed : ByteArray) (z : Int) (w : World) (hn : vals.length = n) (hm : n ≤ maxLen) (hsl : SLs w w.heap.size A vals) (hT : Tab w) (hT10 : Tab10 w) (hsm : smallT bits = true)
    (hfew : vals.length ≤ 80 ∧ (∀ j, j < vals.length → (vals.getD j ByteArray.empty).size ≤ 16) ∧ seed.size ≤ 40 ∧ z < 1000) (hFW : ∀ wq, Below w.heap.size w wq → Calls Tryd.prog 8 #[.agg #[.slice A n c, .string seed, .int .i64 z]] wq fun e w' => e = .returned (.bool true) ∧ Below wq.heap.size wq w') (h1 : (primeD bits vals seed z).1 = 0) (h2 : (safeD bits vals seed z).1 = 0) :
    Calls Tryd.prog 3 #[.int .i64 bits, .agg #[.slice A n c, .string seed, .int .i64 z]] w fun e w' => e = .returned (.bool true) ∧ Below w.heap.size w w' := by
  have hm1 : n ≤ 1000 := by omega
  have hs1 : seed.size ≤ 100000 := by omega
  clear hm
  have HA0 := Lib.hid (BoxT.start w A n c seed z)
  have KSM := Lib.hid (fun wq => law11_small bits wq)
  rw [hsm] at KSM
  have KFW := Lib.hid hFW
  have KAW := Lib.hid (fun wq (h1 : Below w.heap.size w wq) => law11_awake wq (hT.below h1) (hT10.below h1))
  have KP0 := fun wq (h1 : Below w.heap.size w wq) => params_Prime bits vals A n c seed z wq hn hm1 ((hsl.below h1).more h1.size) hs1 (hT.below h1) (hT10.below h1)
  have KS0 := fun wq (h1 : Below w.heap.size w wq) => params_SafePrime bits vals A n c seed z wq hn hm1 ((hsl.below h1).more h1.size) hs1 (hT.below h1) (hT10.below h1)
  have HF1 := @primeD_found bits vals seed z
  have HF2 := @safeD_found bits vals seed z
  obtain ⟨d1, hd1⟩ : ∃ d, d = primeD bits vals seed z := ⟨_, rfl⟩
  obtain ⟨d2, hd2⟩ : ∃ d, d = safeD bits vals seed z := ⟨_, rfl⟩
  rw [← hd1] at HF1 KP0 h1
  rw [← hd2] at HF2 KS0 h2
  clear hd1 hd2
  have hr60 : 2 ≤ bits ∧ bits ≤ 60 := by
    have := HF1 h1; exact ⟨this.1, this.2.1⟩
  obtain ⟨k, KK⟩ : ∃ k, k = bits.toNat - 1 := ⟨_, rfl⟩
  have K1 : bits.toNat = k + 1 := by omega
  have kb : bits - 1 = (k : Int) := by omega
  have k64 : k < 64 := by omega
  have p1 : decide (bits < 2) = false := by rw [decide_eq_false_iff_not]; omega
  have p2 : decide ((60 : Int) < bits) = false := by rw [decide_eq_false_iff_not]; omega
  obtain ⟨b2, b60, _, p_lo, p_hi, p_s, _⟩ := HF1 h1
  obtain ⟨p, hp⟩ : ∃ p, p = d1.2.1 := ⟨_, rfl⟩
  obtain ⟨zp, hzp⟩ : ∃ zp, zp = d1.2.2 := ⟨_, rfl⟩
  rw [← hp] at p_lo p_hi p_s
  have b24 : bits ≤ 24 := by
    unfold smallT at hsm
    simp at hsm
    omega
  obtain ⟨pp, p24⟩ := primeT_24 b24 b2 p_hi p_s
  have KP := Lib.hid (fun wq (h1' : Below w.heap.size w wq) => (KP0 wq h1').mono (R' := fun e w' => (∃ A' n' c' sd zz, e = .returned (.tuple #[.string (B p), .agg #[.slice A' n' c', .string sd, .int .i64 zz], .int .i64 0])) ∧ Below wq.heap.size wq w') (by
    rintro e w' ⟨⟨_, g, rfl, _⟩ | ⟨h, _⟩, hb⟩
    · exact ⟨⟨_, _, _, _, _, by rw [hp]⟩, hb⟩
    · exact absurd h1 h))
  have KSMp := Lib.hid (fun wq => r01_SmallB p wq (Nat.lt_trans p24 (by decide)))
  have KTp := Lib.hid (fun wq => isPrime_yes p wq pp (Nat.lt_trans p24 (by decide)))
  have p_top : (p : Int) / 2 ^ k = 1 := top_bit (by rw [← KK] at p_lo; exact p_lo) (by rw [K1] at p_hi; exact p_hi)
  obtain ⟨b3, b60', _, q_lo, q_hi, q_s, q_h, q_odd, _⟩ := HF2 h2
  obtain ⟨q, hq⟩ : ∃ q, q = d2.2.1 := ⟨_, rfl⟩
  rw [← hq] at q_lo q_hi q_s q_h q_odd
  have b24' : bits ≤ 24 := by
    unfold smallT at hsm
    simp at hsm
    omega
  obtain ⟨qp, q24⟩ := primeT_24 b24' (by omega) q_hi q_s
  have qhp : primeT (q / 2) := isS_24 q_h (by omega)
  have KQ := Lib.hid (fun wq (h1' : Below w.heap.size w wq) => (KS0 wq h1').mono (R' := fun e w' => (∃ A' n' c' sd zz, e = .returned (.tuple #[.string (B q), .agg #[.slice A' n' c', .string sd, .int .i64 zz], .int .i64 0])) ∧ Below wq.heap.size wq w') (by
    rintro e w' ⟨⟨_, g, rfl, _⟩ | ⟨h, _⟩, hb⟩
    · exact ⟨⟨_, _, _, _, _, by rw [hq]⟩, hb⟩
    · exact absurd h2 h))
  have KSMq := Lib.hid (fun wq => r01_SmallB q wq (Nat.lt_trans q24 (by decide)))
  have KTq := Lib.hid (fun wq => isPrime_yes q wq qp (Nat.lt_trans q24 (by decide)))
  obtain ⟨r, hr⟩ : ∃ r, r = q / 2 := ⟨_, rfl⟩
  have q_half : (q : Int) / 2 = (r : Int) := by omega
  have r_wrap : IntKind.u64.wrap (r : Int) = (r : Int) := by rw [IntKind.wrap_u64]; omega
  have KTr := Lib.hid (fun wq => isPrime_yes r wq (by rw [hr]; exact qhp) (by omega))
  have q_top : (q : Int) / 2 ^ k = 1 := top_bit (by rw [← KK] at q_lo; exact q_lo) (by rw [K1] at q_hi; exact q_hi)
  have kw : Value.int .i64 (wrap64 (k : Int)) = .int .i64 (k : Int) := by rw [IntWalk.wrap64_in _ (by omega)]
  clear KP0 KS0 HF1 HF2 hn hsl hT hT10 hsm hfew hFW h1 h2 hm1 hs1 b2 b60 p_lo p_hi p_s hp hzp b24 pp p24 b3 b60' q_lo q_hi q_s q_h q_odd hq b24' qp q24 qhp hr hr60 KK K1
  go_enter Tryd.func3, Tryd.ntmps3
  go_wp2_with (first
    | (go_at_call 7; (with_reducible refine (KSM.out _).mono ?_); rintro e w0 ⟨rfl, rfl⟩)
    | (go_at_call 8; (with_reducible refine (KFW.out _ HA0.out.bel).mono ?_); rintro e w1 ⟨rfl, hb1⟩
       have HA1 := Lib.hid (HA0.out.next hb1)
       obtain ⟨t0, t1, t2, hlt, _⟩ := HA1.out
       clear hb1)
    | (go_at_call 10; (with_reducible refine (KP.out _ HA1.out.bel).mono ?_); rintro e w2 ⟨⟨A1, n1, c1, sd1, zz1, rfl⟩, hb2⟩
       have HA2 := Lib.hid (HA1.out.next hb2)
       have HA3 := Lib.hid (HA2.out.alloc (.cells #[.slice A1 n1 c1, .string sd1, .int .i64 zz1] 24))
       obtain ⟨t0, t1, t2, hlt, _⟩ := HA3.out
       clear hb2)
    | (go_at_call 11; (with_reducible refine (KQ.out _ HA3.out.bel).mono ?_); rintro e w3 ⟨⟨A2, n2, c2, sd2, zz2, rfl⟩, hb3⟩
       have HA4 := Lib.hid (HA3.out.next hb3)
       have HA5 := Lib.hid (HA4.out.alloc (.cells #[.slice A2 n2 c2, .string sd2, .int .i64 zz2] 24))
       clear hb3)
    | (go_at_call 12; (with_reducible refine (KSMp.out _).mono ?_); rintro e w0 ⟨rfl, rfl⟩)
    | (go_at_call 13; (with_reducible refine (KTp.out _).mono ?_); rintro e w0 ⟨rfl, rfl⟩)
    | (go_at_call 12; (with_reducible refine (KSMq.out _).mono ?_); rintro e w0 ⟨rfl, rfl⟩)
    | (go_at_call 13; (with_reducible refine (KTq.out _).mono ?_); rintro e w0 ⟨rfl, rfl⟩)
    | (go_at_call 13; (with_reducible refine (KTr.out _).mono ?_); rintro e w0 ⟨rfl, rfl⟩)
    | (go_at_call 9; (with_reducible refine (KAW.out _ HA5.out.bel).mono ?_); rintro e w5 ⟨rfl, hb5⟩
       have HA6 := Lib.hid (HA5.out.next hb5)
       clear hb5))
  go_ret
  exact ⟨rfl, HA6.out.bel⟩
theorem law_bits_b (bits : Int) (vals : List ByteArray) (A : Option Addr) (n c : Nat) (seed : ByteArray) (z : Int) (w : World) (hn : vals.length = n) (hm : n ≤ maxLen) (hsl : SLs w w.heap.size A vals) (hT : Tab w) (hT10 : Tab10 w) (hsm : smallT bits = true)
    (hfew : vals.length ≤ 80 ∧ (∀ j, j < vals.length → (vals.getD j ByteArray.empty).size ≤ 16) ∧ seed.size ≤ 40 ∧ z < 1000) (hFW : ∀ wq, Below w.heap.size w wq → Calls Tryd.prog 8 #[.agg #[.slice A n c, .string seed, .int .i64 z]] wq fun e w' => e = .returned (.bool true) ∧ Below wq.heap.size wq w') (h1 : (primeD bits vals seed z).1 = 0) (h2 : (safeD bits vals seed z).1 ≠ 0) :
    Calls Tryd.prog 3 #[.int .i64 bits, .agg #[.slice A n c, .string seed, .int .i64 z]] w fun e w' => e = .returned (.bool true) ∧ Below w.heap.size w w' := by
  have hm1 : n ≤ 1000 := by omega
  have hs1 : seed.size ≤ 100000 := by omega
  clear hm
  have HA0 := Lib.hid (BoxT.start w A n c seed z)
  have KSM := Lib.hid (fun wq => law11_small bits wq)
  rw [hsm] at KSM
  have KFW := Lib.hid hFW
  have KAW := Lib.hid (fun wq (h1 : Below w.heap.size w wq) => law11_awake wq (hT.below h1) (hT10.below h1))
  have KP0 := fun wq (h1 : Below w.heap.size w wq) => params_Prime bits vals A n c seed z wq hn hm1 ((hsl.below h1).more h1.size) hs1 (hT.below h1) (hT10.below h1)
  have KS0 := fun wq (h1 : Below w.heap.size w wq) => params_SafePrime bits vals A n c seed z wq hn hm1 ((hsl.below h1).more h1.size) hs1 (hT.below h1) (hT10.below h1)
  have HF1 := @primeD_found bits vals seed z
  have HF2 := @safeD_found bits vals seed z
  obtain ⟨d1, hd1⟩ : ∃ d, d = primeD bits vals seed z := ⟨_, rfl⟩
  obtain ⟨d2, hd2⟩ : ∃ d, d = safeD bits vals seed z := ⟨_, rfl⟩
  rw [← hd1] at HF1 KP0 h1
  rw [← hd2] at HF2 KS0 h2
  clear hd1 hd2
  have hr60 : 2 ≤ bits ∧ bits ≤ 60 := by
    have := HF1 h1; exact ⟨this.1, this.2.1⟩
  obtain ⟨k, KK⟩ : ∃ k, k = bits.toNat - 1 := ⟨_, rfl⟩
  have K1 : bits.toNat = k + 1 := by omega
  have kb : bits - 1 = (k : Int) := by omega
  have k64 : k < 64 := by omega
  have p1 : decide (bits < 2) = false := by rw [decide_eq_false_iff_not]; omega
  have p2 : decide ((60 : Int) < bits) = false := by rw [decide_eq_false_iff_not]; omega
  obtain ⟨b2, b60, _, p_lo, p_hi, p_s, _⟩ := HF1 h1
  obtain ⟨p, hp⟩ : ∃ p, p = d1.2.1 := ⟨_, rfl⟩
  obtain ⟨zp, hzp⟩ : ∃ zp, zp = d1.2.2 := ⟨_, rfl⟩
  rw [← hp] at p_lo p_hi p_s
  have b24 : bits ≤ 24 := by
    unfold smallT at hsm
    simp at hsm
    omega
  obtain ⟨pp, p24⟩ := primeT_24 b24 b2 p_hi p_s
  have KP := Lib.hid (fun wq (h1' : Below w.heap.size w wq) => (KP0 wq h1').mono (R' := fun e w' => (∃ A' n' c' sd zz, e = .returned (.tuple #[.string (B p), .agg #[.slice A' n' c', .string sd, .int .i64 zz], .int .i64 0])) ∧ Below wq.heap.size wq w') (by
    rintro e w' ⟨⟨_, g, rfl, _⟩ | ⟨h, _⟩, hb⟩
    · exact ⟨⟨_, _, _, _, _, by rw [hp]⟩, hb⟩
    · exact absurd h1 h))
  have KSMp := Lib.hid (fun wq => r01_SmallB p wq (Nat.lt_trans p24 (by decide)))
  have KTp := Lib.hid (fun wq => isPrime_yes p wq pp (Nat.lt_trans p24 (by decide)))
  have p_top : (p : Int) / 2 ^ k = 1 := top_bit (by rw [← KK] at p_lo; exact p_lo) (by rw [K1] at p_hi; exact p_hi)
  obtain ⟨e2, he2⟩ : ∃ e2, e2 = d2.1 := ⟨_, rfl⟩
  have ne2 : (e2 == 0) = false := by rw [he2, beq_eq_false_iff_ne]; exact h2
  have KQ := Lib.hid (fun wq (h1' : Below w.heap.size w wq) => (KS0 wq h1').mono (R' := fun e w' => e = .returned (.tuple #[.string ⟨#[]⟩, .agg #[.slice none 0 0, .string ⟨#[]⟩, .int .i64 0], .int .i64 e2]) ∧ Below wq.heap.size wq w') (by
    rintro e w' ⟨⟨h, _⟩ | ⟨_, h⟩, hb⟩
    · exact absurd h h2
    · rw [he2]; exact ⟨h, hb⟩))
  have kw : Value.int .i64 (wrap64 (k : Int)) = .int .i64 (k : Int) := by rw [IntWalk.wrap64_in _ (by omega)]
  clear KP0 KS0 HF1 HF2 hn hsl hT hT10 hsm hfew hFW h1 h2 hm1 hs1 b2 b60 p_lo p_hi p_s hp hzp b24 pp p24 he2 hr60 KK K1
  go_enter Tryd.func3, Tryd.ntmps3
  go_wp2_with (first
    | (go_at_call 7; (with_reducible refine (KSM.out _).mono ?_); rintro e w0 ⟨rfl, rfl⟩)
    | (go_at_call 8; (with_reducible refine (KFW.out _ HA0.out.bel).mono ?_); rintro e w1 ⟨rfl, hb1⟩
       have HA1 := Lib.hid (HA0.out.next hb1)
       obtain ⟨t0, t1, t2, hlt, _⟩ := HA1.out
       clear hb1)
    | (go_at_call 10; (with_reducible refine (KP.out _ HA1.out.bel).mono ?_); rintro e w2 ⟨⟨A1, n1, c1, sd1, zz1, rfl⟩, hb2⟩
       have HA2 := Lib.hid (HA1.out.next hb2)
       have HA3 := Lib.hid (HA2.out.alloc (.cells #[.slice A1 n1 c1, .string sd1, .int .i64 zz1] 24))
       obtain ⟨t0, t1, t2, hlt, _⟩ := HA3.out
       clear hb2)
    | (go_at_call 11; (with_reducible refine (KQ.out _ HA3.out.bel).mono ?_); rintro e w3 ⟨rfl, hb3⟩
       have HA4 := Lib.hid (HA3.out.next hb3)
       have HA5 := Lib.hid (HA4.out.alloc (.cells #[.slice none 0 0, .string ⟨#[]⟩, .int .i64 0] 24))
       clear hb3)
    | (go_at_call 12; (with_reducible refine (KSMp.out _).mono ?_); rintro e w0 ⟨rfl, rfl⟩)
    | (go_at_call 13; (with_reducible refine (KTp.out _).mono ?_); rintro e w0 ⟨rfl, rfl⟩)
    | (go_at_call 9; (with_reducible refine (KAW.out _ HA5.out.bel).mono ?_); rintro e w5 ⟨rfl, hb5⟩
       have HA6 := Lib.hid (HA5.out.next hb5)
       clear hb5))
  go_ret
  exact ⟨rfl, HA6.out.bel⟩
theorem law_bits_c (bits : Int) (vals : List ByteArray) (A : Option Addr) (n c : Nat) (seed : ByteArray) (z : Int) (w : World) (hn : vals.length = n) (hm : n ≤ maxLen) (hsl : SLs w w.heap.size A vals) (hT : Tab w) (hT10 : Tab10 w) (hsm : smallT bits = true)
    (hfew : vals.length ≤ 80 ∧ (∀ j, j < vals.length → (vals.getD j ByteArray.empty).size ≤ 16) ∧ seed.size ≤ 40 ∧ z < 1000) (hFW : ∀ wq, Below w.heap.size w wq → Calls Tryd.prog 8 #[.agg #[.slice A n c, .string seed, .int .i64 z]] wq fun e w' => e = .returned (.bool true) ∧ Below wq.heap.size wq w') (h1 : (primeD bits vals seed z).1 ≠ 0) (h2 : (safeD bits vals seed z).1 = 0) :
    Calls Tryd.prog 3 #[.int .i64 bits, .agg #[.slice A n c, .string seed, .int .i64 z]] w fun e w' => e = .returned (.bool true) ∧ Below w.heap.size w w' := by
  have hm1 : n ≤ 1000 := by omega
  have hs1 : seed.size ≤ 100000 := by omega
  clear hm
  have HA0 := Lib.hid (BoxT.start w A n c seed z)
  have KSM := Lib.hid (fun wq => law11_small bits wq)
  rw [hsm] at KSM
  have KFW := Lib.hid hFW
  have KAW := Lib.hid (fun wq (h1 : Below w.heap.size w wq) => law11_awake wq (hT.below h1) (hT10.below h1))
  have KP0 := fun wq (h1 : Below w.heap.size w wq) => params_Prime bits vals A n c seed z wq hn hm1 ((hsl.below h1).more h1.size) hs1 (hT.below h1) (hT10.below h1)
  have KS0 := fun wq (h1 : Below w.heap.size w wq) => params_SafePrime bits vals A n c seed z wq hn hm1 ((hsl.below h1).more h1.size) hs1 (hT.below h1) (hT10.below h1)
  have HF1 := @primeD_found bits vals seed z
  have HF2 := @safeD_found bits vals seed z
  obtain ⟨d1, hd1⟩ : ∃ d, d = primeD bits vals seed z := ⟨_, rfl⟩
  obtain ⟨d2, hd2⟩ : ∃ d, d = safeD bits vals seed z := ⟨_, rfl⟩
  rw [← hd1] at HF1 KP0 h1
  rw [← hd2] at HF2 KS0 h2
  clear hd1 hd2
  have hr60 : 2 ≤ bits ∧ bits ≤ 60 := by
    have := HF2 h2; exact ⟨by omega, this.2.1⟩
  obtain ⟨k, KK⟩ : ∃ k, k = bits.toNat - 1 := ⟨_, rfl⟩
  have K1 : bits.toNat = k + 1 := by omega
  have kb : bits - 1 = (k : Int) := by omega
  have k64 : k < 64 := by omega
  have p1 : decide (bits < 2) = false := by rw [decide_eq_false_iff_not]; omega
  have p2 : decide ((60 : Int) < bits) = false := by rw [decide_eq_false_iff_not]; omega
  obtain ⟨e1, he1⟩ : ∃ e1, e1 = d1.1 := ⟨_, rfl⟩
  have ne1 : (e1 == 0) = false := by rw [he1, beq_eq_false_iff_ne]; exact h1
  have KP := Lib.hid (fun wq (h1' : Below w.heap.size w wq) => (KP0 wq h1').mono (R' := fun e w' => e = .returned (.tuple #[.string ⟨#[]⟩, .agg #[.slice none 0 0, .string ⟨#[]⟩, .int .i64 0], .int .i64 e1]) ∧ Below wq.heap.size wq w') (by
    rintro e w' ⟨⟨h, _⟩ | ⟨_, h⟩, hb⟩
    · exact absurd h h1
    · rw [he1]; exact ⟨h, hb⟩))
  obtain ⟨b3, b60', _, q_lo, q_hi, q_s, q_h, q_odd, _⟩ := HF2 h2
  obtain ⟨q, hq⟩ : ∃ q, q = d2.2.1 := ⟨_, rfl⟩
  rw [← hq] at q_lo q_hi q_s q_h q_odd
  have b24' : bits ≤ 24 := by
    unfold smallT at hsm
    simp at hsm
    omega
  obtain ⟨qp, q24⟩ := primeT_24 b24' (by omega) q_hi q_s
  have qhp : primeT (q / 2) := isS_24 q_h (by omega)
  have KQ := Lib.hid (fun wq (h1' : Below w.heap.size w wq) => (KS0 wq h1').mono (R' := fun e w' => (∃ A' n' c' sd zz, e = .returned (.tuple #[.string (B q), .agg #[.slice A' n' c', .string sd, .int .i64 zz], .int .i64 0])) ∧ Below wq.heap.size wq w') (by
    rintro e w' ⟨⟨_, g, rfl, _⟩ | ⟨h, _⟩, hb⟩
    · exact ⟨⟨_, _, _, _, _, by rw [hq]⟩, hb⟩
    · exact absurd h2 h))
  have KSMq := Lib.hid (fun wq => r01_SmallB q wq (Nat.lt_trans q24 (by decide)))
  have KTq := Lib.hid (fun wq => isPrime_yes q wq qp (Nat.lt_trans q24 (by decide)))
  obtain ⟨r, hr⟩ : ∃ r, r = q / 2 := ⟨_, rfl⟩
  have q_half : (q : Int) / 2 = (r : Int) := by omega
  have r_wrap : IntKind.u64.wrap (r : Int) = (r : Int) := by rw [IntKind.wrap_u64]; omega
  have KTr := Lib.hid (fun wq => isPrime_yes r wq (by rw [hr]; exact qhp) (by omega))
  have q_top : (q : Int) / 2 ^ k = 1 := top_bit (by rw [← KK] at q_lo; exact q_lo) (by rw [K1] at q_hi; exact q_hi)
  have kw : Value.int .i64 (wrap64 (k : Int)) = .int .i64 (k : Int) := by rw [IntWalk.wrap64_in _ (by omega)]
  clear KP0 KS0 HF1 HF2 hn hsl hT hT10 hsm hfew hFW h1 h2 hm1 hs1 he1 b3 b60' q_lo q_hi q_s q_h q_odd hq b24' qp q24 qhp hr hr60 KK K1
  go_enter Tryd.func3, Tryd.ntmps3
  go_wp2_with (first
    | (go_at_call 7; (with_reducible refine (KSM.out _).mono ?_); rintro e w0 ⟨rfl, rfl⟩)
    | (go_at_call 8; (with_reducible refine (KFW.out _ HA0.out.bel).mono ?_); rintro e w1 ⟨rfl, hb1⟩
       have HA1 := Lib.hid (HA0.out.next hb1)
       obtain ⟨t0, t1, t2, hlt, _⟩ := HA1.out
       clear hb1)
    | (go_at_call 10; (with_reducible refine (KP.out _ HA1.out.bel).mono ?_); rintro e w2 ⟨rfl, hb2⟩
       have HA2 := Lib.hid (HA1.out.next hb2)
       have HA3 := Lib.hid (HA2.out.alloc (.cells #[.slice none 0 0, .string ⟨#[]⟩, .int .i64 0] 24))
       obtain ⟨t0, t1, t2, hlt, _⟩ := HA3.out
       clear hb2)
    | (go_at_call 11; (with_reducible refine (KQ.out _ HA3.out.bel).mono ?_); rintro e w3 ⟨⟨A2, n2, c2, sd2, zz2, rfl⟩, hb3⟩
       have HA4 := Lib.hid (HA3.out.next hb3)
       have HA5 := Lib.hid (HA4.out.alloc (.cells #[.slice A2 n2 c2, .string sd2, .int .i64 zz2] 24))
       clear hb3)
    | (go_at_call 12; (with_reducible refine (KSMq.out _).mono ?_); rintro e w0 ⟨rfl, rfl⟩)
    | (go_at_call 13; (with_reducible refine (KTq.out _).mono ?_); rintro e w0 ⟨rfl, rfl⟩)
    | (go_at_call 13; (with_reducible refine (KTr.out _).mono ?_); rintro e w0 ⟨rfl, rfl⟩)
    | (go_at_call 9; (with_reducible refine (KAW.out _ HA5.out.bel).mono ?_); rintro e w5 ⟨rfl, hb5⟩
       have HA6 := Lib.hid (HA5.out.next hb5)
       clear hb5))
  go_ret
  exact ⟨rfl, HA6.out.bel⟩
theorem law_bits_d (bits : Int) (vals : List ByteArray) (A : Option Addr) (n c : Nat) (seed : ByteArray) (z : Int) (w : World) (hn : vals.length = n) (hm : n ≤ maxLen) (hsl : SLs w w.heap.size A vals) (hT : Tab w) (hT10 : Tab10 w) (hsm : smallT bits = true)
    (hfew : vals.length ≤ 80 ∧ (∀ j, j < vals.length → (vals.getD j ByteArray.empty).size ≤ 16) ∧ seed.size ≤ 40 ∧ z < 1000) (hFW : ∀ wq, Below w.heap.size w wq → Calls Tryd.prog 8 #[.agg #[.slice A n c, .string seed, .int .i64 z]] wq fun e w' => e = .returned (.bool true) ∧ Below wq.heap.size wq w') (h1 : (primeD bits vals seed z).1 ≠ 0) (h2 : (safeD bits vals seed z).1 ≠ 0) :
    Calls Tryd.prog 3 #[.int .i64 bits, .agg #[.slice A n c, .string seed, .int .i64 z]] w fun e w' => e = .returned (.bool true) ∧ Below w.heap.size w w' := by
  have hm1 : n ≤ 1000 := by omega
  have hs1 : seed.size ≤ 100000 := by omega
  clear hm
  have HA0 := Lib.hid (BoxT.start w A n c seed z)
  have KSM := Lib.hid (fun wq => law11_small bits wq)
  rw [hsm] at KSM
  have KFW := Lib.hid hFW
  have KAW := Lib.hid (fun wq (h1 : Below w.heap.size w wq) => law11_awake wq (hT.below h1) (hT10.below h1))
  have KP0 := fun wq (h1 : Below w.heap.size w wq) => params_Prime bits vals A n c seed z wq hn hm1 ((hsl.below h1).more h1.size) hs1 (hT.below h1) (hT10.below h1)
  have KS0 := fun wq (h1 : Below w.heap.size w wq) => params_SafePrime bits vals A n c seed z wq hn hm1 ((hsl.below h1).more h1.size) hs1 (hT.below h1) (hT10.below h1)
  have HF1 := @primeD_found bits vals seed z
  have HF2 := @safeD_found bits vals seed z
  obtain ⟨d1, hd1⟩ : ∃ d, d = primeD bits vals seed z := ⟨_, rfl⟩
  obtain ⟨d2, hd2⟩ : ∃ d, d = safeD bits vals seed z := ⟨_, rfl⟩
  rw [← hd1] at HF1 KP0 h1
  rw [← hd2] at HF2 KS0 h2
  clear hd1 hd2
  obtain ⟨e1, he1⟩ : ∃ e1, e1 = d1.1 := ⟨_, rfl⟩
  have ne1 : (e1 == 0) = false := by rw [he1, beq_eq_false_iff_ne]; exact h1
  have KP := Lib.hid (fun wq (h1' : Below w.heap.size w wq) => (KP0 wq h1').mono (R' := fun e w' => e = .returned (.tuple #[.string ⟨#[]⟩, .agg #[.slice none 0 0, .string ⟨#[]⟩, .int .i64 0], .int .i64 e1]) ∧ Below wq.heap.size wq w') (by
    rintro e w' ⟨⟨h, _⟩ | ⟨_, h⟩, hb⟩
    · exact absurd h h1
    · rw [he1]; exact ⟨h, hb⟩))
  obtain ⟨e2, he2⟩ : ∃ e2, e2 = d2.1 := ⟨_, rfl⟩
  have ne2 : (e2 == 0) = false := by rw [he2, beq_eq_false_iff_ne]; exact h2
  have KQ := Lib.hid (fun wq (h1' : Below w.heap.size w wq) => (KS0 wq h1').mono (R' := fun e w' => e = .returned (.tuple #[.string ⟨#[]⟩, .agg #[.slice none 0 0, .string ⟨#[]⟩, .int .i64 0], .int .i64 e2]) ∧ Below wq.heap.size wq w') (by
    rintro e w' ⟨⟨h, _⟩ | ⟨_, h⟩, hb⟩
    · exact absurd h h2
    · rw [he2]; exact ⟨h, hb⟩))
  clear KP0 KS0 HF1 HF2 hn hsl hT hT10 hsm hfew hFW h1 h2 hm1 hs1 he1 he2
  by_cases hlo : bits < 2
  · have p1 : decide (bits < 2) = true := decide_eq_true hlo
    clear hlo
    go_enter Tryd.func3, Tryd.ntmps3
    go_wp2_with (first
      | (go_at_call 7; (with_reducible refine (KSM.out _).mono ?_); rintro e w0 ⟨rfl, rfl⟩)
      | (go_at_call 8; (with_reducible refine (KFW.out _ HA0.out.bel).mono ?_); rintro e w1 ⟨rfl, hb1⟩
         have HA1 := Lib.hid (HA0.out.next hb1)
         obtain ⟨t0, t1, t2, hlt, _⟩ := HA1.out
         clear hb1)
      | (go_at_call 10; (with_reducible refine (KP.out _ HA1.out.bel).mono ?_); rintro e w2 ⟨rfl, hb2⟩
         have HA2 := Lib.hid (HA1.out.next hb2)
         have HA3 := Lib.hid (HA2.out.alloc (.cells #[.slice none 0 0, .string ⟨#[]⟩, .int .i64 0] 24))
         obtain ⟨t0, t1, t2, hlt, _⟩ := HA3.out
         clear hb2)
      | (go_at_call 11; (with_reducible refine (KQ.out _ HA3.out.bel).mono ?_); rintro e w3 ⟨rfl, hb3⟩
         have HA4 := Lib.hid (HA3.out.next hb3)
         have HA5 := Lib.hid (HA4.out.alloc (.cells #[.slice none 0 0, .string ⟨#[]⟩, .int .i64 0] 24))
         clear hb3)
      | (go_at_call 9; (with_reducible refine (KAW.out _ HA5.out.bel).mono ?_); rintro e w5 ⟨rfl, hb5⟩
         have HA6 := Lib.hid (HA5.out.next hb5)
         clear hb5))
    go_ret
    exact ⟨rfl, HA6.out.bel⟩
  · have p1 : decide (bits < 2) = false := decide_eq_false hlo
    cases p2 : decide ((60 : Int) < bits)
    · clear hlo
      go_enter Tryd.func3, Tryd.ntmps3
      go_wp2_with (first
        | (go_at_call 7; (with_reducible refine (KSM.out _).mono ?_); rintro e w0 ⟨rfl, rfl⟩)
        | (go_at_call 8; (with_reducible refine (KFW.out _ HA0.out.bel).mono ?_); rintro e w1 ⟨rfl, hb1⟩
           have HA1 := Lib.hid (HA0.out.next hb1)
           obtain ⟨t0, t1, t2, hlt, _⟩ := HA1.out
           clear hb1)
        | (go_at_call 10; (with_reducible refine (KP.out _ HA1.out.bel).mono ?_); rintro e w2 ⟨rfl, hb2⟩
           have HA2 := Lib.hid (HA1.out.next hb2)
           have HA3 := Lib.hid (HA2.out.alloc (.cells #[.slice none 0 0, .string ⟨#[]⟩, .int .i64 0] 24))
           obtain ⟨t0, t1, t2, hlt, _⟩ := HA3.out
           clear hb2)
        | (go_at_call 11; (with_reducible refine (KQ.out _ HA3.out.bel).mono ?_); rintro e w3 ⟨rfl, hb3⟩
           have HA4 := Lib.hid (HA3.out.next hb3)
           have HA5 := Lib.hid (HA4.out.alloc (.cells #[.slice none 0 0, .string ⟨#[]⟩, .int .i64 0] 24))
           clear hb3)
        | (go_at_call 9; (with_reducible refine (KAW.out _ HA5.out.bel).mono ?_); rintro e w5 ⟨rfl, hb5⟩
           have HA6 := Lib.hid (HA5.out.next hb5)
           clear hb5))
      go_ret
      exact ⟨rfl, HA6.out.bel⟩
    · clear hlo
      go_enter Tryd.func3, Tryd.ntmps3
      go_wp2_with (first
        | (go_at_call 7; (with_reducible refine (KSM.out _).mono ?_); rintro e w0 ⟨rfl, rfl⟩)
        | (go_at_call 8; (with_reducible refine (KFW.out _ HA0.out.bel).mono ?_); rintro e w1 ⟨rfl, hb1⟩
           have HA1 := Lib.hid (HA0.out.next hb1)
           obtain ⟨t0, t1, t2, hlt, _⟩ := HA1.out
           clear hb1)
        | (go_at_call 10; (with_reducible refine (KP.out _ HA1.out.bel).mono ?_); rintro e w2 ⟨rfl, hb2⟩
           have HA2 := Lib.hid (HA1.out.next hb2)
           have HA3 := Lib.hid (HA2.out.alloc (.cells #[.slice none 0 0, .string ⟨#[]⟩, .int .i64 0] 24))
           obtain ⟨t0, t1, t2, hlt, _⟩ := HA3.out
           clear hb2)
        | (go_at_call 11; (with_reducible refine (KQ.out _ HA3.out.bel).mono ?_); rintro e w3 ⟨rfl, hb3⟩
           have HA4 := Lib.hid (HA3.out.next hb3)
           have HA5 := Lib.hid (HA4.out.alloc (.cells #[.slice none 0 0, .string ⟨#[]⟩, .int .i64 0] 24))
           clear hb3)
        | (go_at_call 9; (with_reducible refine (KAW.out _ HA5.out.bel).mono ?_); rintro e w5 ⟨rfl, hb5⟩
           have HA6 := Lib.hid (HA5.out.next hb5)
           clear hb5))
      go_ret
      exact ⟨rfl, HA6.out.bel⟩
theorem law_bits (bits : Int) (vals : List ByteArray) (A : Option Addr) (n c : Nat) (seed : ByteArray) (z : Int) (w : World) (hn : vals.length = n) (hm : n ≤ maxLen) (hsl : SLs w w.heap.size A vals) (hT : Tab w) (hT10 : Tab10 w) :
    Calls Tryd.prog 3 #[.int .i64 bits, .agg #[.slice A n c, .string seed, .int .i64 z]] w fun e w' => e = .returned (.bool true) ∧ Below w.heap.size w w' := by
  have KAW := Lib.hid (fun wq (h1 : Below w.heap.size w wq) => law11_awake wq (hT.below h1) (hT10.below h1))
  have HA0 := Lib.hid (BoxT.start w A n c seed z)
  have KSM := Lib.hid (fun wq => law11_small bits wq)
  cases hsm : smallT bits
  · rw [hsm] at KSM
    clear hn hm hsl hT hT10 hsm
    go_enter Tryd.func3, Tryd.ntmps3
    go_wp2_with (first
      | (go_at_call 7; (with_reducible refine (KSM.out _).mono ?_); rintro e w0 ⟨rfl, rfl⟩)
      | (go_at_call 9; (with_reducible refine (KAW.out _ HA0.out.bel).mono ?_); rintro e w5 ⟨rfl, hb5⟩
         have HA6 := Lib.hid (HA0.out.next hb5)
         clear hb5))
    go_ret
    exact ⟨rfl, HA6.out.bel⟩
  · by_cases hf : FewP vals seed z
    · have KFW : ∀ wq, Below w.heap.size w wq → Calls Tryd.prog 8 #[.agg #[.slice A n c, .string seed, .int .i64 z]] wq fun e w' => e = .returned (.bool true) ∧ Below wq.heap.size wq w' := fun wq h1 => few_is vals A n c wq.heap.size seed z wq hn hm ((hsl.below h1).more h1.size) (Nat.le_refl _) true ⟨fun _ => hf, fun _ => rfl⟩
      clear KAW HA0 KSM
      by_cases h1 : (primeD bits vals seed z).1 = 0
      · by_cases h2 : (safeD bits vals seed z).1 = 0
        · exact law_bits_a bits vals A n c seed z w hn hm hsl hT hT10 hsm hf KFW h1 h2
        · exact law_bits_b bits vals A n c seed z w hn hm hsl hT hT10 hsm hf KFW h1 h2
      · by_cases h2 : (safeD bits vals seed z).1 = 0
        · exact law_bits_c bits vals A n c seed z w hn hm hsl hT hT10 hsm hf KFW h1 h2
        · exact law_bits_d bits vals A n c seed z w hn hm hsl hT hT10 hsm hf KFW h1 h2
    · have KFW := Lib.hid (fun wq (h1 : Below w.heap.size w wq) => few_is vals A n c wq.heap.size seed z wq hn hm ((hsl.below h1).more h1.size) (Nat.le_refl _) false ⟨fun h => (by cases h), fun h => absurd h hf⟩)
      rw [hsm] at KSM
      clear hn hm hsl hT hT10 hsm hf
      go_enter Tryd.func3, Tryd.ntmps3
      go_wp2_with (first
        | (go_at_call 7; (with_reducible refine (KSM.out _).mono ?_); rintro e w0 ⟨rfl, rfl⟩)
        | (go_at_call 8; (with_reducible refine (KFW.out _ HA0.out.bel).mono ?_); rintro e w1 ⟨rfl, hb1⟩
           have HA1 := Lib.hid (HA0.out.next hb1)
           clear hb1)
        | (go_at_call 9; (with_reducible refine (KAW.out _ HA1.out.bel).mono ?_); rintro e w5 ⟨rfl, hb5⟩
           have HA6 := Lib.hid (HA1.out.next hb5)
           clear hb5))
      go_ret
      exact ⟨rfl, HA6.out.bel⟩

end Go.Proofs.YtfggpgiinihflaaDoor
