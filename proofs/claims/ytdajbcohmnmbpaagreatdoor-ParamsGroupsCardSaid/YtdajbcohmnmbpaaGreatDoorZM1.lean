/- Plain law: below 2^24 a number that passes the test of primality is prime. A finite check over the least divisors, by the kernel. No program in sight. The walks of package params: the tests of a search. The walks of package params: the tape is well-formed. Plain law: what a search over a tape finds. Plain laws: what the searches of params find; the coins that were used, as a list, give the same. No program in sight. -/
import Derived.Test.YtdajbcohmnmbpaaGreatDoorBA
import Derived.Test.YtdajbcohmnmbpaaGreatDoorBZ
import Derived.Test.YtdajbcohmnmbpaaGreatDoorBP
namespace Go.Proofs.YtdajbcohmnmbpaaGreatDoor
open Go
set_option linter.unusedVariables false
set_option maxRecDepth 100000

theorem sqr_ones {n x i : Nat} (hn : 2 ≤ n) (h : sqr n x i = 1) : ∀ k, sqr n x (i + k) = 1
  | 0 => h
  | k + 1 => by
    rw [← Nat.add_assoc, ← sqr_succ, sqr_ones hn h k]
    exact Nat.mod_eq_of_lt (by omega)
theorem pred_sqr {n : Nat} (hn : 2 ≤ n) : (n - 1) * (n - 1) % n = 1 := by
  obtain ⟨m, rfl⟩ : ∃ m, n = m + 2 := ⟨n - 2, by omega⟩
  show (m + 1) * (m + 1) % (m + 2) = 1
  have : (m + 1) * (m + 1) = (m + 2) * m + 1 := by
    simp only [Nat.add_mul, Nat.mul_add, Nat.mul_one, Nat.one_mul]
    omega
  rw [this, Nat.mul_add_mod]
  exact Nat.mod_eq_of_lt (by omega)
theorem sqr_last {n x i j : Nat} (hn : 2 ≤ n) (h : sqr n x i = n - 1) (hj : i < j) : sqr n x j = 1 := by
  have : sqr n x (i + 1) = 1 := by rw [← sqr_succ, h, pred_sqr hn]
  have := sqr_ones hn this (j - (i + 1))
  rwa [show i + 1 + (j - (i + 1)) = j by omega] at this
theorem tz_pos {n : Nat} (h3 : 3 ≤ n) (h : n < 18446744073709551616) (ho : n % 2 = 1) : 1 ≤ tz n := by
  have e := odd_back (n := n) (by omega) h
  have : tz n = Lib.ctzFrom 64 (n - 1) := by unfold tz Lib.ctz; rw [if_neg (by omega)]
  obtain ⟨m, hm, _⟩ := Lib.ctzFrom_spec 64 (n - 1) (by omega) (by omega)
  rcases Nat.eq_zero_or_pos (tz n) with h0 | h0
  · rw [← this, h0] at hm
    simp at hm
    omega
  · exact h0
theorem strong_fermat {n a : Nat} (h3 : 3 ≤ n) (h : n < 18446744073709551616) (ho : n % 2 = 1) (hs : strongB n a = true) : a ^ (n - 1) % n = 1 := by
  have ht := tz_pos h3 h ho
  have hx : first n a < n := Nat.mod_lt _ (by omega)
  have e : sqr n (first n a) (tz n) = a ^ (n - 1) % n := by
    unfold sqr first
    rw [← Nat.pow_mod, ← Nat.pow_mul, odd_back (by omega) h, ← Nat.pow_mod]
  rw [← e]
  unfold strongB at hs
  rw [Bool.or_eq_true, Bool.or_eq_true, List.any_eq_true, beq_iff_eq, beq_iff_eq] at hs
  rcases hs with h1 | h1 | ⟨j, hj, h1⟩
  · have := sqr_ones (n := n) (by omega) (by rw [sqr_zero hx]; exact h1) (tz n)
    rwa [Nat.zero_add] at this
  · exact sqr_last (i := 0) (by omega) (by rw [sqr_zero hx]; exact h1) ht
  · rw [beq_iff_eq] at h1
    rw [List.mem_range] at hj
    exact sqr_last (by omega) h1 (by omega)
/-- The power of a number with three digits of base 256, with small powers on the way. -/
def fer (a n : Nat) : Nat :=
  Nat.mod (Nat.mul (Nat.mod (Nat.pow (Nat.mod (Nat.mul (Nat.mod (Nat.pow (Nat.mod (Nat.pow a (Nat.div (Nat.sub n 1) 65536)) n) 256) n) (Nat.pow a (Nat.mod (Nat.div (Nat.sub n 1) 256) 256))) n) 256) n) (Nat.pow a (Nat.mod (Nat.sub n 1) 256))) n
theorem fer_eq (a n : Nat) : fer a n = a ^ (n - 1) % n := by
  show ((((a ^ ((n - 1) / 65536) % n) ^ 256 % n) * a ^ ((n - 1) / 256 % 256) % n) ^ 256 % n) * a ^ ((n - 1) % 256) % n = a ^ (n - 1) % n
  have s : ∀ x y, ((x % n) ^ 256 % n) * y % n = x ^ 256 * y % n := fun x y => by
    rw [Nat.mod_mul_mod, Nat.mul_mod, ← Nat.pow_mod, ← Nat.mul_mod]
  rw [s (a ^ ((n - 1) / 65536)), s, ← Nat.pow_mul, ← Nat.pow_add, ← Nat.pow_mul, ← Nat.pow_add]
  congr 2
  omega
theorem ne_of_bne {x y : Nat} (h : (x != y) = true) : x ≠ y := by simpa using h
/-- All divisors of p - 1 below it: their power of one base is not 1. -/
def fullP (p : Nat) : Bool :=
  (List.range 64).all fun i => i == 0 || ((Nat.mod (p - 1) i != 0 || Nat.ble (p - 1) i || basesL.any fun a => Nat.mod (Nat.pow a i) p != 1) && (i == 1 || Nat.mod (p - 1) i != 0 || basesL.any fun a => Nat.mod (Nat.pow a (Nat.div (p - 1) i)) p != 1))
theorem fullP_at {p g : Nat} (h : fullP p = true) (hp : p ≤ 4096) (hg : g ∣ p - 1) (hlt : g < p - 1) : ∃ a, a ∈ basesL ∧ a ^ g % p ≠ 1 := by
  obtain ⟨k, hk⟩ := hg
  unfold fullP at h
  rw [List.all_eq_true] at h
  have hg0 : g ≠ 0 := by intro e; rw [e] at hk; omega
  have hk0 : k ≠ 0 := by intro e; rw [e] at hk; omega
  have hk1 : k ≠ 1 := by intro e; rw [e] at hk; omega
  rcases Nat.lt_or_ge g 64 with h1 | h1
  · have := h g (List.mem_range.2 h1)
    rw [Bool.or_eq_true, Bool.and_eq_true] at this
    rcases this with h2 | ⟨h2, _⟩
    · exact absurd (by simpa using h2) hg0
    · rw [Bool.or_eq_true, Bool.or_eq_true, List.any_eq_true] at h2
      rcases h2 with (h3 | h3) | ⟨a, ha, h3⟩
      · have : (p - 1) % g = 0 := by rw [hk]; exact Nat.mul_mod_right _ _
        exact absurd this (ne_of_bne h3)
      · have := Nat.le_of_ble_eq_true h3
        omega
      · exact ⟨a, ha, ne_of_bne h3⟩
  · rcases Nat.lt_or_ge k 64 with h4 | h4
    · have := h k (List.mem_range.2 h4)
      rw [Bool.or_eq_true, Bool.and_eq_true] at this
      rcases this with h2 | ⟨_, h2⟩
      · exact absurd (by simpa using h2) hk0
      · rw [Bool.or_eq_true, Bool.or_eq_true, List.any_eq_true] at h2
        have hd : (p - 1) / k = g := by rw [hk]; exact Nat.mul_div_cancel _ (by omega)
        rcases h2 with (h3 | h3) | ⟨a, ha, h3⟩
        · exact absurd (by simpa using h3) hk1
        · have : (p - 1) % k = 0 := by rw [hk]; exact Nat.mul_mod_left _ _
          exact absurd this (ne_of_bne h3)
        · refine ⟨a, ha, ?_⟩
          have h5 : a ^ ((p - 1) / k) % p ≠ 1 := ne_of_bne h3
          rwa [hd] at h5
    · have := Nat.mul_le_mul h1 h4
      omega
/-- The product of the bases. -/
def primor : Nat := 7420738134810
/-- The number with the least divisor p and the round t is no number that passes. -/
def candN (n : Nat) : Bool := Nat.ble 16777216 n || (Nat.gcd n primor != 1 || (fer 2 n != 1 || (fer 3 n != 1 || isS n == false)))
def checkP (p : Nat) : Bool :=
  ([2, 3, 5, 7, 11, 13, 17, 19, 23, 29, 31, 37, 41, 43, 47, 53, 59, 61].any fun d => Nat.blt d p && Nat.mod p d == 0) ||
    (fullP p && (List.range (Nat.div 16777216 (Nat.mul p (p - 1)) + 1)).all fun t => t == 0 || candN (Nat.mul p (Nat.add 1 (Nat.mul (p - 1) t))))
theorem check_a : ((List.range 20).all fun i => checkP (i + 41)) = true := by decide +kernel
theorem check_b : ((List.range 60).all fun i => checkP (i + 61)) = true := by decide +kernel
theorem check_c : ((List.range 400).all fun i => checkP (i + 121)) = true := by decide +kernel
theorem check_d : ((List.range 3600).all fun i => checkP (i + 521)) = true := by decide +kernel
theorem check_at {p : Nat} (h1 : 41 ≤ p) (h2 : p ≤ 4096) : checkP p = true := by
  have ha := check_a
  have hb := check_b
  have hc := check_c
  have hd := check_d
  rw [List.all_eq_true] at ha hb hc hd
  rcases Nat.lt_or_ge p 61 with h | h
  · have := ha (p - 41) (List.mem_range.2 (by omega)); rwa [show p - 41 + 41 = p by omega] at this
  · rcases Nat.lt_or_ge p 121 with h | h
    · have := hb (p - 61) (List.mem_range.2 (by omega)); rwa [show p - 61 + 61 = p by omega] at this
    · rcases Nat.lt_or_ge p 521 with h | h
      · have := hc (p - 121) (List.mem_range.2 (by omega)); rwa [show p - 121 + 121 = p by omega] at this
      · have := hd (p - 521) (List.mem_range.2 (by omega)); rwa [show p - 521 + 521 = p by omega] at this
theorem pow_gcd_one {p a x y : Nat} (hp : 2 ≤ p) (hx : a ^ x % p = 1) (hy : a ^ y % p = 1) : a ^ Nat.gcd x y % p = 1 := by
  induction x, y using Nat.gcd.induction with
  | H0 n => rwa [Nat.gcd_zero_left]
  | H1 m n hm ih =>
    rw [Nat.gcd_rec]
    refine ih ?_ hx
    have e : a ^ n = a ^ (n % m) * (a ^ m) ^ (n / m) := by rw [← Nat.pow_mul, ← Nat.pow_add, Nat.mod_add_div]
    rw [e, Nat.mul_mod, Nat.pow_mod (a ^ m), hx, Nat.one_pow, Nat.mod_eq_of_lt (show 1 < p by omega), Nat.mul_one, Nat.mod_mod] at hy
    exact hy
/-- The least divisor from 2 on. -/
theorem least_div {n d : Nat} (h2 : 2 ≤ d) (hd : n % d = 0) : ∃ p, 2 ≤ p ∧ p ≤ d ∧ n % p = 0 ∧ ∀ e, 2 ≤ e → e < p → n % e ≠ 0 := by
  induction d using Nat.strongRecOn with
  | _ d ih =>
    by_cases h : ∃ e, 2 ≤ e ∧ e < d ∧ n % e = 0
    · obtain ⟨e, he, hlt, h0⟩ := h
      obtain ⟨p, hp, hle, hr⟩ := ih e hlt he h0
      exact ⟨p, hp, by omega, hr⟩
    · exact ⟨d, h2, Nat.le_refl _, hd, fun e he hlt h0 => h ⟨e, he, hlt, h0⟩⟩
theorem small_div : ∀ d, d < 41 → 2 ≤ d → ∃ b, b ∈ basesL ∧ d % b = 0 := by decide
theorem bases_small : ∀ b ∈ basesL, 2 ≤ b ∧ b < 41 ∧ primor % b = 0 ∧ ∀ d, d < 7 → 2 ≤ d → d * d ≤ b → b % d ≠ 0 := by decide
theorem gcd_primor {n : Nat} (h : ∀ e, 2 ≤ e → e < 41 → n % e ≠ 0) : Nat.gcd n primor = 1 := by
  have hp : Nat.gcd n primor ∣ primor := Nat.gcd_dvd_right _ _
  rcases Nat.eq_zero_or_pos (Nat.gcd n primor - 1) with h0 | h0
  · have : 0 < Nat.gcd n primor := Nat.gcd_pos_of_pos_right _ (by decide)
    omega
  · exfalso
    have hc : ∀ b ∈ basesL, Nat.Coprime (Nat.gcd n primor) b := by
      intro b hb
      obtain ⟨b2, b41, bp, bd⟩ := bases_small b hb
      have hbp : primeT b := ⟨b2, fun d h2 hd => bd d (by
        rcases Nat.lt_or_ge d 7 with h7 | h7
        · exact h7
        · have := Nat.mul_le_mul h7 h7
          omega) h2 hd⟩
      refine hbp.coprime fun e => ?_
      have : b ∣ n := Nat.dvd_trans (Nat.dvd_of_mod_eq_zero e) (Nat.gcd_dvd_left _ _)
      exact h b b2 b41 (Nat.mod_eq_zero_of_dvd this)
    have hall : ∀ l : List Nat, (∀ b ∈ l, Nat.Coprime (Nat.gcd n primor) b) → Nat.Coprime (Nat.gcd n primor) (prodF l) := by
      intro l
      induction l with
      | nil => intro _; exact Nat.coprime_one_right _
      | cons x l ih => intro h; rw [prodF_cons]; exact Nat.Coprime.mul_right (h x (by simp)) (ih fun b hb => h b (by simp [hb]))
    have hco := hall basesL hc
    have e : prodF basesL = primor := by decide
    rw [e] at hco
    have : Nat.gcd (Nat.gcd n primor) primor = 1 := hco
    rw [Nat.gcd_eq_left hp] at this
    omega
/-- Below 2^24 the test finds primes alone. -/
theorem isS_24 {n : Nat} (hs : isS n = true) (hn : n < 16777216) : primeT n := by
  have h2 : 2 ≤ n := by
    rcases Nat.lt_or_ge n 2 with h | h
    · rw [isS_small h] at hs; cases hs
    · exact h
  refine ⟨h2, fun d hd2 hdd hd0 => ?_⟩
  obtain ⟨p, hp2, hpd, hp0, hmin⟩ := least_div hd2 hd0
  have hpp : p * p ≤ n := Nat.le_trans (Nat.mul_le_mul hpd hpd) hdd
  have hbase : ∀ b ∈ basesL, n % b = 0 → n = b := by
    intro b hb h0
    unfold isS at hs
    rw [if_neg (by omega)] at hs
    cases hf : basesL.find? (fun p => n % p == 0) with
    | none =>
      rw [List.find?_eq_none] at hf
      exact absurd h0 (by simpa using hf b hb)
    | some c =>
      rw [hf] at hs
      have hnc : n = c := by simpa using hs
      have hc := List.mem_of_find?_eq_some hf
      obtain ⟨c2, c41, _, cd⟩ := bases_small c hc
      obtain ⟨b2, _, _, _⟩ := bases_small b hb
      have hcp : primeT c := ⟨c2, fun d h2 hd => cd d (by
        rcases Nat.lt_or_ge d 7 with h7 | h7
        · exact h7
        · have := Nat.mul_le_mul h7 h7
          omega) h2 hd⟩
      rcases Nat.lt_or_ge b c with hl | hl
      · rw [hnc] at h0
        exact absurd h0 (hcp.no b2 hl)
      · have := Nat.le_of_dvd (by omega) (Nat.dvd_of_mod_eq_zero h0)
        omega
  have hp41 : 41 ≤ p := by
    rcases Nat.lt_or_ge p 41 with h | h
    · exfalso
      obtain ⟨b, hb, h0⟩ := small_div p h hp2
      have hbn : n % b = 0 := Nat.mod_eq_zero_of_dvd (Nat.dvd_trans (Nat.dvd_of_mod_eq_zero h0) (Nat.dvd_of_mod_eq_zero hp0))
      have e := hbase b hb hbn
      have hb1 := Nat.le_of_dvd (by omega) (Nat.dvd_of_mod_eq_zero h0)
      have := Nat.mul_le_mul hp2 (Nat.le_refl p)
      omega
    · exact h
  have hp4 : p ≤ 4096 := by
    rcases Nat.lt_or_ge 4096 p with h | h
    · have := Nat.mul_le_mul (Nat.le_of_lt h) (Nat.le_of_lt h)
      omega
    · exact h
  have hnob : ∀ b ∈ basesL, n % b ≠ 0 := by
    intro b hb h0
    obtain ⟨b2, b41, _, _⟩ := bases_small b hb
    exact hmin b b2 (by omega) h0
  have hstr : ∀ b ∈ basesL, strongB n b = true := by
    have : isS n = basesL.all (strongB n) := by
      unfold isS
      rw [if_neg (by omega), List.find?_eq_none.2 (fun b hb => by simpa using hnob b hb)]
    rw [this, List.all_eq_true] at hs
    exact hs
  have hodd : n % 2 = 1 := by
    have := hnob 2 (by decide)
    omega
  have h64 : n < 18446744073709551616 := by omega
  have hf : ∀ b ∈ basesL, b ^ (n - 1) % n = 1 := fun b hb => strong_fermat (by omega) h64 hodd (hstr b hb)
  have hpn : p ∣ n := Nat.dvd_of_mod_eq_zero hp0
  have hpr : primeT p := ⟨hp2, fun e he hee h0 => by
    have hep : e < p := by
      rcases Nat.lt_or_ge e p with h | h
      · exact h
      · have h1 := Nat.mul_le_mul h h
        have h2 := Nat.mul_le_mul hp2 (Nat.le_refl p)
        omega
    exact hmin e he hep (Nat.mod_eq_zero_of_dvd (Nat.dvd_trans (Nat.dvd_of_mod_eq_zero h0) hpn))⟩
  have hfp : ∀ b ∈ basesL, b ^ (n - 1) % p = 1 := fun b hb => by
    have := congrArg (· % p) (hf b hb)
    simp only [Nat.mod_mod_of_dvd _ hpn] at this
    rw [this]
    exact Nat.mod_eq_of_lt (by omega)
  have hfq : ∀ b ∈ basesL, b ^ (p - 1) % p = 1 := fun b hb => by
    obtain ⟨b2, b41, _, _⟩ := bases_small b hb
    exact fermat hpr (by rw [Nat.mod_eq_of_lt (by omega)]; omega)
  have hck := check_at hp41 hp4
  unfold checkP at hck
  rw [Bool.or_eq_true] at hck
  rcases hck with h | h
  · rw [List.any_eq_true] at h
    obtain ⟨e, he, h⟩ := h
    rw [Bool.and_eq_true] at h
    have he2 : 2 ≤ e := by
      have : ∀ e ∈ [2, 3, 5, 7, 11, 13, 17, 19, 23, 29, 31, 37, 41, 43, 47, 53, 59, 61], 2 ≤ e := by decide
      exact this e he
    have hlt : e < p := by
      have := h.1
      rwa [Nat.blt_eq] at this
    have h0 : p % e = 0 := eq_of_beq h.2
    exact hmin e he2 hlt (Nat.mod_eq_zero_of_dvd (Nat.dvd_trans (Nat.dvd_of_mod_eq_zero h0) hpn))
  · rw [Bool.and_eq_true] at h
    obtain ⟨hfull, hall⟩ := h
    have hdvd : p - 1 ∣ n - 1 := by
      have hg : Nat.gcd (n - 1) (p - 1) ∣ p - 1 := Nat.gcd_dvd_right _ _
      rcases Nat.lt_or_ge (Nat.gcd (n - 1) (p - 1)) (p - 1) with hl | hl
      · obtain ⟨a, ha, hne⟩ := fullP_at hfull hp4 hg hl
        exact absurd (pow_gcd_one hp2 (hfp a ha) (hfq a ha)) hne
      · have : Nat.gcd (n - 1) (p - 1) = p - 1 := Nat.le_antisymm (Nat.le_of_dvd (by omega) hg) hl
        rw [← this]
        exact Nat.gcd_dvd_left _ _
    obtain ⟨m, hm⟩ := hpn
    have hm2 : p ≤ m := by
      rcases Nat.lt_or_ge m p with h | h
      · have := Nat.mul_lt_mul_of_pos_left h (show 0 < p by omega)
        omega
      · exact h
    have hm1 : p - 1 ∣ m - 1 := by
      have e : n - 1 = (p - 1) * m + (m - 1) := by
        rw [hm, Nat.sub_mul, Nat.one_mul]
        have := Nat.mul_le_mul (show 1 ≤ p by omega) (Nat.le_refl m)
        omega
      rw [e] at hdvd
      exact (Nat.dvd_add_right (Nat.dvd_mul_right _ _)).1 hdvd
    obtain ⟨t, ht⟩ := hm1
    have hmt : m = 1 + (p - 1) * t := by omega
    have ht0 : t ≠ 0 := by
      intro e
      rw [e] at hmt
      omega
    have htb : t < 16777216 / (p * (p - 1)) + 1 := by
      refine Nat.lt_succ_of_le ((Nat.le_div_iff_mul_le (Nat.mul_pos (by omega) (by omega))).2 ?_)
      have e : t * (p * (p - 1)) = p * ((p - 1) * t) := by
        rw [Nat.mul_left_comm, Nat.mul_comm t]
      rw [e]
      have h1 : p * ((p - 1) * t) ≤ p * m := Nat.mul_le_mul_left p (by omega)
      omega
    rw [List.all_eq_true] at hall
    have hc := hall t (List.mem_range.2 htb)
    rw [Bool.or_eq_true] at hc
    rcases hc with hc | hc
    · exact ht0 (by simpa using hc)
    · have hc : candN n = true := by
        rw [hm, hmt]
        exact hc
      unfold candN at hc
      rw [Bool.or_eq_true, Bool.or_eq_true, Bool.or_eq_true, Bool.or_eq_true] at hc
      rcases hc with h | h | h | h | h
      · have := Nat.le_of_ble_eq_true h
        omega
      · rw [gcd_primor (fun e he he41 => hmin e he (by omega))] at h
        exact absurd h (by decide)
      · rw [fer_eq, hf 2 (by decide)] at h
        exact absurd h (by decide)
      · rw [fer_eq, hf 3 (by decide)] at h
        exact absurd h (by decide)
      · rw [hs] at h
        exact absurd h (by decide)

end Go.Proofs.YtdajbcohmnmbpaaGreatDoor

namespace Go.Proofs.YtdajbcohmnmbpaaGreatDoor
open Go.RowKit
set_option maxRecDepth 100000
set_option linter.unusedVariables false
set_option maxHeartbeats 4000000

theorem prime_Is_B (n : Nat) (w : World) (hn : n < 18446744073709551616) (hT : Tab w) :
    Calls Tryz.prog 84 #[.string (B n)] w fun e w' => e = .returned (.tuple #[.bool (isS n), .int .i64 0]) ∧ Below w.heap.size w w' := by
  have hsm : smallS (B n) = (n, 0) := by unfold smallS; rw [valid_B (Nat.lt_trans hn (by decide)), if_pos rfl, if_pos (B_size_le'.2 (Nat.lt_of_lt_of_le hn (by decide))), num_B]
  have KS := Lib.hid (fun w => prime_small (B n) w)
  rw [hsm] at KS
  have KI := Lib.hid (fun w (hT : Tab w) => prime_is n w hn hT)
  have HT := Lib.hid hT
  clear hsm hT
  go_enter Tryz.func84, Tryz.ntmps84
  go_wp2_with (first
    | (go_at_call 152; (with_reducible refine (KS.out _).mono ?_); rintro e w1 ⟨rfl, rfl⟩)
    | (go_at_call 153; (with_reducible refine (KI.out _ HT.out).mono ?_); rintro e w2 ⟨rfl, hb2⟩; have HB2 := Lib.hid hb2; clear hb2))
  go_ret2
  exact ⟨rfl, HB2.out⟩
theorem params_isPrime (n : Nat) (w : World) (hn : n < 18446744073709551616) (hT : Tab w) :
    Calls Tryz.prog 49 #[.int .u64 n] w fun e w' => e = .returned (.bool (isS n)) ∧ Below w.heap.size w w' := by
  have KO := Lib.hid (fun w => natural_Of n w hn)
  have HT := Lib.hid hT
  have KP := Lib.hid (fun w (hT : Tab w) => prime_Is_B n w hn hT)
  clear hT
  cases hp : isS n
  · rw [hp] at KP
    clear hp
    go_enter Tryz.func49, Tryz.ntmps49
    go_wp2_with (first
      | (go_at_call 27; (with_reducible refine (KO.out _).mono ?_); rintro e w1 ⟨rfl, hb1⟩; have HB1 := Lib.hid hb1; clear hb1)
      | (go_at_call 84; (with_reducible refine (KP.out _ (HT.out.below HB1.out)).mono ?_); rintro e w2 ⟨rfl, hb2⟩; have HB2 := Lib.hid hb2; clear hb2))
    go_ret
    exact ⟨rfl, HB1.out.trans (HB2.out.mono HB1.out.size)⟩
  · rw [hp] at KP
    clear hp
    go_enter Tryz.func49, Tryz.ntmps49
    go_wp2_with (first
      | (go_at_call 27; (with_reducible refine (KO.out _).mono ?_); rintro e w1 ⟨rfl, hb1⟩; have HB1 := Lib.hid hb1; clear hb1)
      | (go_at_call 84; (with_reducible refine (KP.out _ (HT.out.below HB1.out)).mono ?_); rintro e w2 ⟨rfl, hb2⟩; have HB2 := Lib.hid hb2; clear hb2))
    go_ret
    exact ⟨rfl, HB1.out.trans (HB2.out.mono HB1.out.size)⟩

/-- The test of Prime: the candidate, and whether it is taken. -/
def tryP (bits c : Nat) : Nat × Bool := (2 ^ (bits - 1) + c, isS (2 ^ (bits - 1) + c))
/-- The test of SafePrime. -/
def tryQ (bits c : Nat) : Nat × Bool := (2 * (2 ^ (bits - 2) + c) + 1, isS (2 ^ (bits - 2) + c) && isS (2 * (2 ^ (bits - 2) + c) + 1))
theorem params_Prime1 (g bits c : Nat) (w : World) (hb : w.cell? ⟨g, 0, none⟩ = some (.int .i64 bits)) (h2 : 2 ≤ bits) (h60 : bits ≤ 60) (hc : c < 2 ^ (bits - 1)) (hT : Tab w) :
    Calls Tryz.prog 115 #[.int .u64 c, .pointer (some ⟨g, 0, none⟩)] w fun e w' => e = .returned (.tuple #[.int .u64 (tryP bits c).1, .bool (tryP bits c).2]) ∧ Below w.heap.size w w' := by
  obtain ⟨k, hk⟩ : ∃ k, k = bits - 1 := ⟨_, rfl⟩
  have hp : 2 ^ k ≤ 2 ^ 59 := Nat.pow_le_pow_right (by decide) (by omega)
  obtain ⟨P, hP⟩ : ∃ P, P = 2 ^ k := ⟨_, rfl⟩
  obtain ⟨N, hN⟩ : ∃ N, N = P + c := ⟨_, rfl⟩
  have hr : tryP bits c = (N, isS N) := by unfold tryP; rw [hN, hP, hk]
  rw [hr]
  have q1 : (bits : Int) - 1 = (k : Int) := by omega
  have hP59 : P ≤ 576460752303423488 := by rw [hP]; exact hp
  have hcP : c < P := by rw [hP, hk]; exact hc
  have q2 : IntKind.u64.wrap ((2 : Int) ^ k) = (P : Int) := by
    have : ((2 : Int) ^ k) = (P : Int) := by rw [hP]; exact (Int.natCast_pow 2 k).symm
    rw [this, IntKind.wrap_u64]
    omega
  have q3 : IntKind.u64.wrap ((P : Int) + (c : Int)) = (N : Int) := by rw [IntKind.wrap_u64]; omega
  have hN64 : N < 18446744073709551616 := by omega
  have KI := Lib.hid (fun w (hT : Tab w) => params_isPrime N w hN64 hT)
  have HT := Lib.hid hT
  have hk64 : k < 64 := by omega
  clear hr hT hN64 hp hc hk hP hN hP59 hcP
  go_enter Tryz.func115, Tryz.ntmps115
  go_wp2_with (first | (go_at_call 49; (with_reducible refine (KI.out _ HT.out).mono ?_); rintro e w1 ⟨rfl, hb1⟩; have HB1 := Lib.hid hb1; clear hb1))
  go_ret2
  exact ⟨rfl, HB1.out⟩

theorem params_SafePrime1 (g bits c : Nat) (w : World) (hb : w.cell? ⟨g, 0, none⟩ = some (.int .i64 bits)) (h2 : 3 ≤ bits) (h60 : bits ≤ 60) (hc : c < 2 ^ (bits - 2)) (hT : Tab w) :
    Calls Tryz.prog 122 #[.int .u64 c, .pointer (some ⟨g, 0, none⟩)] w fun e w' => e = .returned (.tuple #[.int .u64 (tryQ bits c).1, .bool (tryQ bits c).2]) ∧ Below w.heap.size w w' := by
  obtain ⟨k, hk⟩ : ∃ k, k = bits - 2 := ⟨_, rfl⟩
  have hp : 2 ^ k ≤ 2 ^ 58 := Nat.pow_le_pow_right (by decide) (by omega)
  obtain ⟨P, hP⟩ : ∃ P, P = 2 ^ k := ⟨_, rfl⟩
  obtain ⟨H, hH⟩ : ∃ H, H = P + c := ⟨_, rfl⟩
  obtain ⟨N, hN⟩ : ∃ N, N = 2 * H + 1 := ⟨_, rfl⟩
  have hr : tryQ bits c = (N, isS H && isS N) := by unfold tryQ; rw [hN, hH, hP, hk]
  rw [hr]
  have q1 : (bits : Int) - 2 = (k : Int) := by omega
  have hP59 : P ≤ 288230376151711744 := by rw [hP]; exact hp
  have hcP : c < P := by rw [hP, hk]; exact hc
  have q2 : IntKind.u64.wrap ((2 : Int) ^ k) = (P : Int) := by
    have : ((2 : Int) ^ k) = (P : Int) := by rw [hP]; exact (Int.natCast_pow 2 k).symm
    rw [this, IntKind.wrap_u64]
    omega
  have q3 : IntKind.u64.wrap ((P : Int) + (c : Int)) = (H : Int) := by rw [IntKind.wrap_u64]; omega
  have q4 : IntKind.u64.wrap (2 * (H : Int)) = 2 * (H : Int) := by rw [IntKind.wrap_u64]; omega
  have q5 : IntKind.u64.wrap (2 * (H : Int) + 1) = (N : Int) := by rw [IntKind.wrap_u64]; omega
  have q6 : (2 * (H : Int) + 1) = (N : Int) := by omega
  have q7 : IntKind.u64.wrap (N : Int) = (N : Int) := by rw [IntKind.wrap_u64]; omega
  have hH64 : H < 18446744073709551616 := by omega
  have hN64 : N < 18446744073709551616 := by omega
  have KH := Lib.hid (fun w (hT : Tab w) => params_isPrime H w hH64 hT)
  have KN := Lib.hid (fun w (hT : Tab w) => params_isPrime N w hN64 hT)
  have HT := Lib.hid hT
  have hk64 : k < 64 := by omega
  clear hr hT hN64 hH64 hp hc hk hP hN hP59 hcP hH
  cases hs : isS H
  · rw [hs] at KH
    clear hs
    go_enter Tryz.func122, Tryz.ntmps122
    go_wp2_with (first | (go_at_call 49; (with_reducible refine (KH.out _ HT.out).mono ?_); rintro e w1 ⟨rfl, hb1⟩; have HB1 := Lib.hid hb1; clear hb1))
    go_ret2
    exact ⟨rfl, HB1.out⟩
  · rw [hs] at KH
    clear hs
    go_enter Tryz.func122, Tryz.ntmps122
    go_wp2_with (first | (go_at_call 49; (with_reducible refine (KH.out _ HT.out).mono ?_); rintro e w1 ⟨rfl, hb1⟩; have HB1 := Lib.hid hb1; clear hb1) | (go_at_call 49; (with_reducible refine (KN.out _ (HT.out.below HB1.out)).mono ?_); rintro e w2 ⟨rfl, hb2⟩; have HB2 := Lib.hid hb2; clear hb2))
    go_ret2
    exact ⟨rfl, HB1.out.trans (HB2.out.mono HB1.out.size)⟩

end Go.Proofs.YtdajbcohmnmbpaaGreatDoor

namespace Go.Proofs.YtdajbcohmnmbpaaGreatDoor
open Go.RowKit
set_option maxRecDepth 100000
set_option linter.unusedVariables false
set_option maxHeartbeats 4000000

theorem drawS_err (vals : List ByteArray) (seed : ByteArray) (z : Int) (m : Nat) : (drawS vals seed z m).1 = 0 ∨ (drawS vals seed z m).1 = 2 ∨ (drawS vals seed z m).1 = 14 := by
  unfold drawS
  split
  · split
    · exact .inr (.inl rfl)
    · exact .inl rfl
  · split
    · exact .inr (.inr rfl)
    · cases tryF seed z m with
      | some x => exact .inl rfl
      | none => exact .inr (.inr rfl)
theorem below_good (vals : List ByteArray) (seed : ByteArray) (z : Int) (m : Nat) : ((belowS vals seed z m).1 != 3) = goodT vals z := by
  unfold belowS
  cases goodT vals z
  · rfl
  · rw [if_pos rfl]
    rcases drawS_err vals seed z m with h | h | h <;> rw [h] <;> rfl
/-- The error of what Below hands back. -/
theorem below_err (vals : List ByteArray) (A : Option Addr) (n c : Nat) (seed : ByteArray) (z : Int) (m : Nat) (w : World) (hn : vals.length = n) (hm : n ≤ 1000) (h : SLs w w.heap.size A vals)
    (hm0 : 1 ≤ m) (hm1 : m < 18446744073709551616) (hs : seed.size ≤ 100000) (hT : Tab10 w) :
    Calls Tryz.prog 82 #[.agg #[.slice A n c, .string seed, .int .i64 z], .string (B m)] w fun e w' => (∃ x A' n' c' seed' z', e = .returned (.tuple #[.string x, .agg #[.slice A' n' c', .string seed', .int .i64 z'], .int .i64 (belowS vals seed z m).1])) ∧ Below w.heap.size w w' := by
  refine (coins_Below vals A n c seed z m w hn hm h hm0 hm1 hs hT).mono ?_
  rintro e w' ⟨⟨h0, g, rfl, _⟩ | ⟨_, rfl⟩, hb⟩
  · exact ⟨⟨_, _, _, _, _, _, by rw [h0]⟩, hb⟩
  · exact ⟨⟨_, _, _, _, _, _, rfl⟩, hb⟩
/-- A tape in its box. -/
structure BoxT (w wx : World) (A : Option Addr) (n c : Nat) (seed : ByteArray) (z : Int) : Prop where
  t0 : wx.cell? ⟨w.heap.size, 0, none⟩ = some (.slice A n c)
  t1 : wx.cell? ⟨w.heap.size, 1, none⟩ = some (.string seed)
  t2 : wx.cell? ⟨w.heap.size, 2, none⟩ = some (.int .i64 z)
  lt : w.heap.size < wx.heap.size
  bel : Below w.heap.size w wx
section
variable {w wx wy : World} {A : Option Addr} {n c : Nat} {seed : ByteArray} {z : Int}
theorem BoxT.start (w : World) (A : Option Addr) (n c : Nat) (seed : ByteArray) (z : Int) : BoxT w (w.alloc (.cells #[.slice A n c, .string seed, .int .i64 z] 24)) A n c seed z :=
  ⟨by simp [go_sem], by simp [go_sem], by simp [go_sem], by simp, (Below.refl _ _).alloc (Nat.le_refl _) _⟩
theorem BoxT.next (h : BoxT w wx A n c seed z) (hb : Below wx.heap.size wx wy) : BoxT w wy A n c seed z :=
  ⟨(hb.cell (p := ⟨w.heap.size, 0, none⟩) h.lt).trans h.t0, (hb.cell (p := ⟨w.heap.size, 1, none⟩) h.lt).trans h.t1, (hb.cell (p := ⟨w.heap.size, 2, none⟩) h.lt).trans h.t2, Nat.lt_of_lt_of_le h.lt hb.size, h.bel.trans (hb.mono (Nat.le_of_lt h.lt))⟩
theorem BoxT.drew (h : BoxT w wx A n c seed z) : BoxT w wx.drew A n c seed z := h.next (Below.refl _ _).drew
theorem BoxT.alloc (h : BoxT w wx A n c seed z) (o : Obj) : BoxT w (wx.alloc o) A n c seed z := h.next ((Below.refl _ _).alloc (Nat.le_refl _) _)
end
theorem cell_in {W : World} {a : Addr} {v : Value} (h : W.cell? a = some v) : a.block < W.heap.size := by
  rcases Nat.lt_or_ge a.block W.heap.size with h2 | h2
  · exact h2
  · simp [World.cell?, Array.getElem?_eq_none h2] at h
/-- A box of a tape that was just made, behind a call. -/
structure NewT (W : World) (g : Nat) : Prop where
  c0 : W.cell? ⟨g, 0, none⟩ = some (.slice none 0 0)
  c1 : W.cell? ⟨g, 1, none⟩ = some (.string ⟨#[]⟩)
  c2 : W.cell? ⟨g, 2, none⟩ = some (.int .i64 0)
  f0 : W.frozen? ⟨g, 0, none⟩ = false
  f1 : W.frozen? ⟨g, 1, none⟩ = false
  f2 : W.frozen? ⟨g, 2, none⟩ = false
theorem NewT.next {W W' : World} {g : Nat} (h : NewT W g) (hb : Below W.heap.size W W') : NewT W' g :=
  have lt : g < W.heap.size := cell_in (a := ⟨g, 0, none⟩) h.c0
  ⟨(hb.cell (p := ⟨g, 0, none⟩) lt).trans h.c0, (hb.cell (p := ⟨g, 1, none⟩) lt).trans h.c1, (hb.cell (p := ⟨g, 2, none⟩) lt).trans h.c2, (hb.frozen (p := ⟨g, 0, none⟩) lt).trans h.f0, (hb.frozen (p := ⟨g, 1, none⟩) lt).trans h.f1, (hb.frozen (p := ⟨g, 2, none⟩) lt).trans h.f2⟩
theorem NewT.made {W W' : World} (hb : Below (W.alloc (.cells #[.slice none 0 0, .string ⟨#[]⟩, .int .i64 0] 24)).heap.size (W.alloc (.cells #[.slice none 0 0, .string ⟨#[]⟩, .int .i64 0] 24)) W') : NewT W' W.heap.size :=
  NewT.next ⟨by simp [go_sem], by simp [go_sem], by simp [go_sem], by simp [go_sem], by simp [go_sem], by simp [go_sem]⟩ hb
theorem NewT.made2 {w W' : World} {o : Obj} (hb : Below ((w.alloc o).drew.alloc (.cells #[.slice none 0 0, .string ⟨#[]⟩, .int .i64 0] 24)).heap.size ((w.alloc o).drew.alloc (.cells #[.slice none 0 0, .string ⟨#[]⟩, .int .i64 0] 24)) W') : NewT W' (w.heap.size + 1) := by
  have h := NewT.made hb
  have e : (w.alloc o).drew.heap.size = w.heap.size + 1 := World.size_alloc w o
  rwa [e] at h
theorem NewT.made3 {w W' : World} {o : Obj} (hb : Below ((w.alloc o).alloc (.cells #[.slice none 0 0, .string ⟨#[]⟩, .int .i64 0] 24)).drew.heap.size ((w.alloc o).alloc (.cells #[.slice none 0 0, .string ⟨#[]⟩, .int .i64 0] 24)).drew W') : NewT W' (w.heap.size + 1) := NewT.made2 hb
theorem params_formed (vals : List ByteArray) (A : Option Addr) (n c : Nat) (seed : ByteArray) (z : Int) (w : World) (hn : vals.length = n) (hm : n ≤ 1000) (h : SLs w w.heap.size A vals) (hs : seed.size ≤ 100000) (hT : Tab10 w) :
    Calls Tryz.prog 48 #[.agg #[.slice A n c, .string seed, .int .i64 z]] w fun e w' => e = .returned (.bool (goodT vals z)) ∧ Below w.heap.size w w' := by
  have KO := Lib.hid (fun w => natural_Of' (1 : Int) 1 w rfl (by decide))
  have KB := Lib.hid (fun wq (h1 : Below w.heap.size w wq) => below_err vals A n c seed z 1 wq hn hm ((h.below h1).more h1.size) (by decide) (by decide) hs (hT.below h1))
  have hg := below_good vals seed z 1
  obtain ⟨d, hd⟩ : ∃ d, d = (belowS vals seed z 1).1 := ⟨_, rfl⟩
  rw [← hd] at KB hg
  have HG := Lib.hid hg
  clear hn h hT hd hg
  have HA0 := Lib.hid (BoxT.start w A n c seed z)
  go_enter Tryz.func48, Tryz.ntmps48
  go_wp2_with fail
  have d0 := HA0.out.t0
  have d1 := HA0.out.t1
  have d2 := HA0.out.t2
  go_region_held3 (fun w' => w'.cell? ⟨w.heap.size, 0, none⟩ = some (.slice A n c) ∧ w'.cell? ⟨w.heap.size, 1, none⟩ = some (.string seed) ∧ w'.cell? ⟨w.heap.size, 2, none⟩ = some (.int .i64 z)) (first | go_keep)
    (first
      | (go_at_call 27; (with_reducible refine (KO.out _).mono ?_); rintro e w1 ⟨rfl, hb1⟩
         have HA1 : Hid (BoxT w w1 A n c seed z) := by first | exact Lib.hid (HA0.out.drew.next hb1) | exact Lib.hid ((HA0.out.drew.alloc _).next hb1)
         have d0 := HA1.out.t0
         have d1 := HA1.out.t1
         have d2 := HA1.out.t2
         have e1 : ¬ w1.heap.size = w.heap.size := Nat.ne_of_gt HA1.out.lt
         have e2 : ¬ w.heap.size = w1.heap.size := Nat.ne_of_lt HA1.out.lt
         (first | (with_reducible (have hn := NewT.made2 hb1)) | (with_reducible (have hn := NewT.made3 hb1)) | skip)
         (first | (obtain ⟨n0, n1, n2, m0, m1, m2⟩ := hn) | skip))
      | (go_at_call 82; (with_reducible refine (KB.out _ (by first | exact HA1.out.bel | exact (HA1.out.alloc _).bel)).mono ?_); rintro e w2 ⟨⟨x, A', n', c', seed', z', rfl⟩, hb2⟩
         have HA2 : Hid (BoxT w w2 A n c seed z) := by first | exact Lib.hid (HA1.out.next hb2) | exact Lib.hid ((HA1.out.alloc _).next hb2)
         have d0 := HA2.out.t0
         have d1 := HA2.out.t1
         have d2 := HA2.out.t2
         have e3 : ¬ w2.heap.size = w.heap.size := Nat.ne_of_gt HA2.out.lt
         have e4 : ¬ w.heap.size = w2.heap.size := Nat.ne_of_lt HA2.out.lt
         (first | (with_reducible (have hp := NewT.made hb2)) | (have hp := NewT.next ⟨n0, n1, n2, m0, m1, m2⟩ hb2) | skip)
         (first | (obtain ⟨p0, p1, p2, q0, q1, q2⟩ := hp) | skip)))
  all_goals
    have hle1 : w.heap.size ≤ w1.heap.size := Nat.le_of_lt HA1.out.lt
    have hle2 : w.heap.size ≤ w.heap.size + 1 := Nat.le_succ _
    go_wp2_with fail
    go_ret
    refine ⟨ret_bool HG.out, ?_⟩
    first
      | exact ((HA2.out.bel.setCell (p := ⟨w1.heap.size, 0, none⟩) hle1 _).setCell (p := ⟨w1.heap.size, 1, none⟩) hle1 _).setCell (p := ⟨w1.heap.size, 2, none⟩) hle1 _
      | exact ((HA2.out.bel.setCell (p := ⟨w.heap.size + 1, 0, none⟩) hle2 _).setCell (p := ⟨w.heap.size + 1, 1, none⟩) hle2 _).setCell (p := ⟨w.heap.size + 1, 2, none⟩) hle2 _
      | exact HA2.out.bel.alloc HA2.out.bel.size _

end Go.Proofs.YtdajbcohmnmbpaaGreatDoor

namespace Go.Proofs.YtdajbcohmnmbpaaGreatDoor
open Go.RowKit
set_option maxRecDepth 100000
set_option linter.unusedVariables false
set_option maxHeartbeats 4000000

theorem drawS_lt {vals : List ByteArray} {seed : ByteArray} {z : Int} {m : Nat} (hm : 1 ≤ m) (h : (drawS vals seed z m).1 = 0) : (drawS vals seed z m).2 < m := by
  unfold drawS at h ⊢
  split at h
  · rename_i hz
    rw [if_pos hz]
    split at h
    · cases h
    · rename_i hv
      rw [if_neg hv]
      show num _ < m
      omega
  · rename_i hz
    rw [if_neg hz]
    split at h
    · cases h
    · rename_i hq
      rw [if_neg hq]
      cases ht : tryF seed z m with
      | none => rw [ht] at h; cases h
      | some x =>
        show x < m
        unfold tryF at ht
        obtain ⟨l1, a, l2, _, hx, _⟩ := List.findSome?_eq_some_iff.1 ht
        split at hx
        · rename_i hlt
          cases hx
          exact hlt
        · cases hx
theorem belowS_lt {vals : List ByteArray} {seed : ByteArray} {z : Int} {m : Nat} (hm : 1 ≤ m) (h : (belowS vals seed z m).1 = 0) : (belowS vals seed z m).2 < m := by
  unfold belowS at h ⊢
  split at h
  · rename_i hg
    rw [if_pos hg]
    exact drawS_lt hm h
  · cases h
/-- A search: the error, the number that is found, and where the tape then stands. -/
def searchS (vals : List ByteArray) (seed : ByteArray) (m : Nat) (f : Nat → Nat × Bool) : Nat → Int → Int × Nat × Int
  | 0, z => (12, 0, 0)
  | k + 1, z =>
    if (belowS vals seed z m).1 = 0 then
      if (f (belowS vals seed z m).2).2 = true then (0, (f (belowS vals seed z m).2).1, z + 1) else searchS vals seed m f k (z + 1)
    else ((belowS vals seed z m).1, 0, 0)
/-- What a search hands back. -/
def searchPost (d : Int × Nat × Int) (n : Nat) (seed : ByteArray) (vals : List ByteArray) (e : Ending) (w' : World) : Prop :=
  (d.1 = 0 ∧ ∃ g, e = .returned (.tuple #[.string (B d.2.1), .agg #[.slice (some ⟨g, 0, none⟩) n n, .string seed, .int .i64 d.2.2], .int .i64 0]) ∧ SLs w' w'.heap.size (some ⟨g, 0, none⟩) vals) ∨
  (d.1 ≠ 0 ∧ e = .returned (.tuple #[.string ⟨#[]⟩, .agg #[.slice none 0 0, .string ⟨#[]⟩, .int .i64 0], .int .i64 d.1]))
theorem searchS_err {vals : List ByteArray} {seed : ByteArray} {m : Nat} {f : Nat → Nat × Bool} {k : Nat} {z : Int} (h : (belowS vals seed z m).1 ≠ 0) : searchS vals seed m f (k + 1) z = ((belowS vals seed z m).1, 0, 0) := by
  rw [searchS, if_neg h]
theorem searchS_hit {vals : List ByteArray} {seed : ByteArray} {m : Nat} {f : Nat → Nat × Bool} {k : Nat} {z : Int} (h : (belowS vals seed z m).1 = 0) (hf : (f (belowS vals seed z m).2).2 = true) : searchS vals seed m f (k + 1) z = (0, (f (belowS vals seed z m).2).1, z + 1) := by
  rw [searchS, if_pos h, if_pos hf]
theorem searchS_on {vals : List ByteArray} {seed : ByteArray} {m : Nat} {f : Nat → Nat × Bool} {k : Nat} {z : Int} (h : (belowS vals seed z m).1 = 0) (hf : (f (belowS vals seed z m).2).2 = false) : searchS vals seed m f (k + 1) z = searchS vals seed m f k (z + 1) := by
  rw [searchS, if_pos h, hf, if_neg (by decide)]

end Go.Proofs.YtdajbcohmnmbpaaGreatDoor

namespace Go.Proofs.YtdajbcohmnmbpaaGreatDoor
open Go.RowKit
set_option maxRecDepth 100000
set_option linter.unusedVariables false
set_option maxHeartbeats 1000000

/-- A search that succeeds: how many coins it used, and what they are. -/
theorem searchS_ok {vals : List ByteArray} {seed : ByteArray} {m : Nat} {f : Nat → Nat × Bool} : ∀ (k : Nat) (z : Int), (searchS vals seed m f k z).1 = 0 →
    ∃ t : Nat, 1 ≤ t ∧ t ≤ k ∧ (∀ i, i < t → (belowS vals seed (z + (i : Nat)) m).1 = 0) ∧ (∀ i, i + 1 < t → (f (belowS vals seed (z + (i : Nat)) m).2).2 = false) ∧
      (f (belowS vals seed (z + ((t - 1 : Nat) : Int)) m).2).2 = true ∧ searchS vals seed m f k z = (0, (f (belowS vals seed (z + ((t - 1 : Nat) : Int)) m).2).1, z + (t : Nat)) := by
  intro k
  induction k with
  | zero => intro z h; cases h
  | succ k ih =>
    intro z h
    by_cases h0 : (belowS vals seed z m).1 = 0
    · cases hf : (f (belowS vals seed z m).2).2
      · rw [searchS_on h0 hf] at h ⊢
        obtain ⟨t, t1, tk, ha, hb, hc, hd⟩ := ih (z + 1) h
        have e : ∀ i : Nat, z + 1 + (i : Int) = z + ((i + 1 : Nat) : Int) := fun i => by omega
        simp only [e] at ha hb hc hd
        rw [show t - 1 + 1 = t by omega] at hc hd
        refine ⟨t + 1, by omega, by omega, fun i hi => ?_, fun i hi => ?_, ?_, ?_⟩
        · rcases i with _ | i
          · simpa using h0
          · exact ha i (by omega)
        · rcases i with _ | i
          · simpa using hf
          · exact hb i (by omega)
        · rw [show t + 1 - 1 = t by omega]; exact hc
        · rw [show t + 1 - 1 = t by omega]; exact hd
      · rw [searchS_hit h0 hf]
        refine ⟨1, by decide, by omega, fun i hi => ?_, fun i hi => by omega, ?_, ?_⟩
        · have : i = 0 := by omega
          subst this
          simpa using h0
        · simpa using hf
        · simp
    · rw [searchS_err h0] at h
      exact absurd h h0
/-- What a search finds: one coin below the bound. -/
theorem searchS_coin {vals : List ByteArray} {seed : ByteArray} {m : Nat} {f : Nat → Nat × Bool} {k : Nat} {z : Int} (hm : 1 ≤ m) (h : (searchS vals seed m f k z).1 = 0) :
    ∃ c, c < m ∧ (f c).2 = true ∧ (searchS vals seed m f k z).2.1 = (f c).1 ∧ z < (searchS vals seed m f k z).2.2 := by
  obtain ⟨t, t1, tk, ha, hb, hc, hd⟩ := searchS_ok k z h
  refine ⟨_, belowS_lt hm (ha (t - 1) (by omega)), hc, ?_, ?_⟩
  · rw [hd]
  · rw [hd]; show z < z + (t : Nat); omega
theorem below_is_good {vals : List ByteArray} {seed : ByteArray} {m : Nat} {z : Int} (h : (belowS vals seed z m).1 = 0) : goodT vals z = true := by
  cases hg : goodT vals z
  · unfold belowS at h
    rw [hg] at h
    cases h
  · rfl
/-- The coins of a search, from a point on. -/
def coinsL (vals : List ByteArray) (seed : ByteArray) (m : Nat) (z : Int) (t : Nat) : List Nat := (List.range t).map fun i => (belowS vals seed (z + (i : Nat)) m).2
theorem coinsL_len (vals : List ByteArray) (seed : ByteArray) (m : Nat) (z : Int) (t : Nat) : (coinsL vals seed m z t).length = t := by simp [coinsL]
theorem coinsL_get {vals : List ByteArray} {seed : ByteArray} {m : Nat} {z : Int} {t i : Nat} (h : i < t) : ((coinsL vals seed m z t).map B).getD i ByteArray.empty = B (belowS vals seed (z + (i : Nat)) m).2 := by
  rw [sgetD_lt (by rw [List.length_map, coinsL_len]; exact h)]
  simp [coinsL]
/-- Explicit values are drawn one by one. -/
theorem below_vals {L : List Nat} {m i : Nat} (hm : m < 18446744073709551616) (hL : ∀ c, c ∈ L → c < m) (hi : i < L.length) (h2 : L.length ≤ 1000) : belowS (L.map B) ByteArray.empty (i : Nat) m = (0, L[i]) := by
  have hlt : L[i] < m := hL _ (List.getElem_mem hi)
  have hl64 : L[i] < lim := Nat.lt_trans (Nat.lt_trans hlt hm) (by decide)
  have hg : goodT (L.map B) (i : Nat) = true := by
    unfold goodT
    have : (L.map B).all valid = true := by
      rw [List.all_eq_true]
      intro x hx
      obtain ⟨c, hc, rfl⟩ := List.mem_map.1 hx
      exact valid_B (Nat.lt_trans (Nat.lt_trans (hL c hc) hm) (by decide))
    rw [this, decide_eq_true (by omega : (0 : Int) ≤ (i : Nat)), decide_eq_true (by omega : ((i : Nat) : Int) ≤ 2147483647)]
    rfl
  unfold belowS
  rw [hg, if_pos rfl]
  unfold drawS
  rw [if_pos (by rw [List.length_map]; omega)]
  have e : (L.map B).getD ((i : Nat) : Int).toNat ByteArray.empty = B L[i] := by
    rw [show ((i : Nat) : Int).toNat = i by omega, sgetD_lt (by rw [List.length_map]; exact hi)]
    simp
  rw [e, num_B, if_neg (by omega)]
/-- With its coins as a list the search finds the same. -/
theorem searchS_replay {vals : List ByteArray} {seed : ByteArray} {m : Nat} {f : Nat → Nat × Bool} {k t : Nat} {z : Int} {d : Int × Nat × Int} (hm0 : 1 ≤ m) (hm : m < 18446744073709551616) (hd : d = searchS vals seed m f k z) (h : d.1 = 0) (ht : d.2.2 - z = (t : Nat)) (ht4 : t ≤ 400) :
    searchS ((coinsL vals seed m z t).map B) ByteArray.empty m f k 0 = ((0 : Int), d.2.1, ((t : Nat) : Int)) ∧ 1 ≤ t := by
  obtain ⟨t', t1, tk, ha, hb, hc, hdd⟩ := searchS_ok k z (by rw [← hd]; exact h)
  rw [← hd] at hdd
  have e : t' = t := by
    rw [hdd] at ht
    have : z + (t' : Nat) - z = ((t : Nat) : Int) := ht
    omega
  subst e
  have hmem : ∀ c, c ∈ coinsL vals seed m z t' → c < m := by
    intro c hcm
    obtain ⟨i, hi, rfl⟩ := List.mem_map.1 hcm
    exact belowS_lt hm0 (ha i (List.mem_range.1 hi))
  have hlen := coinsL_len vals seed m z t'
  have hat : ∀ i, i < t' → belowS ((coinsL vals seed m z t').map B) ByteArray.empty (i : Nat) m = (0, (belowS vals seed (z + (i : Nat)) m).2) := by
    intro i hi
    rw [below_vals hm hmem (by rw [hlen]; exact hi) (by rw [hlen]; omega)]
    congr 1
    simp [coinsL]
  have aux : ∀ j i, i + j + 1 = t' → ∀ kk, j + 1 ≤ kk → searchS ((coinsL vals seed m z t').map B) ByteArray.empty m f kk (i : Nat) = ((0 : Int), d.2.1, ((t' : Nat) : Int)) := by
    intro j
    induction j with
    | zero =>
      intro i hi kk hk
      obtain ⟨kk, rfl⟩ : ∃ q, kk = q + 1 := ⟨kk - 1, by omega⟩
      have hh := hat i (by omega)
      rw [searchS_hit (by rw [hh]) (by rw [hh, show i = t' - 1 by omega]; exact hc), hh, hdd, show i = t' - 1 by omega]
      show ((0 : Int), _, ((t' - 1 : Nat) : Int) + 1) = _
      rw [show ((t' - 1 : Nat) : Int) + 1 = (t' : Int) by omega]
    | succ j ih =>
      intro i hi kk hk
      obtain ⟨kk, rfl⟩ : ∃ q, kk = q + 1 := ⟨kk - 1, by omega⟩
      have hh := hat i (by omega)
      rw [searchS_on (by rw [hh]) (by rw [hh]; exact hb i (by omega))]
      have := ih (i + 1) (by omega) kk (by omega)
      rwa [show ((i + 1 : Nat) : Int) = (i : Int) + 1 by omega] at this
  refine ⟨?_, t1⟩
  have := aux (t' - 1) 0 (by omega) k (by omega)
  simpa using this
/-- Prime and SafePrime on a tape. -/
def primeD (bits : Int) (vals : List ByteArray) (seed : ByteArray) (z : Int) : Int × Nat × Int :=
  if goodT vals z = true then (if 2 ≤ bits ∧ bits ≤ 60 then searchS vals seed (2 ^ (bits.toNat - 1)) (tryP bits.toNat) 65536 z else (2, 0, 0)) else (3, 0, 0)
def safeD (bits : Int) (vals : List ByteArray) (seed : ByteArray) (z : Int) : Int × Nat × Int :=
  if goodT vals z = true then (if 3 ≤ bits ∧ bits ≤ 60 then searchS vals seed (2 ^ (bits.toNat - 2)) (tryQ bits.toNat) 65536 z else (2, 0, 0)) else (3, 0, 0)
/-- The loop of Main: the least even factor from a point on whose product is prime. -/
def mainL (q : Nat) : Nat → Nat → Option Nat
  | 0, _ => none
  | r + 1, k => if isS (k * q + 1) = true then some (k * q + 1) else mainL q r (k + 2)
/-- The loop of Whole: the first other prime. -/
def wholeL (bits : Int) (vals : List ByteArray) (seed : ByteArray) (p : Nat) : Nat → Int → Int × Nat × Int
  | 0, z => (12, 0, 0)
  | r + 1, z => if (safeD bits vals seed z).1 = 0 then (if (safeD bits vals seed z).2.1 = p then wholeL bits vals seed p r (safeD bits vals seed z).2.2 else safeD bits vals seed z) else ((safeD bits vals seed z).1, 0, 0)
theorem primeD_found {bits : Int} {vals : List ByteArray} {seed : ByteArray} {z : Int} (h : (primeD bits vals seed z).1 = 0) :
    2 ≤ bits ∧ bits ≤ 60 ∧ goodT vals z = true ∧ 2 ^ (bits.toNat - 1) ≤ (primeD bits vals seed z).2.1 ∧ (primeD bits vals seed z).2.1 < 2 ^ bits.toNat ∧ isS (primeD bits vals seed z).2.1 = true ∧ z < (primeD bits vals seed z).2.2 := by
  unfold primeD at h ⊢
  split at h
  · rename_i hg
    rw [if_pos hg]
    split at h
    · rename_i hb
      rw [if_pos hb]
      obtain ⟨c, hc, hs, hv, hz⟩ := searchS_coin (Nat.pow_pos (by decide)) h
      rw [hv]
      refine ⟨hb.1, hb.2, hg, ?_, ?_, hs, hz⟩
      · exact Nat.le_add_right _ _
      · show 2 ^ (bits.toNat - 1) + c < 2 ^ bits.toNat
        obtain ⟨k, hk⟩ : ∃ k, bits.toNat = k + 1 := ⟨bits.toNat - 1, by omega⟩
        rw [hk, Nat.add_sub_cancel] at hc ⊢
        have := Nat.pow_succ 2 k
        omega
    · exact absurd h (by decide)
  · exact absurd h (by decide)
theorem safeD_found {bits : Int} {vals : List ByteArray} {seed : ByteArray} {z : Int} (h : (safeD bits vals seed z).1 = 0) :
    3 ≤ bits ∧ bits ≤ 60 ∧ goodT vals z = true ∧ 2 ^ (bits.toNat - 1) ≤ (safeD bits vals seed z).2.1 ∧ (safeD bits vals seed z).2.1 < 2 ^ bits.toNat ∧ isS (safeD bits vals seed z).2.1 = true ∧ isS ((safeD bits vals seed z).2.1 / 2) = true ∧ (safeD bits vals seed z).2.1 % 2 = 1 ∧ z < (safeD bits vals seed z).2.2 := by
  unfold safeD at h ⊢
  split at h
  · rename_i hg
    rw [if_pos hg]
    split at h
    · rename_i hb
      rw [if_pos hb]
      obtain ⟨c, hc, hs, hv, hz⟩ := searchS_coin (Nat.pow_pos (by decide)) h
      rw [hv]
      obtain ⟨k, hk⟩ : ∃ k, bits.toNat = k + 2 := ⟨bits.toNat - 2, by omega⟩
      have hs' : (isS (2 ^ (bits.toNat - 2) + c) && isS (2 * (2 ^ (bits.toNat - 2) + c) + 1)) = true := hs
      rw [Bool.and_eq_true] at hs'
      have e : (tryQ bits.toNat c).1 = 2 * (2 ^ (bits.toNat - 2) + c) + 1 := rfl
      rw [e]
      refine ⟨hb.1, hb.2, hg, ?_, ?_, hs'.2, ?_, ?_, hz⟩
      · rw [hk, show k + 2 - 1 = k + 1 by omega, Nat.add_sub_cancel, Nat.pow_succ]
        omega
      · rw [hk, Nat.add_sub_cancel] at hc ⊢
        have h1 := Nat.pow_succ 2 k
        have h2 := Nat.pow_succ 2 (k + 1)
        rw [show k + 2 = k + 1 + 1 from rfl]
        omega
      · rw [show (2 * (2 ^ (bits.toNat - 2) + c) + 1) / 2 = 2 ^ (bits.toNat - 2) + c by omega]
        exact hs'.1
      · omega
    · exact absurd h (by decide)
  · exact absurd h (by decide)

end Go.Proofs.YtdajbcohmnmbpaaGreatDoor
