/- Plain law: below 2^24 a number that passes the test of primality is prime. A finite check over the least divisors, by the kernel. No program in sight. The walks of package params: the tests of a search. The walks of package params: the tape is well-formed. Plain law: what a search over a tape finds. Plain laws: what the searches of params find; the coins that were used, as a list, give the same. No program in sight. -/
import Derived.Test.YtcpglhjmhegfmaaGreatDoorTvBA
import Derived.Test.YtcpglhjmhegfmaaGreatDoorTvY3
import Derived.Test.YtcpglhjmhegfmaaGreatDoorTvBP
import Derived.Deep.RegionLaw
import Derived.Deep.RegionHeld3
import Derived.Deep.DeepCutAuto
import Derived.Deep.CutBlock
namespace Go.Proofs.YtcpglhjmhegfmaaGreatDoor
open Go
set_option linter.unusedVariables false
set_option maxRecDepth 100000
theorem sqr_ones {n x i : Nat} (hn : 2 ≤ n) (h : sqr n x i = 1) : ∀ k, sqr n x (i + k) = 1
  | 0 => h
  | k + 1 => by
    rw [← Nat.add_assoc, ← sqr_succ, sqr_ones hn h k]
    exact Nat.mod_eq_of_lt (by omega)
theorem pred_sqr {n : Nat} (hn : 2 ≤ n) : (n - 1) * (n - 1) % n = 1 := by
  obtain ⟨m, rfl⟩ : ∃ m, n = m + 2 := ⟨n - 2, by omega⟩
  show (m + 1) * (m + 1) % (m + 2) = 1
  have : (m + 1) * (m + 1) = (m + 2) * m + 1 := by
    simp only [Nat.add_mul, Nat.mul_add, Nat.mul_one, Nat.one_mul]
    omega
  rw [this, Nat.mul_add_mod]
  exact Nat.mod_eq_of_lt (by omega)
theorem sqr_last {n x i j : Nat} (hn : 2 ≤ n) (h : sqr n x i = n - 1) (hj : i < j) : sqr n x j = 1 := by
  have : sqr n x (i + 1) = 1 := by rw [← sqr_succ, h, pred_sqr hn]
  have := sqr_ones hn this (j - (i + 1))
  rwa [show i + 1 + (j - (i + 1)) = j by omega] at this
theorem tz_pos {n : Nat} (h3 : 3 ≤ n) (h : n < 18446744073709551616) (ho : n % 2 = 1) : 1 ≤ tz n := by
  have e := odd_back (n := n) (by omega) h
  have : tz n = Lib.ctzFrom 64 (n - 1) := by unfold tz Lib.ctz; rw [if_neg (by omega)]
  obtain ⟨m, hm, _⟩ := Lib.ctzFrom_spec 64 (n - 1) (by omega) (by omega)
  rcases Nat.eq_zero_or_pos (tz n) with h0 | h0
  · rw [← this, h0] at hm
    simp at hm
    omega
  · exact h0
theorem strong_fermat {n a : Nat} (h3 : 3 ≤ n) (h : n < 18446744073709551616) (ho : n % 2 = 1) (hs : strongB n a = true) : a ^ (n - 1) % n = 1 := by
  have ht := tz_pos h3 h ho
  have hx : first n a < n := Nat.mod_lt _ (by omega)
  have e : sqr n (first n a) (tz n) = a ^ (n - 1) % n := by
    unfold sqr first
    rw [← Nat.pow_mod, ← Nat.pow_mul, odd_back (by omega) h, ← Nat.pow_mod]
  rw [← e]
  unfold strongB at hs
  rw [Bool.or_eq_true, Bool.or_eq_true, List.any_eq_true, beq_iff_eq, beq_iff_eq] at hs
  rcases hs with h1 | h1 | ⟨j, hj, h1⟩
  · have := sqr_ones (n := n) (by omega) (by rw [sqr_zero hx]; exact h1) (tz n)
    rwa [Nat.zero_add] at this
  · exact sqr_last (i := 0) (by omega) (by rw [sqr_zero hx]; exact h1) ht
  · rw [beq_iff_eq] at h1
    rw [List.mem_range] at hj
    exact sqr_last (by omega) h1 (by omega)
/-- The power of a number with three digits of base 256, with small powers on the way. -/
def fer (a n : Nat) : Nat :=
  Nat.mod (Nat.mul (Nat.mod (Nat.pow (Nat.mod (Nat.mul (Nat.mod (Nat.pow (Nat.mod (Nat.pow a (Nat.div (Nat.sub n 1) 65536)) n) 256) n) (Nat.pow a (Nat.mod (Nat.div (Nat.sub n 1) 256) 256))) n) 256) n) (Nat.pow a (Nat.mod (Nat.sub n 1) 256))) n
theorem fer_eq (a n : Nat) : fer a n = a ^ (n - 1) % n := by
  show ((((a ^ ((n - 1) / 65536) % n) ^ 256 % n) * a ^ ((n - 1) / 256 % 256) % n) ^ 256 % n) * a ^ ((n - 1) % 256) % n = a ^ (n - 1) % n
  have s : ∀ x y, ((x % n) ^ 256 % n) * y % n = x ^ 256 * y % n := fun x y => by
    rw [Nat.mod_mul_mod, Nat.mul_mod, ← Nat.pow_mod, ← Nat.mul_mod]
  rw [s (a ^ ((n - 1) / 65536)), s, ← Nat.pow_mul, ← Nat.pow_add, ← Nat.pow_mul, ← Nat.pow_add]
  congr 2
  omega
theorem ne_of_bne {x y : Nat} (h : (x != y) = true) : x ≠ y := by simpa using h
/-- All divisors of p - 1 below it: their power of one base is not 1. -/
def fullP (p : Nat) : Bool :=
  (List.range 64).all fun i => i == 0 || ((Nat.mod (p - 1) i != 0 || Nat.ble (p - 1) i || basesL.any fun a => Nat.mod (Nat.pow a i) p != 1) && (i == 1 || Nat.mod (p - 1) i != 0 || basesL.any fun a => Nat.mod (Nat.pow a (Nat.div (p - 1) i)) p != 1))
theorem fullP_at {p g : Nat} (h : fullP p = true) (hp : p ≤ 4096) (hg : g ∣ p - 1) (hlt : g < p - 1) : ∃ a, a ∈ basesL ∧ a ^ g % p ≠ 1 := by
  obtain ⟨k, hk⟩ := hg
  unfold fullP at h
  rw [List.all_eq_true] at h
  have hg0 : g ≠ 0 := by intro e; rw [e] at hk; omega
  have hk0 : k ≠ 0 := by intro e; rw [e] at hk; omega
  have hk1 : k ≠ 1 := by intro e; rw [e] at hk; omega
  rcases Nat.lt_or_ge g 64 with h1 | h1
  · have := h g (List.mem_range.2 h1)
    rw [Bool.or_eq_true, Bool.and_eq_true] at this
    rcases this with h2 | ⟨h2, _⟩
    · exact absurd (by simpa using h2) hg0
    · rw [Bool.or_eq_true, Bool.or_eq_true, List.any_eq_true] at h2
      rcases h2 with (h3 | h3) | ⟨a, ha, h3⟩
      · have : (p - 1) % g = 0 := by rw [hk]; exact Nat.mul_mod_right _ _
        exact absurd this (ne_of_bne h3)
      · have := Nat.le_of_ble_eq_true h3
        omega
      · exact ⟨a, ha, ne_of_bne h3⟩
  · rcases Nat.lt_or_ge k 64 with h4 | h4
    · have := h k (List.mem_range.2 h4)
      rw [Bool.or_eq_true, Bool.and_eq_true] at this
      rcases this with h2 | ⟨_, h2⟩
      · exact absurd (by simpa using h2) hk0
      · rw [Bool.or_eq_true, Bool.or_eq_true, List.any_eq_true] at h2
        have hd : (p - 1) / k = g := by rw [hk]; exact Nat.mul_div_cancel _ (by omega)
        rcases h2 with (h3 | h3) | ⟨a, ha, h3⟩
        · exact absurd (by simpa using h3) hk1
        · have : (p - 1) % k = 0 := by rw [hk]; exact Nat.mul_mod_left _ _
          exact absurd this (ne_of_bne h3)
        · refine ⟨a, ha, ?_⟩
          have h5 : a ^ ((p - 1) / k) % p ≠ 1 := ne_of_bne h3
          rwa [hd] at h5
    · have := Nat.mul_le_mul h1 h4
      omega
/-- The product of the bases. -/
def primor : Nat := 7420738134810
/-- The number with the least divisor p and the round t is no number that passes. -/
def candN (n : Nat) : Bool := Nat.ble 16777216 n || (Nat.gcd n primor != 1 || (fer 2 n != 1 || (fer 3 n != 1 || isS n == false)))
def checkP (p : Nat) : Bool :=
  ([2, 3, 5, 7, 11, 13, 17, 19, 23, 29, 31, 37, 41, 43, 47, 53, 59, 61].any fun d => Nat.blt d p && Nat.mod p d == 0) ||
    (fullP p && (List.range (Nat.div 16777216 (Nat.mul p (p - 1)) + 1)).all fun t => t == 0 || candN (Nat.mul p (Nat.add 1 (Nat.mul (p - 1) t))))
theorem check_a : ((List.range 20).all fun i => checkP (i + 41)) = true := by decide +kernel
theorem check_b : ((List.range 60).all fun i => checkP (i + 61)) = true := by decide +kernel
theorem check_c : ((List.range 400).all fun i => checkP (i + 121)) = true := by decide +kernel
theorem check_d : ((List.range 3600).all fun i => checkP (i + 521)) = true := by decide +kernel
theorem check_at {p : Nat} (h1 : 41 ≤ p) (h2 : p ≤ 4096) : checkP p = true := by
  have ha := check_a
  have hb := check_b
  have hc := check_c
  have hd := check_d
  rw [List.all_eq_true] at ha hb hc hd
  rcases Nat.lt_or_ge p 61 with h | h
  · have := ha (p - 41) (List.mem_range.2 (by omega)); rwa [show p - 41 + 41 = p by omega] at this
  · rcases Nat.lt_or_ge p 121 with h | h
    · have := hb (p - 61) (List.mem_range.2 (by omega)); rwa [show p - 61 + 61 = p by omega] at this
    · rcases Nat.lt_or_ge p 521 with h | h
      · have := hc (p - 121) (List.mem_range.2 (by omega)); rwa [show p - 121 + 121 = p by omega] at this
      · have := hd (p - 521) (List.mem_range.2 (by omega)); rwa [show p - 521 + 521 = p by omega] at this
theorem pow_gcd_one {p a x y : Nat} (hp : 2 ≤ p) (hx : a ^ x % p = 1) (hy : a ^ y % p = 1) : a ^ Nat.gcd x y % p = 1 := by
  induction x, y using Nat.gcd.induction with
  | H0 n => rwa [Nat.gcd_zero_left]
  | H1 m n hm ih =>
    rw [Nat.gcd_rec]
    refine ih ?_ hx
    have e : a ^ n = a ^ (n % m) * (a ^ m) ^ (n / m) := by rw [← Nat.pow_mul, ← Nat.pow_add, Nat.mod_add_div]
    rw [e, Nat.mul_mod, Nat.pow_mod (a ^ m), hx, Nat.one_pow, Nat.mod_eq_of_lt (show 1 < p by omega), Nat.mul_one, Nat.mod_mod] at hy
    exact hy
/-- The least divisor from 2 on. -/
theorem least_div {n d : Nat} (h2 : 2 ≤ d) (hd : n % d = 0) : ∃ p, 2 ≤ p ∧ p ≤ d ∧ n % p = 0 ∧ ∀ e, 2 ≤ e → e < p → n % e ≠ 0 := by
  induction d using Nat.strongRecOn with
  | _ d ih =>
    by_cases h : ∃ e, 2 ≤ e ∧ e < d ∧ n % e = 0
    · obtain ⟨e, he, hlt, h0⟩ := h
      obtain ⟨p, hp, hle, hr⟩ := ih e hlt he h0
      exact ⟨p, hp, by omega, hr⟩
    · exact ⟨d, h2, Nat.le_refl _, hd, fun e he hlt h0 => h ⟨e, he, hlt, h0⟩⟩
theorem small_div : ∀ d, d < 41 → 2 ≤ d → ∃ b, b ∈ basesL ∧ d % b = 0 := by decide
theorem bases_small : ∀ b ∈ basesL, 2 ≤ b ∧ b < 41 ∧ primor % b = 0 ∧ ∀ d, d < 7 → 2 ≤ d → d * d ≤ b → b % d ≠ 0 := by decide
theorem gcd_primor {n : Nat} (h : ∀ e, 2 ≤ e → e < 41 → n % e ≠ 0) : Nat.gcd n primor = 1 := by
  have hp : Nat.gcd n primor ∣ primor := Nat.gcd_dvd_right _ _
  rcases Nat.eq_zero_or_pos (Nat.gcd n primor - 1) with h0 | h0
  · have : 0 < Nat.gcd n primor := Nat.gcd_pos_of_pos_right _ (by decide)
    omega
  · exfalso
    have hc : ∀ b ∈ basesL, Nat.Coprime (Nat.gcd n primor) b := by
      intro b hb
      obtain ⟨b2, b41, bp, bd⟩ := bases_small b hb
      have hbp : primeT b := ⟨b2, fun d h2 hd => bd d (by
        rcases Nat.lt_or_ge d 7 with h7 | h7
        · exact h7
        · have := Nat.mul_le_mul h7 h7
          omega) h2 hd⟩
      refine hbp.coprime fun e => ?_
      have : b ∣ n := Nat.dvd_trans (Nat.dvd_of_mod_eq_zero e) (Nat.gcd_dvd_left _ _)
      exact h b b2 b41 (Nat.mod_eq_zero_of_dvd this)
    have hall : ∀ l : List Nat, (∀ b ∈ l, Nat.Coprime (Nat.gcd n primor) b) → Nat.Coprime (Nat.gcd n primor) (prodF l) := by
      intro l
      induction l with
      | nil => intro _; exact Nat.coprime_one_right _
      | cons x l ih => intro h; rw [prodF_cons]; exact Nat.Coprime.mul_right (h x (by simp)) (ih fun b hb => h b (by simp [hb]))
    have hco := hall basesL hc
    have e : prodF basesL = primor := by decide
    rw [e] at hco
    have : Nat.gcd (Nat.gcd n primor) primor = 1 := hco
    rw [Nat.gcd_eq_left hp] at this
    omega
/-- Below 2^24 the test finds primes alone. -/
theorem isS_24 {n : Nat} (hs : isS n = true) (hn : n < 16777216) : primeT n := by
  have h2 : 2 ≤ n := by
    rcases Nat.lt_or_ge n 2 with h | h
    · rw [isS_small h] at hs; cases hs
    · exact h
  refine ⟨h2, fun d hd2 hdd hd0 => ?_⟩
  obtain ⟨p, hp2, hpd, hp0, hmin⟩ := least_div hd2 hd0
  have hpp : p * p ≤ n := Nat.le_trans (Nat.mul_le_mul hpd hpd) hdd
  have hbase : ∀ b ∈ basesL, n % b = 0 → n = b := by
    intro b hb h0
    unfold isS at hs
    rw [if_neg (by omega)] at hs
    cases hf : basesL.find? (fun p => n % p == 0) with
    | none =>
      rw [List.find?_eq_none] at hf
      exact absurd h0 (by simpa using hf b hb)
    | some c =>
      rw [hf] at hs
      have hnc : n = c := by simpa using hs
      have hc := List.mem_of_find?_eq_some hf
      obtain ⟨c2, c41, _, cd⟩ := bases_small c hc
      obtain ⟨b2, _, _, _⟩ := bases_small b hb
      have hcp : primeT c := ⟨c2, fun d h2 hd => cd d (by
        rcases Nat.lt_or_ge d 7 with h7 | h7
        · exact h7
        · have := Nat.mul_le_mul h7 h7
          omega) h2 hd⟩
      rcases Nat.lt_or_ge b c with hl | hl
      · rw [hnc] at h0
        exact absurd h0 (hcp.no b2 hl)
      · have := Nat.le_of_dvd (by omega) (Nat.dvd_of_mod_eq_zero h0)
        omega
  have hp41 : 41 ≤ p := by
    rcases Nat.lt_or_ge p 41 with h | h
    · exfalso
      obtain ⟨b, hb, h0⟩ := small_div p h hp2
      have hbn : n % b = 0 := Nat.mod_eq_zero_of_dvd (Nat.dvd_trans (Nat.dvd_of_mod_eq_zero h0) (Nat.dvd_of_mod_eq_zero hp0))
      have e := hbase b hb hbn
      have hb1 := Nat.le_of_dvd (by omega) (Nat.dvd_of_mod_eq_zero h0)
      have := Nat.mul_le_mul hp2 (Nat.le_refl p)
      omega
    · exact h
  have hp4 : p ≤ 4096 := by
    rcases Nat.lt_or_ge 4096 p with h | h
    · have := Nat.mul_le_mul (Nat.le_of_lt h) (Nat.le_of_lt h)
      omega
    · exact h
  have hnob : ∀ b ∈ basesL, n % b ≠ 0 := by
    intro b hb h0
    obtain ⟨b2, b41, _, _⟩ := bases_small b hb
    exact hmin b b2 (by omega) h0
  have hstr : ∀ b ∈ basesL, strongB n b = true := by
    have : isS n = basesL.all (strongB n) := by
      unfold isS
      rw [if_neg (by omega), List.find?_eq_none.2 (fun b hb => by simpa using hnob b hb)]
    rw [this, List.all_eq_true] at hs
    exact hs
  have hodd : n % 2 = 1 := by
    have := hnob 2 (by decide)
    omega
  have h64 : n < 18446744073709551616 := by omega
  have hf : ∀ b ∈ basesL, b ^ (n - 1) % n = 1 := fun b hb => strong_fermat (by omega) h64 hodd (hstr b hb)
  have hpn : p ∣ n := Nat.dvd_of_mod_eq_zero hp0
  have hpr : primeT p := ⟨hp2, fun e he hee h0 => by
    have hep : e < p := by
      rcases Nat.lt_or_ge e p with h | h
      · exact h
      · have h1 := Nat.mul_le_mul h h
        have h2 := Nat.mul_le_mul hp2 (Nat.le_refl p)
        omega
    exact hmin e he hep (Nat.mod_eq_zero_of_dvd (Nat.dvd_trans (Nat.dvd_of_mod_eq_zero h0) hpn))⟩
  have hfp : ∀ b ∈ basesL, b ^ (n - 1) % p = 1 := fun b hb => by
    have := congrArg (· % p) (hf b hb)
    simp only [Nat.mod_mod_of_dvd _ hpn] at this
    rw [this]
    exact Nat.mod_eq_of_lt (by omega)
  have hfq : ∀ b ∈ basesL, b ^ (p - 1) % p = 1 := fun b hb => by
    obtain ⟨b2, b41, _, _⟩ := bases_small b hb
    exact fermat hpr (by rw [Nat.mod_eq_of_lt (by omega)]; omega)
  have hck := check_at hp41 hp4
  unfold checkP at hck
  rw [Bool.or_eq_true] at hck
  rcases hck with h | h
  · rw [List.any_eq_true] at h
    obtain ⟨e, he, h⟩ := h
    rw [Bool.and_eq_true] at h
    have he2 : 2 ≤ e := by
      have : ∀ e ∈ [2, 3, 5, 7, 11, 13, 17, 19, 23, 29, 31, 37, 41, 43, 47, 53, 59, 61], 2 ≤ e := by decide
      exact this e he
    have hlt : e < p := by
      have := h.1
      rwa [Nat.blt_eq] at this
    have h0 : p % e = 0 := eq_of_beq h.2
    exact hmin e he2 hlt (Nat.mod_eq_zero_of_dvd (Nat.dvd_trans (Nat.dvd_of_mod_eq_zero h0) hpn))
  · rw [Bool.and_eq_true] at h
    obtain ⟨hfull, hall⟩ := h
    have hdvd : p - 1 ∣ n - 1 := by
      have hg : Nat.gcd (n - 1) (p - 1) ∣ p - 1 := Nat.gcd_dvd_right _ _
      rcases Nat.lt_or_ge (Nat.gcd (n - 1) (p - 1)) (p - 1) with hl | hl
      · obtain ⟨a, ha, hne⟩ := fullP_at hfull hp4 hg hl
        exact absurd (pow_gcd_one hp2 (hfp a ha) (hfq a ha)) hne
      · have : Nat.gcd (n - 1) (p - 1) = p - 1 := Nat.le_antisymm (Nat.le_of_dvd (by omega) hg) hl
        rw [← this]
        exact Nat.gcd_dvd_left _ _
    obtain ⟨m, hm⟩ := hpn
    have hm2 : p ≤ m := by
      rcases Nat.lt_or_ge m p with h | h
      · have := Nat.mul_lt_mul_of_pos_left h (show 0 < p by omega)
        omega
      · exact h
    have hm1 : p - 1 ∣ m - 1 := by
      have e : n - 1 = (p - 1) * m + (m - 1) := by
        rw [hm, Nat.sub_mul, Nat.one_mul]
        have := Nat.mul_le_mul (show 1 ≤ p by omega) (Nat.le_refl m)
        omega
      rw [e] at hdvd
      exact (Nat.dvd_add_right (Nat.dvd_mul_right _ _)).1 hdvd
    obtain ⟨t, ht⟩ := hm1
    have hmt : m = 1 + (p - 1) * t := by omega
    have ht0 : t ≠ 0 := by
      intro e
      rw [e] at hmt
      omega
    have htb : t < 16777216 / (p * (p - 1)) + 1 := by
      refine Nat.lt_succ_of_le ((Nat.le_div_iff_mul_le (Nat.mul_pos (by omega) (by omega))).2 ?_)
      have e : t * (p * (p - 1)) = p * ((p - 1) * t) := by
        rw [Nat.mul_left_comm, Nat.mul_comm t]
      rw [e]
      have h1 : p * ((p - 1) * t) ≤ p * m := Nat.mul_le_mul_left p (by omega)
      omega
    rw [List.all_eq_true] at hall
    have hc := hall t (List.mem_range.2 htb)
    rw [Bool.or_eq_true] at hc
    rcases hc with hc | hc
    · exact ht0 (by simpa using hc)
    · have hc : candN n = true := by
        rw [hm, hmt]
        exact hc
      unfold candN at hc
      rw [Bool.or_eq_true, Bool.or_eq_true, Bool.or_eq_true, Bool.or_eq_true] at hc
      rcases hc with h | h | h | h | h
      · have := Nat.le_of_ble_eq_true h
        omega
      · rw [gcd_primor (fun e he he41 => hmin e he (by omega))] at h
        exact absurd h (by decide)
      · rw [fer_eq, hf 2 (by decide)] at h
        exact absurd h (by decide)
      · rw [fer_eq, hf 3 (by decide)] at h
        exact absurd h (by decide)
      · rw [hs] at h
        exact absurd h (by decide)
end Go.Proofs.YtcpglhjmhegfmaaGreatDoor
namespace Go.Proofs.YtcpglhjmhegfmaaGreatDoor
open Go.RowKit
set_option maxRecDepth 100000
set_option linter.unusedVariables false
set_option maxHeartbeats 4000000
end Go.Proofs.YtcpglhjmhegfmaaGreatDoor
namespace Go.Proofs.YtcpglhjmhegfmaaGreatDoor
open Go.RowKit
set_option maxRecDepth 100000
set_option linter.unusedVariables false
set_option maxHeartbeats 4000000
section
variable {w wx wy : World} {A : Option Addr} {n c : Nat} {seed : ByteArray} {z : Int}
end
end Go.Proofs.YtcpglhjmhegfmaaGreatDoor
namespace Go.Proofs.YtcpglhjmhegfmaaGreatDoor
open Go.RowKit
set_option maxRecDepth 100000
set_option linter.unusedVariables false
set_option maxHeartbeats 4000000
end Go.Proofs.YtcpglhjmhegfmaaGreatDoor
namespace Go.Proofs.YtcpglhjmhegfmaaGreatDoor
open Go.RowKit
set_option maxRecDepth 100000
set_option linter.unusedVariables false
set_option maxHeartbeats 1000000
end Go.Proofs.YtcpglhjmhegfmaaGreatDoor
