/- Plain law: every prime passes the test of primality. Fermat's little theorem, the square roots of 1 modulo a prime. No program in sight. -/
import Derived.Test.YtfggpgiinihflaaDoorPrime
import Derived.Test.YtfggpgiinihflaaDoorJm
import Derived.Test.YtfggpgiinihflaaDoorPow
namespace Go.Proofs.YtfggpgiinihflaaDoor
open Go
set_option linter.unusedVariables false

/-- No number from 2 on whose square is at most n divides n. -/
def primeT (n : Nat) : Prop := 2 ≤ n ∧ ∀ d, 2 ≤ d → d * d ≤ n → n % d ≠ 0
theorem primeT.no {n : Nat} (h : primeT n) {d : Nat} (h2 : 2 ≤ d) (hd : d < n) : n % d ≠ 0 := by
  intro e
  obtain ⟨q, hq⟩ := Nat.dvd_of_mod_eq_zero e
  rcases Nat.le_total d q with hl | hl
  · refine h.2 d h2 ?_ e
    rw [hq]
    exact Nat.mul_le_mul_left d hl
  · have q2 : 2 ≤ q := by
      rcases Nat.lt_or_ge q 2 with hq2 | hq2
      · have : q = 0 ∨ q = 1 := by omega
        rcases this with rfl | rfl <;> simp at hq <;> omega
      · exact hq2
    refine h.2 q q2 ?_ (by rw [hq, Nat.mul_comm]; exact Nat.mul_mod_right _ _)
    rw [hq]
    exact Nat.mul_le_mul_right q hl
theorem primeT.coprime {p a : Nat} (h : primeT p) (h0 : a % p ≠ 0) : Nat.Coprime a p := by
  show Nat.gcd a p = 1
  have hp : 0 < p := by have := h.1; omega
  have hg := Nat.gcd_dvd_right a p
  have hle := Nat.le_of_dvd hp hg
  have hpos : 0 < Nat.gcd a p := Nat.gcd_pos_of_pos_right _ hp
  rcases Nat.lt_or_ge (Nat.gcd a p) 2 with h1 | h1
  · omega
  · rcases Nat.lt_or_ge (Nat.gcd a p) p with h2 | h2
    · exact absurd (Nat.mod_eq_zero_of_dvd hg) (h.no h1 h2)
    · have e : Nat.gcd a p = p := by omega
      have := Nat.gcd_dvd_left a p
      rw [e] at this
      exact absurd (Nat.mod_eq_zero_of_dvd this) h0
theorem primeT.split {p a b : Nat} (h : primeT p) (hd : p ∣ a * b) : p ∣ a ∨ p ∣ b := by
  by_cases h0 : a % p = 0
  · exact .inl (Nat.dvd_of_mod_eq_zero h0)
  · exact .inr ((h.coprime h0).symm.dvd_of_dvd_mul_left hd)
theorem cancel_mod {p a c : Nat} (hc : Nat.Coprime c p) (h : a * c % p = c % p) (ha : 1 ≤ a) : a % p = 1 % p := by
  have hd : p ∣ (a - 1) * c := by
    rw [Nat.sub_mul, Nat.one_mul]
    exact Nat.dvd_of_mod_eq_zero (Nat.sub_mod_eq_zero_of_mod_eq h)
  have hd2 : p ∣ a - 1 := hc.symm.dvd_of_dvd_mul_right hd
  obtain ⟨q, hq⟩ := hd2
  rw [show a = p * q + 1 by omega, Nat.mul_add_mod]
def prodN (l : List Nat) : Nat := l.foldr (· * ·) 1
theorem prodN_cons (a : Nat) (l : List Nat) : prodN (a :: l) = a * prodN l := rfl
theorem prodN_perm {l m : List Nat} (h : l.Perm m) : prodN l = prodN m := by
  induction h with
  | nil => rfl
  | cons x _ ih => rw [prodN_cons, prodN_cons, ih]
  | swap x y l => rw [prodN_cons, prodN_cons, prodN_cons, prodN_cons, Nat.mul_left_comm]
  | trans _ _ ih1 ih2 => exact ih1.trans ih2
theorem prodN_map (p a : Nat) (l : List Nat) : prodN (l.map fun k => a * k % p) % p = a ^ l.length * prodN l % p := by
  induction l with
  | nil => simp [prodN]
  | cons x l ih =>
    rw [List.map_cons, prodN_cons, prodN_cons, List.length_cons, Nat.mul_mod, ih, ← Nat.mul_mod, Nat.mod_mul_mod]
    congr 1
    rw [Nat.pow_succ]
    simp only [Nat.mul_assoc, Nat.mul_comm, Nat.mul_left_comm]
theorem prodN_coprime {p : Nat} {l : List Nat} (h : ∀ x, x ∈ l → Nat.Coprime x p) : Nat.Coprime (prodN l) p := by
  induction l with
  | nil => exact Nat.coprime_one_left p
  | cons x l ih => rw [prodN_cons]; exact Nat.Coprime.mul_left (h x (by simp)) (ih fun y hy => h y (by simp [hy]))
theorem fermat {p a : Nat} (h : primeT p) (h0 : a % p ≠ 0) : a ^ (p - 1) % p = 1 := by
  have hp := h.1
  have hc := h.coprime h0
  have hmem : ∀ x, x ∈ List.range' 1 (p - 1) ↔ 1 ≤ x ∧ x < p := fun x => by rw [List.mem_range'_1]; omega
  have hperm : ((List.range' 1 (p - 1)).map fun k => a * k % p).Perm (List.range' 1 (p - 1)) := by
    refine perm_of_subset ?_ ?_ (by simp)
    · rw [List.nodup_iff_pairwise_ne, List.pairwise_map]
      refine List.Pairwise.imp_of_mem ?_ (List.nodup_iff_pairwise_ne.1 (List.nodup_range' (s := 1) (n := p - 1)))
      intro x y hx hy hne e
      rw [hmem] at hx hy
      have aux : ∀ x y, x < y → y < p → a * x % p = a * y % p → False := by
        intro x y hxy hy h
        have hd : p ∣ a * (y - x) := by
          rw [Nat.mul_sub]
          exact Nat.dvd_of_mod_eq_zero (Nat.sub_mod_eq_zero_of_mod_eq h.symm)
        have := Nat.le_of_dvd (by omega) (hc.symm.dvd_of_dvd_mul_left hd)
        omega
      rcases Nat.lt_or_ge x y with hl | hl
      · exact aux x y hl hy.2 e
      · exact aux y x (by omega) hx.2 e.symm
    · intro x hx
      obtain ⟨k, hk, rfl⟩ := List.mem_map.1 hx
      rw [hmem] at hk ⊢
      refine ⟨?_, Nat.mod_lt _ (by omega)⟩
      rcases Nat.eq_zero_or_pos (a * k % p) with e | e
      · exfalso
        have hd : p ∣ k := hc.symm.dvd_of_dvd_mul_left (Nat.dvd_of_mod_eq_zero e)
        have := Nat.le_of_dvd (by omega) hd
        omega
      · exact e
  have e := prodN_map p a (List.range' 1 (p - 1))
  rw [prodN_perm hperm, List.length_range'] at e
  have hcp : Nat.Coprime (prodN (List.range' 1 (p - 1))) p := prodN_coprime fun x hx => by
    rw [hmem] at hx
    exact h.coprime (by rw [Nat.mod_eq_of_lt hx.2]; omega)
  have ha : 1 ≤ a ^ (p - 1) := by
    refine Nat.one_le_iff_ne_zero.2 fun e => ?_
    have := Nat.pow_eq_zero.1 e
    rw [this.1] at h0
    simp at h0
  have := cancel_mod hcp e.symm ha
  rwa [Nat.mod_eq_of_lt (show 1 < p by omega)] at this
theorem root_one {p y : Nat} (h : primeT p) (hy : y < p) (e : y * y % p = 1) : y = 1 ∨ y = p - 1 := by
  have hp := h.1
  rcases Nat.eq_zero_or_pos y with h0 | h0
  · subst h0; simp at e
  · have hd : p ∣ (y - 1) * (y + 1) := by
      have : (y - 1) * (y + 1) = y * y - 1 := by
        obtain ⟨z, rfl⟩ : ∃ z, y = z + 1 := ⟨y - 1, by omega⟩
        rw [Nat.add_sub_cancel]
        simp only [Nat.mul_add, Nat.add_mul, Nat.mul_one, Nat.one_mul]
        omega
      rw [this]
      apply Nat.dvd_of_mod_eq_zero
      apply Nat.sub_mod_eq_zero_of_mod_eq
      rw [e, Nat.mod_eq_of_lt (by omega)]
    rcases h.split hd with hd | hd
    · rcases Nat.eq_zero_or_pos (y - 1) with h1 | h1
      · exact .inl (by omega)
      · have := Nat.le_of_dvd h1 hd; omega
    · have := Nat.le_of_dvd (by omega) hd
      exact .inr (by omega)
theorem sqr_back {p x : Nat} (h : primeT p) (hx : x < p) : ∀ s, sqr p x s = 1 → x = 1 ∨ ∃ i, i < s ∧ sqr p x i = p - 1 := by
  intro s
  induction s with
  | zero => intro e; rw [sqr_zero hx] at e; exact .inl e
  | succ s ih =>
    intro e
    rw [← sqr_succ] at e
    have hp := h.1
    rcases root_one h (Nat.mod_lt _ (by omega)) e with h1 | h1
    · rcases ih h1 with h2 | ⟨i, hi, h2⟩
      · exact .inl h2
      · exact .inr ⟨i, by omega, h2⟩
    · exact .inr ⟨s, by omega, h1⟩
theorem odd_back {n : Nat} (h1 : 2 ≤ n) (h : n < 18446744073709551616) : oddPart n * 2 ^ tz n = n - 1 := by
  have hd : 2 ^ tz n ∣ n - 1 := by
    obtain ⟨m, hm, _⟩ := Lib.ctzFrom_spec 64 (n - 1) (by omega) (by omega)
    have e : tz n = Lib.ctzFrom 64 (n - 1) := by unfold tz Lib.ctz; rw [if_neg (by omega)]
    rw [e]
    exact ⟨_, hm⟩
  exact Nat.div_mul_cancel hd
theorem strong_prime {p a : Nat} (h : primeT p) (hl : p < 18446744073709551616) (h0 : a % p ≠ 0) : strongB p a = true := by
  have hp := h.1
  have hx : first p a < p := Nat.mod_lt _ (by omega)
  have e : sqr p (first p a) (tz p) = 1 := by
    unfold sqr first
    rw [← Nat.pow_mod, ← Nat.pow_mul, odd_back hp hl, ← Nat.pow_mod]
    exact fermat h h0
  rcases sqr_back h hx (tz p) e with h1 | ⟨i, hi, h1⟩
  · exact strong_one h1
  · rcases Nat.eq_zero_or_pos i with hi0 | hi0
    · subst hi0
      rw [sqr_zero hx] at h1
      exact strong_last h1
    · exact strong_sqr hi0 hi h1
/-- Every prime below 2^64 passes the test. -/
theorem isS_prime {n : Nat} (h : primeT n) (hl : n < 18446744073709551616) : isS n = true := by
  have hp := h.1
  unfold isS
  rw [if_neg (by omega)]
  cases hf : basesL.find? (fun p => n % p == 0) with
  | some b =>
    have hb : n % b = 0 := by simpa using List.find?_some hf
    have hm := List.mem_of_find?_eq_some hf
    have hb2 : 2 ≤ b := by
      have : ∀ b ∈ basesL, 2 ≤ b := by decide
      exact this b hm
    have hle : b ≤ n := Nat.le_of_dvd (by omega) (Nat.dvd_of_mod_eq_zero hb)
    rcases Nat.lt_or_ge b n with hlt | hge
    · exact absurd hb (h.no hb2 hlt)
    · have : n = b := by omega
      simp [this]
  | none =>
    show basesL.all (strongB n) = true
    rw [List.all_eq_true]
    intro b hm
    rw [List.find?_eq_none] at hf
    have hn : n % b ≠ 0 := by simpa using hf b hm
    refine strong_prime h hl fun e => ?_
    have hbp : primeT b := by
      have : ∀ b ∈ basesL, 2 ≤ b ∧ ∀ d, d < 7 → 2 ≤ d → d * d ≤ b → b % d ≠ 0 := by decide
      have hb37 : b ≤ 37 := by
        have : ∀ b ∈ basesL, b ≤ 37 := by decide
        exact this b hm
      refine ⟨(this b hm).1, fun d h2 hd => (this b hm).2 d ?_ h2 hd⟩
      rcases Nat.lt_or_ge d 7 with h7 | h7
      · exact h7
      · have := Nat.mul_le_mul h7 h7
        omega
    obtain ⟨q, hq⟩ := Nat.dvd_of_mod_eq_zero e
    rcases Nat.lt_or_ge n b with hlt | hge
    · exact hbp.no hp hlt e
    · have hle : n ≤ b := Nat.le_of_dvd (by have := hbp.1; omega) (Nat.dvd_of_mod_eq_zero e)
      have : n = b := by omega
      rw [this] at hn
      simp at hn

end Go.Proofs.YtfggpgiinihflaaDoor
