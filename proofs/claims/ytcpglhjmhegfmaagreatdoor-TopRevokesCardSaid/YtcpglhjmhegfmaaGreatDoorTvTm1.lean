/- The reference of layers 1 and 10: common divisors in general, squares. Plain law of AccumulatorUnique: in a small group exactly one square is a witness. No walk. Plain law of AccumulatorUnique: exactly one witness. No walk. -/
import Derived.Test.YtcpglhjmhegfmaaGreatDoorTvRA
import Derived.Test.YtcpglhjmhegfmaaGreatDoorTvBM
import Derived.Test.YtcpglhjmhegfmaaGreatDoorTvBE
import Derived.Test.YtcpglhjmhegfmaaGreatDoorTvUU
import Derived.Test.YtcpglhjmhegfmaaGreatDoorTvU4
import Derived.Test.YtcpglhjmhegfmaaGreatDoorTvRB
import Derived.Test.YtcpglhjmhegfmaaGreatDoorTvUm1
import Derived.Deep.RegionHeld3
namespace Go.Proofs.YtcpglhjmhegfmaaGreatDoor
open Go.RowKit
set_option maxRecDepth 100000
set_option linter.unusedVariables false
set_option maxHeartbeats 1000000
/-- The criterion of Euler. -/
def eulS (x p : Nat) : Bool := decide (x ^ (p / 2) % p = 1)
/-- Whether an element is a square by the criterion of Euler, and the error. -/
def isEulS (m o p q x : ByteArray) : Bool × Int := (decide (elementS m o p q x = 0) && (eulS (num x) (num p) && eulS (num x) (num q)), elementS m o p q x)
end Go.Proofs.YtcpglhjmhegfmaaGreatDoor
namespace Go.Proofs.YtcpglhjmhegfmaaGreatDoor
set_option maxRecDepth 100000
set_option linter.unusedVariables false
theorem bezI (a b : Nat) : ∃ x y : Int, (a : Int) * x + (b : Int) * y = (Nat.gcd a b : Nat) := by
  refine Nat.gcd.induction a b (fun n => ⟨0, 1, by simp⟩) (fun m n hm ih => ?_)
  obtain ⟨x, y, h⟩ := ih
  refine ⟨y - ((n / m : Nat) : Int) * x, x, ?_⟩
  rw [Nat.gcd_rec m n, ← h]
  have e : ((n % m : Nat) : Int) = (n : Int) - (m : Int) * ((n / m : Nat) : Int) := by
    have := Nat.div_add_mod n m
    have h2 : ((m * (n / m) + n % m : Nat) : Int) = (n : Int) := by rw [this]
    rw [Int.natCast_add, Int.natCast_mul] at h2
    omega
  rw [e, Int.mul_sub, Int.sub_mul]
  have e2 : (m : Int) * (((n / m : Nat) : Int) * x) = (m : Int) * ((n / m : Nat) : Int) * x := by rw [Int.mul_assoc]
  rw [e2]
  omega
theorem inv_exists {a m : Nat} (h : Nat.gcd a m = 1) (hm : 1 < m) : ∃ d k : Nat, a * d = 1 + k * m := by
  obtain ⟨x, y, hxy⟩ := bezI a m
  rw [h] at hxy
  have hm0 : (m : Int) ≠ 0 := by omega
  have hx0 : 0 ≤ x % (m : Int) := Int.emod_nonneg _ hm0
  obtain ⟨d, hd⟩ : ∃ d : Nat, (d : Int) = x % (m : Int) := ⟨(x % (m : Int)).toNat, by omega⟩
  have h1 : ((a * d : Nat) : Int) % (m : Int) = 1 := by
    rw [Int.natCast_mul, hd, Int.mul_emod, Int.emod_emod_of_dvd _ (Int.dvd_refl _), ← Int.mul_emod]
    have e : (a : Int) * x = 1 + (m : Int) * (-y) := by rw [Int.mul_neg]; have : ((1 : Nat) : Int) = 1 := rfl; omega
    rw [e, Int.add_mul_emod_self_left]
    exact Int.emod_eq_of_lt (by decide) (by omega)
  have h2 : a * d % m = 1 := by
    have : ((a * d % m : Nat) : Int) = 1 := by rw [Int.natCast_emod]; exact h1
    omega
  refine ⟨d, a * d / m, ?_⟩
  have := Nat.div_add_mod (a * d) m
  rw [h2, Nat.mul_comm] at this
  omega
theorem pow_back {x n M U d k : Nat} (hx : x ^ M % n = 1 % n) (h : U * d = 1 + k * M) (hl : x < n) : (x ^ U % n) ^ d % n = x := by
  rw [pow_mod_l, ← Nat.pow_mul, h, Nat.pow_add, Nat.pow_one, Nat.mul_comm k M, Nat.pow_mul, Nat.mul_mod, ← pow_mod_l (x ^ M) k n, hx, pow_mod_l, Nat.one_pow, ← Nat.mul_mod, Nat.mul_one, Nat.mod_eq_of_lt hl]
theorem pow_back' {x n M U d k : Nat} (hx : x ^ M % n = 1 % n) (h : U * d = 1 + k * M) (hl : x < n) : (x ^ d % n) ^ U % n = x := by
  rw [pow_mod_l, ← Nat.pow_mul, Nat.mul_comm d U, Nat.pow_mul]
  have := pow_back hx h hl
  rwa [pow_mod_l] at this
theorem eul_pow {x p k : Nat} (hp : 1 < p) (h : eulS x p = true) : eulS (x ^ k) p = true := by
  unfold eulS at h ⊢
  rw [decide_eq_true_eq] at h ⊢
  rw [← Nat.pow_mul, Nat.mul_comm, Nat.pow_mul, ← pow_mod_l, h]
  rw [Nat.one_pow, Nat.mod_eq_of_lt hp]
theorem eul_mod {x p n : Nat} (hpn : p ∣ n) : eulS (x % n) p = eulS x p := by
  unfold eulS
  rw [← pow_mod_l (x % n), Nat.mod_mod_of_dvd _ hpn, pow_mod_l]
theorem eul_group {x p q : Nat} (hc : Nat.gcd p q = 1) (p1 : 1 < p) (q1 : 1 < q) (h1 : eulS x p = true) (h2 : eulS x q = true) : x ^ ((p / 2) * (q / 2)) % (p * q) = 1 % (p * q) := by
  unfold eulS at h1 h2
  rw [decide_eq_true_eq] at h1 h2
  have a1 : x ^ ((p / 2) * (q / 2)) % p = 1 % p := by
    rw [Nat.pow_mul, ← pow_mod_l, h1, Nat.one_pow]
  have a2 : x ^ ((p / 2) * (q / 2)) % q = 1 % q := by
    rw [Nat.mul_comm, Nat.pow_mul, ← pow_mod_l, h2, Nat.one_pow]
  obtain ⟨Y, hY⟩ : ∃ Y, x ^ ((p / 2) * (q / 2)) = Y := ⟨_, rfl⟩
  rw [hY] at a1 a2 ⊢
  rw [Nat.mod_eq_of_lt p1] at a1
  rw [Nat.mod_eq_of_lt q1] at a2
  have hY1 : 1 ≤ Y := by
    rcases Nat.eq_zero_or_pos Y with h0 | h0
    · rw [h0, Nat.zero_mod] at a1; cases a1
    · exact h0
  have d1 : p ∣ Y - 1 := by
    have := Nat.div_add_mod Y p
    exact ⟨Y / p, by omega⟩
  have d2 : q ∣ Y - 1 := by
    have := Nat.div_add_mod Y q
    exact ⟨Y / q, by omega⟩
  obtain ⟨c, hcc⟩ := Nat.Coprime.mul_dvd_of_dvd_of_dvd hc d1 d2
  have e : Y = 1 + p * q * c := by omega
  rw [e, Nat.add_mul_mod_self_left]
/-- How many numbers below k meet a test. -/
def cntP (P : Nat → Bool) : Nat → Nat
  | 0 => 0
  | k + 1 => cntP P k + if P k then 1 else 0
theorem cntP_one {P : Nat → Bool} {n w0 : Nat} (h0 : w0 < n) (h : ∀ w, w < n → (P w = true ↔ w = w0)) : cntP P n = 1 := by
  have : ∀ k, k ≤ n → cntP P k = if w0 < k then 1 else 0 := by
    intro k
    induction k with
    | zero => intro _; rfl
    | succ k ih =>
      intro hk
      unfold cntP
      rw [ih (by omega)]
      by_cases e : k = w0
      · rw [if_pos ((h k (by omega)).2 e), if_neg (by omega), if_pos (by omega)]
      · rw [if_neg (fun hh => e ((h k (by omega)).1 hh))]
        by_cases h2 : w0 < k
        · rw [if_pos h2, if_pos (by omega)]
        · rw [if_neg h2, if_neg (by omega)]
  rw [this n (Nat.le_refl _), if_pos h0]
theorem cntP_le (P : Nat → Bool) (k : Nat) : cntP P k ≤ k := by
  induction k with
  | zero => exact Nat.le_refl _
  | succ k ih => unfold cntP; split <;> omega
def safeN2 (p : Nat) : Bool := isS p && isS ((p - 1) / 2)
theorem safe_coprime : (((List.range 351).filter safeN2).all fun p => ((List.range 351).filter safeN2).all fun q => (p == q) || (Nat.gcd p q == 1)) = true := by decide +kernel
theorem coprime_of {p q : Nat} (hp : safeN2 p = true) (hq : safeN2 q = true) (p2 : 2 ≤ p) (q2 : 2 ≤ q) (hne : p ≠ q) (hle : p * q ≤ 700) : Nat.gcd p q = 1 := by
  have h1 : p ≤ 350 := by
    have := Nat.mul_le_mul_left p q2
    omega
  have h2 : q ≤ 350 := by
    have := Nat.mul_le_mul_right q p2
    omega
  have h := List.all_eq_true.1 (List.all_eq_true.1 safe_coprime p (List.mem_filter.2 ⟨List.mem_range.2 (by omega), hp⟩)) q (List.mem_filter.2 ⟨List.mem_range.2 (by omega), hq⟩)
  simp only [Bool.or_eq_true, beq_iff_eq] at h
  rcases h with h | h
  · exact absurd h hne
  · exact h
end Go.Proofs.YtcpglhjmhegfmaaGreatDoor
namespace Go.Proofs.YtcpglhjmhegfmaaGreatDoor
set_option maxRecDepth 100000
set_option linter.unusedVariables false
theorem toList_inj {a b : ByteArray} (h : (a.toList == b.toList) = true) : a = b := by
  rw [toList_beq_iff, decide_eq_true_eq] at h
  have : a.data = b.data := Array.ext' h
  cases a; cases b; simpa using this
/-- What the law's premises say in numbers. -/
structure SmallGroup (m o p q : ByteArray) (n P Q : Nat) : Prop where
  hn : num m = n
  hp : num p = P
  hq : num q = Q
  hpq : P * Q = n
  p2 : 2 ≤ P / 2
  q2 : 2 ≤ Q / 2
  cop : Nat.gcd P Q = 1
  vm : valid m = true
  good : goodS m o = true
theorem isS_two {n : Nat} (h : isS n = true) : 2 ≤ n := by
  rcases Nat.lt_or_ge n 2 with h1 | h1
  · rw [isS_small h1] at h; cases h
  · exact h1
theorem small_group {m o p q : ByteArray} (hn : num m ≤ 700) (hc : checkS m o p q = 0) : SmallGroup m o p q (num m) (num p) (num q) := by
  obtain ⟨⟨vm, vp, vq⟩, hg, ht, hm0, hmm⟩ := checkS_zero hc
  obtain ⟨⟨a1, a2⟩, ⟨b1, b2⟩, hne⟩ := trapS_zero ht
  obtain ⟨_, p2, p3, p4, p5⟩ := safeS_zero a1 a2
  obtain ⟨_, q2, q3, q4, q5⟩ := safeS_zero b1 b2
  have op := safeS_odd a1 a2
  have oq := safeS_odd b1 b2
  have hmul : num p * num q = num m := by
    have e := toList_inj hmm
    unfold natMul at e hm0
    rw [vp, vq] at e hm0
    simp only [Bool.and_self, if_true] at e hm0
    unfold fitted at e hm0
    split at e
    · rw [← e, num_B]
    · rename_i hl
      rw [if_neg hl] at hm0
      cases hm0
  have hneN : num p ≠ num q := by
    intro e
    rw [← B_num vp, ← B_num vq, e] at hne
    simp at hne
  have s1 : safeN2 (num p) = true := by unfold safeN2; rw [p4, p5]; rfl
  have s2 : safeN2 (num q) = true := by unfold safeN2; rw [q4, q5]; rfl
  have t1 := isS_two p5
  have t2 := isS_two q5
  exact ⟨rfl, rfl, rfl, hmul, by omega, by omega, coprime_of s1 s2 p2 q2 hneN (by omega), vm, hg⟩
theorem goodS_group {m o : ByteArray} (h : goodS m o = true) (vo : valid o = true) : groupE m o = 0 := by
  unfold goodS at h
  simp only [Bool.and_eq_true] at h
  unfold groupE
  rw [if_pos (by rw [h.1.1.1, vo]; rfl), if_pos h.1.1.2, if_pos (by rw [h.1.2, h.2]; rfl)]
theorem goodS_o {m o : ByteArray} (h : goodS m o = true) : o.toList.isEmpty = true ∧ valid o = true := by
  unfold goodS at h
  simp only [Bool.and_eq_true] at h
  have he := h.1.1.2
  refine ⟨he, ?_⟩
  have : o = ⟨#[]⟩ := by
    apply toList_inj
    rw [List.isEmpty_iff.1 he]
    have : (⟨#[]⟩ : ByteArray).toList = [] := by rw [ByteArray.toList_eq]
    rw [this]
    rfl
  rw [this]
  decide
theorem hasS_of {m o : ByteArray} {x n : Nat} (hg : goodS m o = true) (vm : valid m = true) (hn : num m = n) (h64 : n < 18446744073709551616) (h0 : 0 < x) (hl : x < n) (hgc : Nat.gcd x n = 1) : hasS m o (B x) = true := by
  unfold hasS
  have vx := valid_B (u64_lt_lim (show x < 18446744073709551616 by omega))
  have hc : natCmp (B x) m < 0 := by
    unfold natCmp
    rw [vx, vm, num_B, hn]
    exact cmpN_neg.2 hl
  rw [hg, vx, B_isEmpty_false (by omega), decide_eq_true hc, num_B, hn]
  simp [hgc]
theorem unique_witness {m o p q acc u : ByteArray} (sm : m.size ≤ 8) (hn : num m ≤ 700) (he : (isEulS m o p q acc).2 = 0) (he1 : (isEulS m o p q acc).1 = true) (ho : (orderS p q).2 = 0)
    (hg2 : (natGcd u (orderS p q).1).2 = 0) (hg1 : ((natGcd u (orderS p q).1).1.toList == (B 1).toList) = true) (hu : u.toList.isEmpty = false) :
    ∃ w0, 1 ≤ w0 ∧ w0 < num m ∧ ∀ w, 1 ≤ w → w < num m → (((isEulS m o p q (B w)).2 = 0 ∧ (isEulS m o p q (B w)).1 = true ∧ checkAS m o acc u (B w) = 0) ↔ w = w0) := by
  have hel : elementS m o p q acc = 0 := he
  have f := elementS_zero hel
  have sg := small_group hn f.chk
  obtain ⟨n, hN⟩ : ∃ n, num m = n := ⟨_, rfl⟩
  obtain ⟨P, hP⟩ : ∃ P, num p = P := ⟨_, rfl⟩
  obtain ⟨Q, hQ⟩ : ∃ Q, num q = Q := ⟨_, rfl⟩
  obtain ⟨U, hU⟩ : ∃ U, num u = U := ⟨_, rfl⟩
  obtain ⟨A, hA⟩ : ∃ A, num acc = A := ⟨_, rfl⟩
  rw [hN, hP, hQ] at sg
  rw [hN] at hn
  have hpq := sg.hpq
  have hp2 := sg.p2
  have hq2 := sg.q2
  have h64 : n < 18446744073709551616 := by omega
  obtain ⟨_, hAl, _, hA0, hgood, hAg⟩ := hasS_lt sm f.has
  rw [hA, hN] at hAl hAg
  rw [hA] at hA0
  obtain ⟨hoe, vo⟩ := goodS_o hgood
  have hge := goodS_group hgood vo
  have eA : acc = B A := by rw [← hA, B_num f.vx]
  -- squares
  have hsq : eulS A P = true ∧ eulS A Q = true := by
    have h1 := he1
    unfold isEulS at h1
    simp only [Bool.and_eq_true] at h1
    rw [← hA, ← hP, ← hQ]
    exact h1.2
  have hdp : P ∣ n := ⟨Q, hpq.symm⟩
  have hdq : Q ∣ n := ⟨P, by rw [← hpq, Nat.mul_comm]⟩
  have hgrp : ∀ x, eulS x P = true → eulS x Q = true → x ^ ((P / 2) * (Q / 2)) % n = 1 % n := fun x h1 h2 => by
    rw [← hpq]; exact eul_group sg.cop (by omega) (by omega) h1 h2
  -- the order
  have hM : valid u = true ∧ Nat.gcd U ((P / 2) * (Q / 2)) = 1 := by
    have hoP := safeS_odd (trapS_zero (checkS_zero f.chk).2.2.1).1.1 (trapS_zero (checkS_zero f.chk).2.2.1).1.2
    have hoQ := safeS_odd (trapS_zero (checkS_zero f.chk).2.2.1).2.1.1 (trapS_zero (checkS_zero f.chk).2.2.1).2.1.2
    rw [hP] at hoP
    rw [hQ] at hoQ
    have e1 : (P - 1) / 2 = P / 2 := by omega
    have e2 : (Q - 1) / 2 = Q / 2 := by omega
    have hord : (orderS p q).1 = B ((P / 2) * (Q / 2)) ∧ valid (orderS p q).1 = true := by
      have hlm : (P / 2) * (Q / 2) < lim := by
        have h1 := Nat.mul_le_mul (Nat.div_le_self P 2) (Nat.div_le_self Q 2)
        rw [hpq] at h1
        exact u64_lt_lim (by omega)
      have e : orderS p q = (B ((P / 2) * (Q / 2)), 0) := by
        unfold orderS
        rw [f.vp, f.vq, hP, hQ, e1, e2]
        simp only [Bool.and_self, if_true]
        rw [if_pos (checkS_zero f.chk).2.2.1]
        have l1 : P / 2 < lim := u64_lt_lim (by rw [← hP]; have := f.p64; omega)
        have l2 : Q / 2 < lim := u64_lt_lim (by rw [← hQ]; have := f.q64; omega)
        unfold natMul fitted
        rw [valid_B l1, valid_B l2, num_B, num_B, if_pos hlm]
        rfl
      rw [e]
      exact ⟨rfl, valid_B hlm⟩
    unfold natGcd at hg1 hg2
    split at hg2
    · rename_i hv
      rw [Bool.and_eq_true] at hv
      rw [if_pos (by rw [hv.1, hv.2]; rfl)] at hg1
      have := B_inj (toList_inj hg1)
      rw [hord.1, num_B, hU] at this
      exact ⟨hv.1, this⟩
    · cases hg2
  obtain ⟨vu, hgU⟩ := hM
  have eU : u = B U := by rw [← hU, B_num vu]
  have hM1 : 1 < (P / 2) * (Q / 2) := by
    have := Nat.mul_le_mul hp2 hq2
    omega
  obtain ⟨d, k, hdk⟩ := inv_exists hgU hM1
  have hgA := hgrp A hsq.1 hsq.2
  -- the witness
  obtain ⟨w0, hw0⟩ : ∃ w0, A ^ d % n = w0 := ⟨_, rfl⟩
  have hw0l : w0 < n := by rw [← hw0]; exact Nat.mod_lt _ (by omega)
  have hw0g : Nat.gcd w0 n = 1 := by rw [← hw0]; exact gcd_pow_one hAg d
  have hw01 : 1 ≤ w0 := by
    rcases Nat.eq_zero_or_pos w0 with h0 | h0
    · rw [h0, Nat.gcd_zero_left] at hw0g; omega
    · exact h0
  have hready : ∀ w, 1 ≤ w → w < n → Nat.gcd w n = 1 → readyS m o [acc, B w] [u] = 0 := fun w h1 h2 h3 => by
    have vw := valid_B (u64_lt_lim (show w < 18446744073709551616 by omega))
    have e1 : hasG m o acc = true := by unfold hasG; rw [if_pos hoe]; exact f.has
    have e2 : hasG m o (B w) = true := by unfold hasG; rw [if_pos hoe]; exact hasS_of hgood f.vm hN h64 h1 h2 h3
    unfold readyS
    simp only [List.all_cons, List.all_nil, Bool.and_true, List.any_cons, List.any_nil, Bool.or_false]
    rw [if_pos (by rw [f.vx, vw, vu, f.vm, vo]; rfl), if_pos hge, if_pos (by rw [e1, e2]; rfl), if_neg (by rw [hu]; simp)]
  refine ⟨w0, hw01, by rw [hN]; exact hw0l, fun w h1 h2 => ?_⟩
  rw [hN] at h2
  constructor
  · rintro ⟨a1, a2, a3⟩
    have fw := elementS_zero (show elementS m o p q (B w) = 0 from a1)
    have hwg := (hasS_lt sm fw.has).2.2.2.2.2
    rw [num_B, hN] at hwg
    unfold isEulS at a2
    simp only [Bool.and_eq_true, num_B] at a2
    rw [hP, hQ] at a2
    have hgw := hgrp w a2.2.1 a2.2.2
    unfold checkAS at a3
    rw [if_pos (hready w h1 h2 hwg), num_B, hU, hN, hA] at a3
    split at a3
    · rename_i hpow
      rw [← hw0, ← hpow]
      exact (pow_back hgw hdk h2).symm
    · cases a3
  · rintro rfl
    have vw := valid_B (u64_lt_lim (show w < 18446744073709551616 by omega))
    have hel0 : elementS m o p q (B w) = 0 := by
      unfold elementS
      rw [vw, f.chk, hasS_of hgood f.vm hN h64 h1 h2 hw0g]
      rfl
    refine ⟨hel0, ?_, ?_⟩
    · unfold isEulS
      simp only [num_B]
      rw [hel0, hP, hQ, ← hw0, eul_mod hdp, eul_mod hdq, eul_pow (by omega) hsq.1, eul_pow (by omega) hsq.2]
      rfl
    · unfold checkAS
      rw [if_pos (hready w h1 h2 hw0g), num_B, hU, hN, hA, if_pos]
      rw [← hw0]
      exact pow_back' hgA hdk hAl
end Go.Proofs.YtcpglhjmhegfmaaGreatDoor
