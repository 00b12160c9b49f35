/- Long division with digits of base 256, as the program does it: plain facts about numbers. -/
import Derived.Test.YtcpglhjmhegfmaaGreatDoorTvBA
namespace Go.Proofs.YtcpglhjmhegfmaaGreatDoor
set_option maxRecDepth 100000
set_option linter.unusedVariables false
theorem pow256_pos (k : Nat) : 0 < 256 ^ k := Nat.pow_pos (by omega)
/-- A digit by the remainder. -/
theorem digit_rem (X i : Nat) : X / 256 ^ i % 256 = X % 256 ^ (i + 1) / 256 ^ i := by
  rw [Nat.pow_succ, Nat.mod_mul_right_div_self]
theorem split3 (X k : Nat) : X = X % 256 ^ k + X / 256 ^ k % 256 * 256 ^ k + X / 256 ^ (k + 1) * 256 ^ (k + 1) := by
  have h1 := Nat.div_add_mod X (256 ^ k)
  have h2 := Nat.div_add_mod (X / 256 ^ k) 256
  have h3 : X / 256 ^ (k + 1) = X / 256 ^ k / 256 := by rw [Nat.pow_succ, Nat.div_div_eq_div_mul]
  rw [h3, Nat.pow_succ]
  generalize X / 256 ^ k / 256 = q at *
  generalize X / 256 ^ k % 256 = d at *
  generalize X % 256 ^ k = r at *
  rw [← h2] at h1
  generalize 256 ^ k = P at *
  rw [Nat.mul_add] at h1
  have e1 : P * (256 * q) = q * (P * 256) := by rw [Nat.mul_comm q, Nat.mul_assoc]
  have e2 : P * d = d * P := Nat.mul_comm _ _
  omega
/-- The number with digit k replaced. -/
def putD (X k v : Nat) : Nat := X % 256 ^ k + v * 256 ^ k + X / 256 ^ (k + 1) * 256 ^ (k + 1)
theorem putD_add (X k v : Nat) : X + v * 256 ^ k = putD X k v + X / 256 ^ k % 256 * 256 ^ k := by
  have := split3 X k
  unfold putD
  omega
theorem putD_low {X k v i : Nat} (h : i ≤ k) : putD X k v % 256 ^ i = X % 256 ^ i := by
  obtain ⟨e, rfl⟩ : ∃ e, k = i + e := ⟨k - i, by omega⟩
  have hs := split3 X (i + e)
  conv => rhs; rw [hs]
  unfold putD
  have e1 : ∀ d q r : Nat, (r + d * 256 ^ (i + e) + q * 256 ^ (i + e + 1)) % 256 ^ i = r % 256 ^ i := by
    intro d q r
    rw [Nat.pow_add, Nat.add_assoc i e 1, Nat.pow_add]
    rw [show r + d * (256 ^ i * 256 ^ e) + q * (256 ^ i * 256 ^ (e + 1)) = r + 256 ^ i * (d * 256 ^ e + q * 256 ^ (e + 1)) by
      rw [Nat.mul_add, Nat.mul_left_comm d, Nat.mul_left_comm q]; omega]
    rw [Nat.add_mul_mod_self_left]
  rw [e1, e1]
theorem putD_mid {X k v : Nat} : putD X k v / 256 ^ k = v + 256 * (X / 256 ^ (k + 1)) := by
  unfold putD
  rw [show X % 256 ^ k + v * 256 ^ k + X / 256 ^ (k + 1) * 256 ^ (k + 1) = X % 256 ^ k + 256 ^ k * (v + 256 * (X / 256 ^ (k + 1))) by
    rw [Nat.mul_add, Nat.pow_succ, Nat.mul_comm v, Nat.mul_left_comm (256 ^ k) 256, Nat.mul_comm (X / (256 ^ k * 256)), Nat.mul_assoc, Nat.mul_left_comm (256 ^ k) 256]; omega]
  rw [Nat.add_mul_div_left _ _ (pow256_pos k), Nat.div_eq_of_lt (Nat.mod_lt _ (pow256_pos k)), Nat.zero_add]
theorem putD_high {X k v i : Nat} (hv : v < 256) (h : k < i) : putD X k v / 256 ^ i = X / 256 ^ i := by
  obtain ⟨e, rfl⟩ : ∃ e, i = k + 1 + e := ⟨i - (k + 1), by omega⟩
  rw [Nat.pow_add, ← Nat.div_div_eq_div_mul, ← Nat.div_div_eq_div_mul]
  congr 1
  have e1 : putD X k v / 256 ^ (k + 1) = putD X k v / 256 ^ k / 256 := by rw [Nat.pow_succ, Nat.div_div_eq_div_mul]
  rw [e1, putD_mid]
  omega
theorem putD_digit {X k v : Nat} (hv : v < 256) (i : Nat) : putD X k v / 256 ^ i % 256 = if i = k then v else X / 256 ^ i % 256 := by
  by_cases h : i = k
  · subst h
    rw [if_pos rfl, putD_mid]
    omega
  · rw [if_neg h]
    by_cases h2 : i < k
    · rw [digit_rem, digit_rem, putD_low (by omega)]
    · rw [putD_high hv (by omega)]
/-- The first n digits, the least one first. -/
def le (n X : Nat) : List Nat := (List.range n).map fun k => X / 256 ^ k % 256
theorem le_length (n X : Nat) : (le n X).length = n := by simp [le]
theorem le_getD {n X k : Nat} (h : k < n) : (le n X).getD k 0 = X / 256 ^ k % 256 := by
  simp [le, List.getD, h]
theorem le_set {n X k v : Nat} (h : k < n) (hv : v < 256) : (le n X).set k v = le n (putD X k v) := by
  apply List.ext_getElem
  · simp [le]
  · intro i h1 h2
    rw [List.getElem_set]
    simp only [le, List.getElem_map, List.getElem_range]
    rw [putD_digit hv]
    by_cases e : k = i
    · rw [if_pos e, if_pos e.symm]
    · rw [if_neg e, if_neg (Ne.symm e)]
theorem le_zero (n : Nat) : le n 0 = List.replicate n 0 := by
  apply List.ext_getElem
  · simp [le]
  · intro i h1 h2
    simp [le]
theorem be_set {n X k v : Nat} (h : k < n) (hv : v < 256) : (be n X).set (n - 1 - k) (UInt8.ofNat v) = be n (putD X k v) := by
  induction n with
  | zero => omega
  | succ n ih =>
    unfold be
    by_cases e : k = n
    · subst e
      rw [show k + 1 - 1 - k = 0 by omega, List.set_cons_zero, putD_mid]
      congr 1
      · apply UInt8.toNat_inj.mp
        rw [toNat_ofNat8, toNat_ofNat8]
        omega
      · have hb : ∀ m a b : Nat, a % 256 ^ m = b % 256 ^ m → be m a = be m b := by
          intro m
          induction m with
          | zero => intro a b _; rfl
          | succ m ihm =>
            intro a b hab
            unfold be
            have h0 : a % 256 ^ m = b % 256 ^ m := by
              rw [← Nat.mod_mod_of_dvd a (Nat.pow_dvd_pow 256 (Nat.le_succ m)), hab, Nat.mod_mod_of_dvd b (Nat.pow_dvd_pow 256 (Nat.le_succ m))]
            rw [ihm a b h0]
            congr 1
            apply UInt8.toNat_inj.mp
            rw [toNat_ofNat8, toNat_ofNat8, digit_rem, digit_rem, hab]
        exact (hb k _ _ (putD_low (Nat.le_refl k))).symm
    · rw [show n + 1 - 1 - k = (n - 1 - k) + 1 by omega, List.set_cons_succ, ih (by omega), putD_high hv (by omega)]
theorem be_zero (n : Nat) : be n 0 = List.replicate n 0 := by
  induction n with
  | zero => rfl
  | succ n ih =>
    unfold be
    rw [ih, Nat.zero_div]
    rfl
/-- A shifted number's digit from two digits of the number. -/
theorem shl_digit (b s i : Nat) (hs : s ≤ 7) : b * 2 ^ s / 256 ^ (i + 1) % 256 = 2 ^ s * (b / 256 ^ (i + 1) % 256 % 2 ^ (8 - s)) + b / 256 ^ i % 256 / 2 ^ (8 - s) := by
  have e : 256 ^ (i + 1) = 2 ^ s * (2 ^ (8 - s) * 256 ^ i) := by
    rw [← Nat.mul_assoc, ← Nat.pow_add, show s + (8 - s) = 8 by omega, Nat.pow_succ, Nat.mul_comm]
  have e2 : b / 256 ^ (i + 1) = b / 256 ^ i / 256 := by rw [Nat.pow_succ, Nat.div_div_eq_div_mul]
  have e3 : b * 2 ^ s / 256 ^ (i + 1) = b / 256 ^ i / 2 ^ (8 - s) := by
    rw [e, Nat.mul_comm b, Nat.mul_div_mul_left _ _ (Nat.pow_pos (by omega)), Nat.mul_comm (2 ^ (8 - s)), Nat.div_div_eq_div_mul]
  rw [e3, e2]
  generalize b / 256 ^ i = y
  match s, hs with
  | 0, _ => simp <;> omega
  | 1, _ => simp; omega
  | 2, _ => simp; omega
  | 3, _ => simp; omega
  | 4, _ => simp; omega
  | 5, _ => simp; omega
  | 6, _ => simp; omega
  | 7, _ => simp; omega
theorem shl_digit0 (b s : Nat) (hs : s ≤ 7) : b * 2 ^ s / 256 ^ 0 % 256 = 2 ^ s * (b / 256 ^ 0 % 256 % 2 ^ (8 - s)) := by
  rw [Nat.pow_zero, Nat.div_one, Nat.div_one]
  match s, hs with
  | 0, _ => simp
  | 1, _ => simp; omega
  | 2, _ => simp; omega
  | 3, _ => simp; omega
  | 4, _ => simp; omega
  | 5, _ => simp; omega
  | 6, _ => simp; omega
  | 7, _ => simp; omega
/-- A digit of the number shifted back, from two digits. -/
theorem shr_digit (R s i : Nat) (hs : s ≤ 7) : R / 2 ^ s / 256 ^ i % 256 = (R / 256 ^ i % 256 + 256 * (R / 256 ^ (i + 1) % 256)) / 2 ^ s % 256 := by
  rw [Nat.div_div_eq_div_mul, Nat.mul_comm, ← Nat.div_div_eq_div_mul, Nat.pow_succ, ← Nat.div_div_eq_div_mul]
  generalize R / 256 ^ i = y
  match s, hs with
  | 0, _ => simp <;> omega
  | 1, _ => simp; omega
  | 2, _ => simp; omega
  | 3, _ => simp; omega
  | 4, _ => simp; omega
  | 5, _ => simp; omega
  | 6, _ => simp; omega
  | 7, _ => simp; omega
/-- One digit of the product is taken away. -/
theorem sub_digit {X R g D i j c b xn b' : Nat} (h : X + g * (D % 256 ^ i) * 256 ^ j = R + (c + b) * 256 ^ (i + j))
    (hx : xn + (c + g * (D / 256 ^ i % 256)) % 256 + b = X / 256 ^ (i + j) % 256 + 256 * b') :
    putD X (i + j) xn + g * (D % 256 ^ (i + 1)) * 256 ^ j = R + ((c + g * (D / 256 ^ i % 256)) / 256 + b') * 256 ^ (i + 1 + j) := by
  have hp := putD_add X (i + j) xn
  rw [Nat.mod_pow_succ (x := D) (b := 256) (k := i), Nat.mul_add, Nat.add_mul]
  have e1 : g * (256 ^ i * (D / 256 ^ i % 256)) * 256 ^ j = g * (D / 256 ^ i % 256) * 256 ^ (i + j) := by
    rw [Nat.pow_add, Nat.mul_assoc, Nat.mul_assoc, Nat.mul_assoc, Nat.mul_comm (256 ^ i), Nat.mul_assoc, Nat.mul_comm (256 ^ j)]
  have e2 : 256 ^ (i + 1 + j) = 256 * 256 ^ (i + j) := by rw [show i + 1 + j = (i + j) + 1 by omega, Nat.pow_succ, Nat.mul_comm]
  rw [e1, e2]
  generalize g * (D / 256 ^ i % 256) = e at *
  generalize g * (D % 256 ^ i) * 256 ^ j = A at *
  generalize X / 256 ^ (i + j) % 256 = x0 at *
  generalize 256 ^ (i + j) = P at *
  generalize putD X (i + j) xn = Y at *
  have hs := Nat.div_add_mod (c + e) 256
  generalize (c + e) / 256 = q at *
  generalize (c + e) % 256 = r at *
  have h2 : (xn + r + b) * P = (x0 + 256 * b') * P := by rw [hx]
  have h3 : (256 * q + r) * P = (c + e) * P := by rw [hs]
  rw [Nat.add_mul, Nat.add_mul, Nat.add_mul, Nat.mul_assoc] at h2
  rw [Nat.add_mul, Nat.add_mul, Nat.mul_assoc] at h3
  rw [Nat.add_mul] at h
  rw [Nat.add_mul, Nat.mul_left_comm, Nat.mul_left_comm b']
  omega
/-- One digit is added back. -/
theorem add_digit {X Y D i j c : Nat} (h : Y + c * 256 ^ (i + j) = X + D % 256 ^ i * 256 ^ j) :
    putD Y (i + j) ((c + (Y / 256 ^ (i + j) % 256 + D / 256 ^ i % 256)) % 256) + (c + (Y / 256 ^ (i + j) % 256 + D / 256 ^ i % 256)) / 256 * 256 ^ (i + 1 + j) = X + D % 256 ^ (i + 1) * 256 ^ j := by
  have hp := putD_add Y (i + j) ((c + (Y / 256 ^ (i + j) % 256 + D / 256 ^ i % 256)) % 256)
  rw [Nat.mod_pow_succ (x := D) (b := 256) (k := i), Nat.add_mul]
  have e1 : 256 ^ i * (D / 256 ^ i % 256) * 256 ^ j = (D / 256 ^ i % 256) * 256 ^ (i + j) := by
    rw [Nat.pow_add, Nat.mul_comm (256 ^ i), Nat.mul_assoc]
  have e2 : 256 ^ (i + 1 + j) = 256 * 256 ^ (i + j) := by rw [show i + 1 + j = (i + j) + 1 by omega, Nat.pow_succ, Nat.mul_comm]
  rw [e1, e2]
  generalize D / 256 ^ i % 256 = d at *
  generalize D % 256 ^ i * 256 ^ j = A at *
  generalize Y / 256 ^ (i + j) % 256 = x0 at *
  generalize 256 ^ (i + j) = P at *
  have hs := Nat.div_add_mod (c + (x0 + d)) 256
  generalize (c + (x0 + d)) / 256 = q at *
  generalize (c + (x0 + d)) % 256 = r at *
  generalize putD Y (i + j) r = Z at *
  have h3 : (256 * q + r) * P = (c + (x0 + d)) * P := by rw [hs]
  rw [Nat.add_mul, Nat.add_mul, Nat.add_mul, Nat.mul_assoc] at h3
  rw [Nat.mul_left_comm]
  omega
/-- The estimate is not too small. -/
theorem guess_ge {R D n j : Nat} (hR : R < D * 256 ^ (j + 1)) (hn : 1 ≤ n) (h0 : 0 < D / 256 ^ (n - 1) % 256) :
    R / (D * 256 ^ j) ≤ min ((R / 256 ^ (j + n) % 256 * 256 + R / 256 ^ (j + n - 1) % 256) / (D / 256 ^ (n - 1) % 256)) 255 ∨ 256 ^ n ≤ D := by
  by_cases hD : D < 256 ^ n
  · left
    have hD0 : 0 < D := by
      rcases Nat.eq_zero_or_pos D with e | e
      · subst e; simp at h0
      · exact e
    have hpj := pow256_pos j
    have h255 : R / (D * 256 ^ j) < 256 := by
      apply Nat.div_lt_of_lt_mul
      rw [Nat.mul_assoc, ← Nat.pow_succ]
      exact hR
    have hd : D / 256 ^ (n - 1) % 256 = D / 256 ^ (n - 1) := by
      apply Nat.mod_eq_of_lt
      apply Nat.div_lt_of_lt_mul
      rw [← Nat.pow_succ, show (n - 1).succ = n by omega]
      exact hD
    have hRn : R < 256 ^ (j + n + 1) := by
      refine Nat.lt_of_lt_of_le hR ?_
      rw [show j + n + 1 = n + (j + 1) by omega, Nat.pow_add 256 n]
      exact Nat.mul_le_mul_right _ (Nat.le_of_lt hD)
    have ht : R / 256 ^ (j + n) % 256 * 256 + R / 256 ^ (j + n - 1) % 256 = R / 256 ^ (j + n - 1) := by
      have e : R / 256 ^ (j + n) = R / 256 ^ (j + n - 1) / 256 := by
        rw [Nat.div_div_eq_div_mul, ← Nat.pow_succ, show (j + n - 1).succ = j + n by omega]
      have hl : R / 256 ^ (j + n - 1) < 256 * 256 := by
        apply Nat.div_lt_of_lt_mul
        rw [show 256 ^ (j + n - 1) * (256 * 256) = 256 ^ (j + n + 1) by
          rw [← Nat.mul_assoc, ← Nat.pow_succ, ← Nat.pow_succ, show (j + n - 1).succ.succ = j + n + 1 by omega]]
        exact hRn
      rw [e]
      generalize R / 256 ^ (j + n - 1) = y at *
      omega
    rw [ht, hd]
    rw [hd] at h0
    refine Nat.le_min.2 ⟨?_, by omega⟩
    rw [Nat.le_div_iff_mul_le h0, Nat.le_div_iff_mul_le (pow256_pos _)]
    have e : 256 ^ (j + n - 1) = 256 ^ (n - 1) * 256 ^ j := by rw [← Nat.pow_add]; congr 1; omega
    rw [e]
    calc R / (D * 256 ^ j) * (D / 256 ^ (n - 1)) * (256 ^ (n - 1) * 256 ^ j) = R / (D * 256 ^ j) * (D / 256 ^ (n - 1) * 256 ^ (n - 1) * 256 ^ j) := by
          rw [Nat.mul_assoc, Nat.mul_assoc]
      _ ≤ R / (D * 256 ^ j) * (D * 256 ^ j) := Nat.mul_le_mul_left _ (Nat.mul_le_mul_right _ (Nat.div_mul_le_self _ _))
      _ ≤ R := Nat.div_mul_le_self _ _
  · right; omega
/-- What one round leaves. -/
theorem round_end {X R g D j P : Nat} {top : Int} (hP : P = 256 ^ j) (hD : 0 < D) (he : ((X : Nat) : Int) + top + ((g * D * P : Nat) : Int) = R) (h0 : 0 ≤ (X : Int) + top) (hg : R / (D * P) ≤ g) :
    g = R / (D * P) ∧ (X : Int) + top = ((R % (D * P) : Nat) : Int) := by
  have hPp : 0 < D * P := Nat.mul_pos hD (by rw [hP]; exact pow256_pos j)
  have h1 : g * (D * P) ≤ R := by rw [← Nat.mul_assoc]; omega
  have h2 : g ≤ R / (D * P) := (Nat.le_div_iff_mul_le hPp).2 h1
  have hge : g = R / (D * P) := Nat.le_antisymm h2 hg
  refine ⟨hge, ?_⟩
  have h3 := Nat.div_add_mod R (D * P)
  rw [← hge, Nat.mul_comm, ← Nat.mul_assoc] at h3
  omega
theorem div_done {a b s Q R : Nat} (hb : 0 < b) (h : a * 2 ^ s = Q * (b * 2 ^ s) + R) (hR : R < b * 2 ^ s) : Q = a / b ∧ R / 2 ^ s = a % b := by
  have hp : 0 < 2 ^ s := Nat.pow_pos (by omega)
  have hB : 0 < b * 2 ^ s := Nat.mul_pos hb hp
  have h1 : a * 2 ^ s / (b * 2 ^ s) = Q := by
    rw [h, Nat.mul_comm Q, Nat.mul_add_div hB, Nat.div_eq_of_lt hR, Nat.add_zero]
  have h2 : a * 2 ^ s % (b * 2 ^ s) = R := by
    rw [h, Nat.mul_comm Q, Nat.mul_add_mod, Nat.mod_eq_of_lt hR]
  rw [Nat.mul_div_mul_right _ _ hp] at h1
  rw [Nat.mul_mod_mul_right] at h2
  exact ⟨h1.symm, by rw [← h2, Nat.mul_div_cancel _ hp]⟩
end Go.Proofs.YtcpglhjmhegfmaaGreatDoor
