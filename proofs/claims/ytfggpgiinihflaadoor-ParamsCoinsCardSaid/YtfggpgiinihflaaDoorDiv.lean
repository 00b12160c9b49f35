/- Plain law: the division of 128 bits by 64, word by word. -/
import Derived.Test.YtfggpgiinihflaaDoorNat
namespace Go.Proofs.YtfggpgiinihflaaDoor

/-- The state of the estimate of one word of a quotient: n = u * 2^32 + d is divided by y = a * 2^32 + b. -/
structure Est (u d y a b q r : Nat) : Prop where
  hy : y = a * 4294967296 + b
  hb : b < 4294967296
  ha : 2147483648 ≤ a
  ha2 : a < 4294967296
  hd : d < 4294967296
  hu : u < y
  sum : q * a + r = u
  low : (u * 4294967296 + d) / y ≤ q
  high : q ≤ 4294967297
theorem Est.start {u d y a b : Nat} (hy : y = a * 4294967296 + b) (hb : b < 4294967296) (ha : 2147483648 ≤ a) (ha2 : a < 4294967296) (hd : d < 4294967296) (hu : u < y) : Est u d y a b (u / a) (u % a) where
  hy := hy
  hb := hb
  ha := ha
  ha2 := ha2
  hd := hd
  hu := hu
  sum := by rw [Nat.mul_comm]; exact Nat.div_add_mod u a
  low := by
    apply Nat.le_of_lt_succ
    rw [Nat.div_lt_iff_lt_mul (by omega)]
    have h1 : u < (u / a + 1) * a := by
      have := Nat.div_add_mod u a
      have h2 := Nat.mod_lt u (show 0 < a by omega)
      rw [Nat.add_mul, Nat.mul_comm]
      omega
    have h3 : (u / a + 1) * (a * 4294967296) ≤ (u / a + 1) * y := Nat.mul_le_mul_left _ (by omega)
    rw [← Nat.mul_assoc] at h3
    have h4 : u + 1 ≤ (u / a + 1) * a := h1
    have h5 := Nat.mul_le_mul_right 4294967296 h4
    show u * 4294967296 + d < (u / a + 1) * y
    omega
  high := by
    apply Nat.le_of_lt_succ
    rw [Nat.div_lt_iff_lt_mul (by omega)]
    show u < 4294967298 * a
    omega
variable {u d y a b q r : Nat}
theorem Est.top (h : Est u d y a b q r) : (u * 4294967296 + d) / y < 4294967296 := by
  have := h.hu
  have := h.hd
  rw [Nat.div_lt_iff_lt_mul (by omega)]
  have h1 := Nat.mul_le_mul_right 4294967296 (show u + 1 ≤ y from h.hu)
  rw [Nat.mul_comm 4294967296]
  omega
/-- q y = (q a) 2^32 + q b -/
theorem Est.qy (h : Est u d y a b q r) : q * y = (q * a) * 4294967296 + q * b := by
  rw [h.hy, Nat.mul_add, Nat.mul_assoc]
theorem Est.down (h : Est u d y a b q r) (ht : 4294967296 ≤ q ∨ r * 4294967296 + d < q * b) : 1 ≤ q ∧ Est u d y a b (q - 1) (r + a) := by
  have htop := h.top
  have hlt : (u * 4294967296 + d) / y < q := by
    rcases ht with ht | ht
    · omega
    · clear htop
      have hy0 : 0 < y := by have := h.hu; omega
      rw [Nat.div_lt_iff_lt_mul hy0, h.qy]
      have := h.sum
      have h2 : u * 4294967296 = (q * a) * 4294967296 + r * 4294967296 := by rw [← this, Nat.add_mul]
      rw [h2]
      clear h2 this
      rw [Nat.add_assoc]
      exact Nat.add_lt_add_left ht _
  have h1 : 1 ≤ q := Nat.lt_of_le_of_lt (Nat.zero_le _) hlt
  refine ⟨h1, { h with sum := ?_, low := Nat.le_sub_one_of_lt hlt, high := by have := h.high; omega }⟩
  have := h.sum
  have h3 : q * a = (q - 1) * a + a := by
    conv => lhs; rw [show q = q - 1 + 1 by omega, Nat.add_mul, Nat.one_mul]
  omega
theorem Est.exact (h : Est u d y a b q r) (ht : q * b ≤ r * 4294967296 + d) : q = (u * 4294967296 + d) / y := by
  have hle : q ≤ (u * 4294967296 + d) / y := by
    have hy0 : 0 < y := by have := h.hu; omega
    rw [Nat.le_div_iff_mul_le hy0, h.qy]
    have := h.sum
    have h2 : u * 4294967296 = (q * a) * 4294967296 + r * 4294967296 := by rw [← this, Nat.add_mul]
    rw [h2, Nat.add_assoc]
    exact Nat.add_le_add_left ht _
  have := h.low
  omega
theorem Est.exact_break (h : Est u d y a b q r) (hq : q ≤ 4294967296) (hr : 4294967296 ≤ r) : q = (u * 4294967296 + d) / y := by
  apply h.exact
  have h1 : q * b ≤ 4294967296 * 4294967296 := Nat.mul_le_mul hq (by have := h.hb; omega)
  have h2 : 4294967296 * 4294967296 ≤ r * 4294967296 := Nat.mul_le_mul_right _ hr
  omega
theorem Est.prod_lt (h : Est u d y a b q r) (hq : q < 4294967296) : q * b < 18446744073709551616 := by
  have h1 : q * b ≤ 4294967295 * 4294967295 := Nat.mul_le_mul (by omega) (by have := h.hb; omega)
  omega

/-- Two words of a quotient, put together. -/
theorem two_words (u d e y : Nat) (hy : 0 < y) : (u * 18446744073709551616 + (d * 4294967296 + e)) / y = (u * 4294967296 + d) / y * 4294967296 + ((u * 4294967296 + d) % y * 4294967296 + e) / y ∧
    (u * 18446744073709551616 + (d * 4294967296 + e)) % y = ((u * 4294967296 + d) % y * 4294967296 + e) % y := by
  have e1 : u * 18446744073709551616 + (d * 4294967296 + e) = ((u * 4294967296 + d) % y * 4294967296 + e) + y * ((u * 4294967296 + d) / y * 4294967296) := by
    have := Nat.div_add_mod (u * 4294967296 + d) y
    rw [← Nat.mul_assoc]
    generalize y * ((u * 4294967296 + d) / y) = p at this ⊢
    omega
  rw [e1]
  constructor
  · rw [Nat.add_mul_div_left _ _ hy, Nat.add_comm]
  · rw [Nat.add_mul_mod_self_left]
/-- Scaling: the divisor and the dividend are multiplied by a power of 2. -/
theorem scaled (x y k : Nat) (hk : 0 < k) : x * k / (y * k) = x / y ∧ x * k % (y * k) / k = x % y := by
  constructor
  · exact Nat.mul_div_mul_right x y hk
  · rw [Nat.mul_mod_mul_right, Nat.mul_div_cancel _ hk]
/-- The words of a scaled number. -/
theorem scaled_words (hi lo s y : Nat) (hs : s ≤ 63) (hlo : lo < 18446744073709551616) (hhi : hi < y) :
    (hi * 18446744073709551616 + lo) * 2 ^ s = (hi * 2 ^ s + lo / 2 ^ (64 - s)) * 18446744073709551616 + lo * 2 ^ s % 18446744073709551616 ∧ hi * 2 ^ s + lo / 2 ^ (64 - s) < y * 2 ^ s ∧ lo / 2 ^ (64 - s) < 2 ^ s := by
  have hp : 2 ^ (64 - s) * 2 ^ s = 18446744073709551616 := by rw [← Nat.pow_add, show 64 - s + s = 64 by omega]
  have hk : 0 < 2 ^ s := Nat.pow_pos (by omega)
  have hk2 : 0 < 2 ^ (64 - s) := Nat.pow_pos (by omega)
  have hd : lo * 2 ^ s / 18446744073709551616 = lo / 2 ^ (64 - s) := by rw [← hp, Nat.mul_div_mul_right _ _ hk]
  have hl : lo / 2 ^ (64 - s) < 2 ^ s := by rw [Nat.div_lt_iff_lt_mul hk2, Nat.mul_comm, hp]; exact hlo
  refine ⟨?_, ?_, hl⟩
  · have := Nat.div_add_mod (lo * 2 ^ s) 18446744073709551616
    rw [hd] at this
    rw [Nat.add_mul, Nat.add_mul, Nat.mul_assoc, Nat.mul_comm 18446744073709551616 (2 ^ s), ← Nat.mul_assoc]
    omega
  · have := Nat.mul_le_mul_right (2 ^ s) (show hi + 1 ≤ y from hhi)
    rw [Nat.add_mul, Nat.one_mul] at this
    omega

end Go.Proofs.YtfggpgiinihflaaDoor
