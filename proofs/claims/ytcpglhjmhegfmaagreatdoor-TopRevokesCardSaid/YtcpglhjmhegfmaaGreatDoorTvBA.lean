/- Plain law: big-endian bytes and natural numbers. No program in sight. Plain law: what the functions on natural numbers return, as functions of strings. No program in sight. Plain law: sums and differences digit by digit. Plain law: the order of strings and of numbers. Plain law: a product column by column. Plain law: the division of 128 bits by 64, word by word. Plain law: powers by squaring. Plain law: the test of primality, as the program does it. Plain law: the symbol of Jacobi, as the program reckons it. Plain law: the symbol of Jacobi is multiplicative. Gauss's count (for every odd modulus), Eisenstein's sum, the law of reciprocity. No program in sight. Plain law: every prime passes the test of primality. Fermat's little theorem, the square roots of 1 modulo a prime. No program in sight. Words for memory: a block of bytes that is known whole. -/
import Derived.Lib.Bytealg
import Derived.Lib.Small
import Derived.Lib.TrailingZeros
import Derived.WalkKit
import Derived.WalkSpells
import Derived.Deep.Draws
namespace Go.Proofs.YtcpglhjmhegfmaaGreatDoor
/-- The number that some bytes are, the most significant one first. -/
def val (l : List UInt8) : Nat := l.foldl (fun a b => a * 256 + b.toNat) 0
theorem foldl_val (l : List UInt8) (a : Nat) : l.foldl (fun a b => a * 256 + b.toNat) a = a * 256 ^ l.length + val l := by
  unfold val
  induction l generalizing a with
  | nil => simp
  | cons b l ih =>
    simp only [List.foldl_cons, List.length_cons]
    rw [ih, ih (0 * 256 + b.toNat), Nat.pow_succ, Nat.add_mul, Nat.zero_mul, Nat.zero_add, Nat.mul_assoc, Nat.mul_comm 256]
    omega
theorem val_append (l m : List UInt8) : val (l ++ m) = val l * 256 ^ m.length + val m := by
  conv => lhs; unfold val
  rw [List.foldl_append]
  show m.foldl _ (val l) = _
  rw [foldl_val]
theorem val_cons (b : UInt8) (l : List UInt8) : val (b :: l) = b.toNat * 256 ^ l.length + val l := by
  have := val_append [b] l
  simpa [val] using this
theorem val_snoc (l : List UInt8) (b : UInt8) : val (l ++ [b]) = val l * 256 + b.toNat := by
  rw [val_append]; simp [val]
theorem val_lt (l : List UInt8) : val l < 256 ^ l.length := by
  induction l with
  | nil => simp [val]
  | cons b l ih =>
    rw [val_cons, List.length_cons, Nat.pow_succ]
    have hb : b.toNat < 256 := b.toNat_lt
    have h1 : b.toNat * 256 ^ l.length + 256 ^ l.length ≤ 256 * 256 ^ l.length := by
      have := Nat.mul_le_mul_right (256 ^ l.length) (show b.toNat + 1 ≤ 256 by omega)
      rw [Nat.add_mul, Nat.one_mul] at this
      exact this
    rw [Nat.mul_comm (256 ^ l.length)]
    omega
/-- Bytes without the leading zero bytes. -/
def trimL : List UInt8 → List UInt8
  | [] => []
  | b :: l => if b = 0 then trimL l else b :: l
theorem val_trimL (l : List UInt8) : val (trimL l) = val l := by
  induction l with
  | nil => rfl
  | cons b l ih =>
    unfold trimL
    split
    · rename_i h; subst h; rw [ih, val_cons]; simp
    · rfl
/-- No leading zero byte. -/
def lead : List UInt8 → Bool
  | [] => true
  | b :: _ => b != 0
theorem lead_trimL (l : List UInt8) : lead (trimL l) = true := by
  induction l with
  | nil => rfl
  | cons b l ih =>
    unfold trimL
    split
    · exact ih
    · rename_i h; simpa [lead] using h
/-- The bytes of a number, without leading zero bytes (f: at least the number of bytes). -/
def encF : Nat → Nat → List UInt8
  | 0, _ => []
  | f + 1, n => if n = 0 then [] else encF f (n / 256) ++ [UInt8.ofNat n]
def enc (n : Nat) : List UInt8 := encF n n
theorem toNat_ofNat8 (n : Nat) : (UInt8.ofNat n).toNat = n % 256 := by simp
theorem val_encF (f n : Nat) (h : n ≤ f) : val (encF f n) = n := by
  induction f generalizing n with
  | zero => have : n = 0 := by omega
            subst this; rfl
  | succ f ih =>
    unfold encF
    split
    · rename_i h0; subst h0; rfl
    · rw [val_snoc, ih _ (by omega), toNat_ofNat8]; omega
theorem val_enc (n : Nat) : val (enc n) = n := val_encF n n (Nat.le_refl _)
theorem encF_ne_nil (f n : Nat) (hf : n ≤ f) (h : n ≠ 0) : encF f n ≠ [] := by
  cases f with
  | zero => omega
  | succ f => unfold encF; rw [if_neg h]; simp
theorem lead_append {l m : List UInt8} (h : lead l = true) (hl : l ≠ []) : lead (l ++ m) = true := by
  cases l with
  | nil => exact absurd rfl hl
  | cons b l => exact h
theorem lead_encF (f n : Nat) (h : n ≤ f) : lead (encF f n) = true := by
  induction f generalizing n with
  | zero => rfl
  | succ f ih =>
    unfold encF
    split
    · rfl
    · rename_i h0
      by_cases h1 : n / 256 = 0
      · have e : encF f (n / 256) = [] := by
          rw [h1]; cases f with
          | zero => rfl
          | succ f => rfl
        rw [e]
        show (UInt8.ofNat n != 0) = true
        rw [bne_iff_ne]
        intro hz
        have := congrArg UInt8.toNat hz
        rw [toNat_ofNat8] at this
        simp at this
        omega
      · exact lead_append (ih _ (by omega)) (encF_ne_nil _ _ (by omega) h1)
theorem lead_enc (n : Nat) : lead (enc n) = true := lead_encF n n (Nat.le_refl _)
/-- Lists without leading zero bytes are told apart by their numbers. -/
theorem val_pos_of_lead {b : UInt8} {l : List UInt8} (h : lead (b :: l) = true) : 256 ^ l.length ≤ val (b :: l) := by
  rw [val_cons]
  have hb : b.toNat ≠ 0 := by
    intro e
    have : b = 0 := UInt8.toNat_inj.mp (by simpa using e)
    subst this
    simp [lead] at h
  have := Nat.mul_le_mul_right (256 ^ l.length) (show 1 ≤ b.toNat by omega)
  omega
theorem length_lt_of_val {l m : List UInt8} (hm : lead m = true) (h : l.length < m.length) : val l < val m := by
  cases m with
  | nil => simp at h
  | cons b m =>
    have h1 := val_pos_of_lead hm
    have h2 := val_lt l
    have h3 : 256 ^ l.length ≤ 256 ^ m.length := Nat.pow_le_pow_right (by omega) (by simp at h; omega)
    omega
theorem val_inj_len {l m : List UInt8} (h : l.length = m.length) (hv : val l = val m) : l = m := by
  induction l generalizing m with
  | nil => cases m with
    | nil => rfl
    | cons => simp at h
  | cons b l ih =>
    cases m with
    | nil => simp at h
    | cons c m =>
      have hl : l.length = m.length := by simpa using h
      rw [val_cons, val_cons, hl] at hv
      have h1 := val_lt l
      have h2 := val_lt m
      rw [hl] at h1
      have hb : b.toNat = c.toNat := by
        have e1 : (b.toNat * 256 ^ m.length + val l) / 256 ^ m.length = b.toNat := by
          rw [Nat.mul_comm, Nat.mul_add_div (Nat.pow_pos (by omega)), Nat.div_eq_of_lt h1]; omega
        have e2 : (c.toNat * 256 ^ m.length + val m) / 256 ^ m.length = c.toNat := by
          rw [Nat.mul_comm, Nat.mul_add_div (Nat.pow_pos (by omega)), Nat.div_eq_of_lt h2]; omega
        rw [← e1, ← e2, hv]
      have hbc : b = c := UInt8.toNat_inj.mp hb
      subst hbc
      rw [ih hl (by omega)]
theorem val_inj {l m : List UInt8} (hl : lead l = true) (hm : lead m = true) (hv : val l = val m) : l = m := by
  rcases Nat.lt_trichotomy l.length m.length with h | h | h
  · have := length_lt_of_val hm h; omega
  · exact val_inj_len h hv
  · have := length_lt_of_val hl h; omega
theorem enc_val {l : List UInt8} (h : lead l = true) : enc (val l) = l := val_inj (lead_enc _) h (val_enc _)
theorem trimL_eq (l : List UInt8) : trimL l = enc (val l) := by
  rw [← val_trimL, enc_val (lead_trimL l)]
theorem enc_eq_nil {n : Nat} (h : enc n = []) : n = 0 := by have := val_enc n; rw [h] at this; exact this.symm
theorem enc_length_le {n k : Nat} : (enc n).length ≤ k ↔ n < 256 ^ k := by
  constructor
  · intro h
    have h1 := val_lt (enc n)
    rw [val_enc] at h1
    exact Nat.lt_of_lt_of_le h1 (Nat.pow_le_pow_right (by omega) h)
  · intro h
    rcases Nat.lt_or_ge k (enc n).length with h1 | h1
    · exfalso
      have hl := lead_enc n
      have hv := val_enc n
      cases he : enc n with
      | nil => rw [he] at h1; simp at h1
      | cons b l =>
        rw [he] at h1 hl hv
        have h2 := val_pos_of_lead hl
        have h3 : 256 ^ k ≤ 256 ^ l.length := Nat.pow_le_pow_right (by omega) (by simp at h1; omega)
        omega
    · exact h1
theorem enc_inj {a b : Nat} (h : enc a = enc b) : a = b := by rw [← val_enc a, ← val_enc b, h]
/-- A number as a string. -/
def B (n : Nat) : ByteArray := ⟨(enc n).toArray⟩
/-- The number of a string. -/
def num (s : ByteArray) : Nat := val s.data.toList
theorem num_B (n : Nat) : num (B n) = n := val_enc n
theorem B_inj {a b : Nat} (h : B a = B b) : a = b := by rw [← num_B a, ← num_B b, h]
/-- The bound of all numbers: 128 bytes. -/
def lim : Nat := 256 ^ 128
theorem lim_eq : lim = 256 ^ 128 := rfl
/-- A canonical string. -/
def valid (s : ByteArray) : Bool := decide (s.size ≤ 128) && lead s.data.toList
theorem B_num {s : ByteArray} (h : valid s = true) : B (num s) = s := by
  unfold valid at h
  simp only [Bool.and_eq_true] at h
  unfold B num
  rw [enc_val h.2]
theorem B_size (n : Nat) : (B n).size = (enc n).length := by
  show (enc n).toArray.size = _
  simp
theorem size_eq (s : ByteArray) : s.size = s.data.toList.length := by rw [Array.length_toList]; rfl
theorem num_lt (s : ByteArray) : num s < 256 ^ s.size := by
  rw [size_eq]; exact val_lt s.data.toList
theorem valid_B {n : Nat} (h : n < lim) : valid (B n) = true := by
  unfold valid
  rw [B_size, Bool.and_eq_true, decide_eq_true_eq]
  exact ⟨enc_length_le.2 h, lead_enc n⟩
theorem valid_iff (s : ByteArray) : valid s = true ↔ ∃ n, n < lim ∧ s = B n := by
  constructor
  · intro h
    refine ⟨num s, ?_, (B_num h).symm⟩
    have h1 := num_lt s
    have h2 : s.size ≤ 128 := by unfold valid at h; rw [Bool.and_eq_true, decide_eq_true_eq] at h; exact h.1
    rw [lim_eq]
    exact Nat.lt_of_lt_of_le h1 (Nat.pow_le_pow_right (by omega) h2)
  · rintro ⟨n, h, rfl⟩
    exact valid_B h
/-- The last k bytes of a number, the most significant one first. -/
def be : Nat → Nat → List UInt8
  | 0, _ => []
  | k + 1, n => UInt8.ofNat (n / 256 ^ k) :: be k n
theorem be_length (k n : Nat) : (be k n).length = k := by
  induction k with
  | zero => rfl
  | succ k ih => simp [be, ih]
theorem val_be (k n : Nat) : val (be k n) = n % 256 ^ k := by
  induction k with
  | zero => simp [be, val, Nat.mod_one]
  | succ k ih =>
    unfold be
    rw [val_cons, be_length, ih, toNat_ofNat8, Nat.pow_succ, Nat.mod_mul]
    rw [Nat.mul_comm, Nat.add_comm]
theorem trimL_be {k n : Nat} (h : n < 256 ^ k) : trimL (be k n) = enc n := by
  rw [trimL_eq, val_be, Nat.mod_eq_of_lt h]
/-- A row of N bytes of which the last i have been filled in. -/
def fill (N i n : Nat) : List UInt8 := List.replicate (N - i) 0 ++ be i n
theorem fill_zero (N n : Nat) : fill N 0 n = List.replicate N 0 := by simp [fill, be]
theorem fill_full (N n : Nat) : fill N N n = be N n := by simp [fill]
theorem fill_length {N i : Nat} (n : Nat) (h : i ≤ N) : (fill N i n).length = N := by
  simp [fill, be_length]; omega
theorem fill_set {N i : Nat} (n : Nat) (h : i < N) : (fill N i n).set (N - 1 - i) (UInt8.ofNat (n / 256 ^ i)) = fill N (i + 1) n := by
  unfold fill
  have e : N - i = (N - (i + 1)) + 1 := by omega
  rw [List.set_append_left _ _ (by simp; omega), e, List.replicate_succ', show N - 1 - i = N - (i + 1) by omega]
  rw [List.set_append_right _ _ (by simp)]
  simp [be]
theorem pow_256 (i : Nat) : 2 ^ (8 * i) = 256 ^ i := by rw [Nat.pow_mul]
theorem byte_mod (m : Nat) : ((UInt8.ofNat m).toNat : Int) = (m : Int) % 256 := by rw [toNat_ofNat8]; omega
theorem byte_shr (n i : Nat) : ((n : Int) / 2 ^ (8 * i) % 256) = ((UInt8.ofNat (n / 256 ^ i)).toNat : Int) := by
  rw [byte_mod, ← pow_256]
  simp
theorem val_digit (l : List UInt8) (i : Nat) (h : i < l.length) : (l[l.length - 1 - i]'(by omega)).toNat = val l / 256 ^ i % 256 := by
  have e : l = l.take (l.length - 1 - i) ++ l[l.length - 1 - i]'(by omega) :: l.drop (l.length - i) := by
    conv => lhs; rw [← List.take_append_drop (l.length - 1 - i) l]
    rw [List.drop_eq_getElem_cons (by omega), show l.length - 1 - i + 1 = l.length - i by omega]
  generalize l[l.length - 1 - i]'(by omega) = b at e ⊢
  have hd : (l.drop (l.length - i)).length = i := by simp; omega
  rw [e, val_append, val_cons, List.length_cons, hd]
  have h1 := val_lt (l.drop (l.length - i))
  rw [hd] at h1
  have hb := b.toNat_lt
  generalize val (l.drop (l.length - i)) = r at h1
  generalize val (l.take (l.length - 1 - i)) = q
  rw [Nat.pow_succ, show q * (256 ^ i * 256) + (b.toNat * 256 ^ i + r) = 256 ^ i * (q * 256 + b.toNat) + r by
    rw [Nat.mul_add, Nat.mul_comm b.toNat, ← Nat.mul_assoc, Nat.mul_comm q, Nat.mul_assoc, Nat.mul_comm q 256, ← Nat.mul_assoc]; omega]
  rw [Nat.mul_add_div (Nat.pow_pos (by omega)), Nat.div_eq_of_lt h1]
  omega
theorem num_digit (s : ByteArray) (i : Nat) (h : i < s.size) : (s[s.size - 1 - i]'(by omega)).toNat = num s / 256 ^ i % 256 := by
  have hl : i < s.data.toList.length := by rw [← size_eq]; exact h
  have := val_digit s.data.toList i hl
  unfold num
  rw [← this]
  have e : s.data.toList.length = s.size := (size_eq s).symm
  simp only [e]
  rfl
theorem num_digit_high (s : ByteArray) (i : Nat) (h : s.size ≤ i) : num s / 256 ^ i % 256 = 0 := by
  rw [Nat.div_eq_of_lt (Nat.lt_of_lt_of_le (num_lt s) (Nat.pow_le_pow_right (by omega) h))]
/-- The first bytes: what a reading from the front has gathered. -/
theorem val_take_succ (l : List UInt8) (k : Nat) (h : k < l.length) : val (l.take (k + 1)) = val (l.take k) * 256 + l[k].toNat := by
  rw [List.take_succ_eq_append_getElem h, val_snoc]
theorem val_take_lt (l : List UInt8) (k : Nat) : val (l.take k) < 256 ^ k := by
  refine Nat.lt_of_lt_of_le (val_lt _) (Nat.pow_le_pow_right (by omega) ?_)
  simp; omega
theorem B_size_le {n : Nat} : (B n).size ≤ 128 ↔ n < lim := by rw [B_size]; exact enc_length_le
theorem B_size_le' {n k : Nat} : (B n).size ≤ k ↔ n < 256 ^ k := by rw [B_size]; exact enc_length_le
theorem natSmall_bound (s : ByteArray) (h : s.size ≤ 8) : num s < 18446744073709551616 :=
  Nat.lt_of_lt_of_le (num_lt s) (Nat.pow_le_pow_right (by omega) h)
end Go.Proofs.YtcpglhjmhegfmaaGreatDoor
namespace Go.Proofs.YtcpglhjmhegfmaaGreatDoor
def E0 : ByteArray := B 0
/-- A number, or the error 5 if it has more than 128 bytes. -/
def fitted (n : Nat) : ByteArray × Int := if n < lim then (B n, 0) else (E0, 5)
def natSub (a b : ByteArray) : ByteArray × Int := if valid a && valid b then (if num a < num b then (E0, 2) else (B (num a - num b), 0)) else (E0, 3)
def natMul (a b : ByteArray) : ByteArray × Int := if valid a && valid b then fitted (num a * num b) else (E0, 3)
def natDivMod (a b : ByteArray) : ByteArray × ByteArray × Int :=
  if valid a && valid b then (if num b = 0 then (E0, E0, 11) else (B (num a / num b), B (num a % num b), 0)) else (E0, E0, 3)
def natGcd (a b : ByteArray) : ByteArray × Int := if valid a && valid b then (B (Nat.gcd (num a) (num b)), 0) else (E0, 3)
def cmpN (x y : Nat) : Int := if x < y then -1 else if x = y then 0 else 1
def natCmp (a b : ByteArray) : Int := if valid a && valid b then cmpN (num a) (num b) else 0
def natSmall (a : ByteArray) : Nat × Bool := if valid a && decide (a.size ≤ 8) then (num a, true) else (0, false)
def natBit (a : ByteArray) (i : Nat) : Bool := valid a && (num a / 2 ^ i % 2 == 1)
/-- The number of binary digits. -/
def bitsN (n : Nat) : Nat := if n = 0 then 0 else Nat.log2 n + 1
def natBits (a : ByteArray) : Nat := if valid a then bitsN (num a) else 0
end Go.Proofs.YtcpglhjmhegfmaaGreatDoor
namespace Go.Proofs.YtcpglhjmhegfmaaGreatDoor
theorem split_div (p : Nat) (hp : 0 < p) (r q : Nat) : (r + p * q) / p = r / p + q := Nat.add_mul_div_left r q hp
/-- The borrow of a difference out of the digit i. -/
def borrowAt (x y i : Nat) : Nat := if x % 256 ^ i < y % 256 ^ i then 1 else 0
theorem borrowAt_zero (x y : Nat) : borrowAt x y 0 = 0 := by simp [borrowAt, Nat.mod_one]
theorem borrowAt_le (x y i : Nat) : borrowAt x y i ≤ 1 := by unfold borrowAt; split <;> omega
theorem borrow_core (p a b c d : Nat) (ha : a < p) (hb : b < p) : ((a + p * c < b + p * d) ↔ (c < d + (if a < b then 1 else 0))) := by
  have h1 : c < d → p * c + p ≤ p * d := fun h => by
    have := Nat.mul_le_mul_left p (show c + 1 ≤ d by omega)
    rw [Nat.mul_add, Nat.mul_one] at this
    exact this
  have h2 : d < c → p * d + p ≤ p * c := fun h => by
    have := Nat.mul_le_mul_left p (show d + 1 ≤ c by omega)
    rw [Nat.mul_add, Nat.mul_one] at this
    exact this
  rcases Nat.lt_trichotomy c d with h | h | h
  · have := h1 h
    constructor <;> intro _ <;> (first | omega | (split <;> omega))
  · subst h
    split <;> constructor <;> intro _ <;> omega
  · have := h2 h
    split <;> constructor <;> intro _ <;> omega
theorem borrowAt_next (x y i : Nat) : borrowAt x y (i + 1) = if x / 256 ^ i % 256 < y / 256 ^ i % 256 + borrowAt x y i then 1 else 0 := by
  unfold borrowAt
  have hp : 0 < 256 ^ i := Nat.pow_pos (by omega)
  rw [Nat.pow_succ, Nat.mod_mul, Nat.mod_mul]
  have h1 := Nat.mod_lt x hp
  have h2 := Nat.mod_lt y hp
  generalize 256 ^ i = p at *
  have := borrow_core p (x % p) (y % p) (x / p % 256) (y / p % 256) h1 h2
  by_cases h : x % p + p * (x / p % 256) < y % p + p * (y / p % 256)
  · rw [if_pos h, if_pos (this.1 h)]
  · rw [if_neg h, if_neg (fun h' => h (this.2 h'))]
theorem borrowAt_div (x y i : Nat) (h : y ≤ x) : (x - y) / 256 ^ i + y / 256 ^ i + borrowAt x y i = x / 256 ^ i := by
  unfold borrowAt
  have hp : 0 < 256 ^ i := Nat.pow_pos (by omega)
  generalize 256 ^ i = p at *
  have ex := Nat.mod_add_div x p
  have ey := Nat.mod_add_div y p
  have h1 := Nat.mod_lt x hp
  have h2 := Nat.mod_lt y hp
  have key := borrow_core p (x % p) (y % p) (x / p) (y / p) h1 h2
  generalize hxq : x / p = xq at *
  generalize hyq : y / p = yq at *
  generalize hxr : x % p = xr at *
  generalize hyr : y % p = yr at *
  have hle : yq + (if xr < yr then 1 else 0) ≤ xq := by
    have : ¬ (xr + p * xq < yr + p * yq) := by omega
    rw [key] at this
    omega
  by_cases hb : xr < yr
  · rw [if_pos hb] at hle ⊢
    obtain ⟨k, rfl⟩ : ∃ k, xq = yq + 1 + k := ⟨xq - (yq + 1), by omega⟩
    have e : x - y = (p + xr - yr) + p * k := by rw [Nat.mul_add, Nat.mul_add, Nat.mul_one] at ex; omega
    rw [e, split_div p hp, Nat.div_eq_of_lt (by omega)]
    omega
  · rw [if_neg hb] at hle ⊢
    obtain ⟨k, rfl⟩ : ∃ k, xq = yq + k := ⟨xq - yq, by omega⟩
    have e : x - y = (xr - yr) + p * k := by rw [Nat.mul_add] at ex; omega
    rw [e, split_div p hp, Nat.div_eq_of_lt (by omega)]
    omega
theorem borrowAt_digit (x y i : Nat) (h : y ≤ x) : (((x - y) / 256 ^ i % 256 : Nat) : Int) =
    (if (x / 256 ^ i % 256 : Nat) < y / 256 ^ i % 256 + borrowAt x y i then ((x / 256 ^ i % 256 : Nat) : Int) - (y / 256 ^ i % 256 : Nat) - borrowAt x y i + 256 else ((x / 256 ^ i % 256 : Nat) : Int) - (y / 256 ^ i % 256 : Nat) - borrowAt x y i) := by
  have h1 := borrowAt_div x y i h
  have h2 := borrowAt_le x y i
  generalize borrowAt x y i = b at *
  generalize x / 256 ^ i = u at *
  generalize y / 256 ^ i = v at *
  generalize (x - y) / 256 ^ i = d at *
  split <;> omega
end Go.Proofs.YtcpglhjmhegfmaaGreatDoor
namespace Go.Proofs.YtcpglhjmhegfmaaGreatDoor
open Go
theorem cmpN_lt {x y : Nat} (h : x < y) : cmpN x y = -1 := if_pos h
theorem cmpN_gt {x y : Nat} (h : y < x) : cmpN x y = 1 := by unfold cmpN; rw [if_neg (by omega), if_neg (by omega)]
theorem cmpN_add (k x y : Nat) : cmpN (k + x) (k + y) = cmpN x y := by unfold cmpN; simp
theorem compareBytes_val : ∀ (l m : List UInt8), l.length = m.length → Lib.compareBytes l m = cmpN (val l) (val m)
  | [], [], _ => rfl
  | [], _ :: _, h => by simp at h
  | _ :: _, [], h => by simp at h
  | a :: l, b :: m, h => by
    have hl : l.length = m.length := by simpa using h
    unfold Lib.compareBytes
    rw [compareBytes_val l m hl, val_cons, val_cons, hl]
    have h1 := val_lt l
    have h2 := val_lt m
    rw [hl] at h1
    generalize val l = x at *
    generalize val m = y at *
    generalize 256 ^ m.length = p at *
    have key : ∀ {u v : UInt8}, u < v → u.toNat * p + p ≤ v.toNat * p := by
      intro u v huv
      have := Nat.mul_le_mul_right p (show u.toNat + 1 ≤ v.toNat from UInt8.lt_iff_toNat_lt.1 huv)
      rw [Nat.add_mul, Nat.one_mul] at this
      exact this
    by_cases hab : a < b
    · have := key hab
      rw [if_pos hab, cmpN_lt (by omega)]
    · rw [if_neg hab]
      by_cases hba : b < a
      · have := key hba
        rw [if_pos hba, cmpN_gt (by omega)]
      · have e : a = b := by
          apply UInt8.toNat_inj.mp
          have h3 : ¬ a.toNat < b.toNat := fun h => hab (UInt8.lt_iff_toNat_lt.2 h)
          have h4 : ¬ b.toNat < a.toNat := fun h => hba (UInt8.lt_iff_toNat_lt.2 h)
          omega
        subst e
        rw [if_neg hba, cmpN_add]
/-- What 'compare' gives at two canonical numbers. -/
theorem compare_eq (x y : Nat) : (if Lib.compareInt ((B x).size : Int) ((B y).size : Int) = 0 then Lib.compareBytes (B x).data.toList (B y).data.toList else Lib.compareInt ((B x).size : Int) ((B y).size : Int)) = cmpN x y := by
  have hx := val_enc x
  have hy := val_enc y
  rw [B_size, B_size]
  unfold Lib.compareInt
  by_cases h : ((enc x).length : Int) < ((enc y).length : Int)
  · rw [if_pos h]
    have := length_lt_of_val (lead_enc y) (show (enc x).length < (enc y).length by omega)
    rw [hx, hy] at this
    rw [cmpN_lt this]; rfl
  · rw [if_neg h]
    by_cases h2 : ((enc x).length : Int) > ((enc y).length : Int)
    · rw [if_pos h2]
      have := length_lt_of_val (lead_enc x) (show (enc y).length < (enc x).length by omega)
      rw [hx, hy] at this
      rw [cmpN_gt this]; rfl
    · rw [if_neg h2, if_pos rfl]
      show Lib.compareBytes (enc x) (enc y) = _
      rw [compareBytes_val _ _ (by omega), hx, hy]
end Go.Proofs.YtcpglhjmhegfmaaGreatDoor
namespace Go.Proofs.YtcpglhjmhegfmaaGreatDoor
/-- The number of some columns, the one of weight 1 first. -/
def ev : List Nat → Nat
  | [] => 0
  | c :: l => c + 256 * ev l
theorem ev_zeros (n : Nat) : ev (List.replicate n 0) = 0 := by
  induction n with
  | zero => rfl
  | succ n ih => rw [List.replicate_succ]; simp [ev, ih]
theorem ev_set (L : List Nat) (k d : Nat) (h : k < L.length) : ev (L.set k (L.getD k 0 + d)) = ev L + d * 256 ^ k := by
  induction L generalizing k with
  | nil => simp at h
  | cons c l ih =>
    cases k with
    | zero => simp [ev]; omega
    | succ k =>
      have := ih k (by simpa using h)
      have e : (c :: l).getD (k + 1) 0 = l.getD k 0 := by simp [List.getD]
      rw [e, List.set_cons_succ]
      show c + 256 * ev (l.set k (l.getD k 0 + d)) = c + 256 * ev l + d * 256 ^ (k + 1)
      rw [this, Nat.pow_succ, Nat.mul_add, show 256 * (d * 256 ^ k) = d * (256 ^ k * 256) by rw [Nat.mul_comm, Nat.mul_assoc]]
      omega
theorem ev_split (L : List Nat) (i : Nat) : ev L = ev (L.take i) + 256 ^ i * ev (L.drop i) := by
  induction i generalizing L with
  | zero => simp [ev]
  | succ i ih =>
    cases L with
    | nil => simp [ev]
    | cons c l =>
      show c + 256 * ev l = c + 256 * ev (l.take i) + 256 ^ (i + 1) * ev (l.drop i)
      rw [ih l, Nat.pow_succ, Nat.mul_add, ← Nat.mul_assoc, Nat.mul_comm 256 (256 ^ i)]
      omega
theorem ev_drop (L : List Nat) (i : Nat) (h : i < L.length) : ev (L.drop i) = L.getD i 0 + 256 * ev (L.drop (i + 1)) := by
  rw [List.drop_eq_getElem_cons h]
  simp [ev, List.getD, h]
theorem ev_take_succ (L : List Nat) (i : Nat) (h : i < L.length) : ev (L.take (i + 1)) = ev (L.take i) + 256 ^ i * L.getD i 0 := by
  have h1 := ev_split L i
  have h2 := ev_split L (i + 1)
  have e : 256 ^ i * 256 = 256 ^ (i + 1) := rfl
  rw [ev_drop L i h, Nat.mul_add, ← Nat.mul_assoc, e] at h1
  omega
/-- The carry into the column i. -/
def colCarry (L : List Nat) (i : Nat) : Nat := ev (L.take i) / 256 ^ i
theorem colCarry_zero (L : List Nat) : colCarry L 0 = 0 := by simp [colCarry, ev]
theorem colCarry_sum (L : List Nat) (i : Nat) (h : i < L.length) : colCarry L i + L.getD i 0 = ev (L.take (i + 1)) / 256 ^ i := by
  rw [ev_take_succ L i h, Nat.add_mul_div_left _ _ (Nat.pow_pos (by omega))]
  rfl
theorem colCarry_next (L : List Nat) (i : Nat) (h : i < L.length) : (colCarry L i + L.getD i 0) / 256 = colCarry L (i + 1) := by
  rw [colCarry_sum L i h, Nat.div_div_eq_div_mul, ← Nat.pow_succ]; rfl
theorem colCarry_digit (L : List Nat) (i : Nat) (h : i < L.length) : (colCarry L i + L.getD i 0) % 256 = ev L / 256 ^ i % 256 := by
  rw [colCarry_sum L i h, ev_split L (i + 1), Nat.pow_succ, Nat.mul_assoc, Nat.add_mul_div_left _ _ (Nat.pow_pos (by omega))]
  omega
theorem colCarry_le (L : List Nat) (M : Nat) (hM : ∀ k, L.getD k 0 ≤ M) (i : Nat) (h : i ≤ L.length) : colCarry L i ≤ M := by
  induction i with
  | zero => rw [colCarry_zero]; omega
  | succ i ih =>
    rw [← colCarry_next L i (by omega)]
    have := ih (by omega)
    have := hM i
    omega
theorem getD_set_le (L : List Nat) (M d k : Nat) (hM : ∀ j, L.getD j 0 ≤ M) (j : Nat) : (L.set k (L.getD k 0 + d)).getD j 0 ≤ M + d := by
  have h1 := hM k
  have h2 := hM j
  by_cases hj : j < L.length
  · by_cases e : k = j
    · subst e
      simp only [List.getD, List.getElem?_set_self hj, Option.getD_some] at h1 ⊢
      omega
    · rw [List.getD, List.getElem?_set_ne e]
      have : L[j]?.getD 0 ≤ M := h2
      omega
  · rw [List.getD, List.getElem?_eq_none (by simp; omega)]
    simp
/-- One row of a product, one digit more. -/
theorem prod_step (x b q i j : Nat) (hq : b / 256 ^ j % 256 = q) (xd : Nat) : x + xd * 256 ^ i * (b % 256 ^ j) + xd * q * 256 ^ (i + j) = x + xd * 256 ^ i * (b % 256 ^ (j + 1)) := by
  subst hq
  rw [Nat.pow_succ, Nat.mod_mul, Nat.mul_add, Nat.pow_add]
  have : xd * (b / 256 ^ j % 256) * (256 ^ i * 256 ^ j) = xd * 256 ^ i * (256 ^ j * (b / 256 ^ j % 256)) := by
    generalize b / 256 ^ j % 256 = r
    generalize 256 ^ i = p
    generalize 256 ^ j = s
    rw [Nat.mul_assoc xd p, Nat.mul_assoc xd r]
    congr 1
    rw [Nat.mul_comm r, Nat.mul_assoc p]
  omega
theorem prod_row (a b i : Nat) (xd : Nat) (hx : a / 256 ^ i % 256 = xd) : (a % 256 ^ i) * b + xd * 256 ^ i * b = (a % 256 ^ (i + 1)) * b := by
  subst hx
  rw [Nat.pow_succ, Nat.mod_mul, Nat.add_mul, Nat.mul_comm (256 ^ i)]
end Go.Proofs.YtcpglhjmhegfmaaGreatDoor
namespace Go.Proofs.YtcpglhjmhegfmaaGreatDoor
/-- The state of the estimate of one word of a quotient: n = u * 2^32 + d is divided by y = a * 2^32 + b. -/
structure Est (u d y a b q r : Nat) : Prop where
  hy : y = a * 4294967296 + b
  hb : b < 4294967296
  ha : 2147483648 ≤ a
  ha2 : a < 4294967296
  hd : d < 4294967296
  hu : u < y
  sum : q * a + r = u
  low : (u * 4294967296 + d) / y ≤ q
  high : q ≤ 4294967297
theorem Est.start {u d y a b : Nat} (hy : y = a * 4294967296 + b) (hb : b < 4294967296) (ha : 2147483648 ≤ a) (ha2 : a < 4294967296) (hd : d < 4294967296) (hu : u < y) : Est u d y a b (u / a) (u % a) where
  hy := hy
  hb := hb
  ha := ha
  ha2 := ha2
  hd := hd
  hu := hu
  sum := by rw [Nat.mul_comm]; exact Nat.div_add_mod u a
  low := by
    apply Nat.le_of_lt_succ
    rw [Nat.div_lt_iff_lt_mul (by omega)]
    have h1 : u < (u / a + 1) * a := by
      have := Nat.div_add_mod u a
      have h2 := Nat.mod_lt u (show 0 < a by omega)
      rw [Nat.add_mul, Nat.mul_comm]
      omega
    have h3 : (u / a + 1) * (a * 4294967296) ≤ (u / a + 1) * y := Nat.mul_le_mul_left _ (by omega)
    rw [← Nat.mul_assoc] at h3
    have h4 : u + 1 ≤ (u / a + 1) * a := h1
    have h5 := Nat.mul_le_mul_right 4294967296 h4
    show u * 4294967296 + d < (u / a + 1) * y
    omega
  high := by
    apply Nat.le_of_lt_succ
    rw [Nat.div_lt_iff_lt_mul (by omega)]
    show u < 4294967298 * a
    omega
variable {u d y a b q r : Nat}
theorem Est.top (h : Est u d y a b q r) : (u * 4294967296 + d) / y < 4294967296 := by
  have := h.hu
  have := h.hd
  rw [Nat.div_lt_iff_lt_mul (by omega)]
  have h1 := Nat.mul_le_mul_right 4294967296 (show u + 1 ≤ y from h.hu)
  rw [Nat.mul_comm 4294967296]
  omega
/-- q y = (q a) 2^32 + q b -/
theorem Est.qy (h : Est u d y a b q r) : q * y = (q * a) * 4294967296 + q * b := by
  rw [h.hy, Nat.mul_add, Nat.mul_assoc]
theorem Est.down (h : Est u d y a b q r) (ht : 4294967296 ≤ q ∨ r * 4294967296 + d < q * b) : 1 ≤ q ∧ Est u d y a b (q - 1) (r + a) := by
  have htop := h.top
  have hlt : (u * 4294967296 + d) / y < q := by
    rcases ht with ht | ht
    · omega
    · clear htop
      have hy0 : 0 < y := by have := h.hu; omega
      rw [Nat.div_lt_iff_lt_mul hy0, h.qy]
      have := h.sum
      have h2 : u * 4294967296 = (q * a) * 4294967296 + r * 4294967296 := by rw [← this, Nat.add_mul]
      rw [h2]
      clear h2 this
      rw [Nat.add_assoc]
      exact Nat.add_lt_add_left ht _
  have h1 : 1 ≤ q := Nat.lt_of_le_of_lt (Nat.zero_le _) hlt
  refine ⟨h1, { h with sum := ?_, low := Nat.le_sub_one_of_lt hlt, high := by have := h.high; omega }⟩
  have := h.sum
  have h3 : q * a = (q - 1) * a + a := by
    conv => lhs; rw [show q = q - 1 + 1 by omega, Nat.add_mul, Nat.one_mul]
  omega
theorem Est.exact (h : Est u d y a b q r) (ht : q * b ≤ r * 4294967296 + d) : q = (u * 4294967296 + d) / y := by
  have hle : q ≤ (u * 4294967296 + d) / y := by
    have hy0 : 0 < y := by have := h.hu; omega
    rw [Nat.le_div_iff_mul_le hy0, h.qy]
    have := h.sum
    have h2 : u * 4294967296 = (q * a) * 4294967296 + r * 4294967296 := by rw [← this, Nat.add_mul]
    rw [h2, Nat.add_assoc]
    exact Nat.add_le_add_left ht _
  have := h.low
  omega
theorem Est.exact_break (h : Est u d y a b q r) (hq : q ≤ 4294967296) (hr : 4294967296 ≤ r) : q = (u * 4294967296 + d) / y := by
  apply h.exact
  have h1 : q * b ≤ 4294967296 * 4294967296 := Nat.mul_le_mul hq (by have := h.hb; omega)
  have h2 : 4294967296 * 4294967296 ≤ r * 4294967296 := Nat.mul_le_mul_right _ hr
  omega
theorem Est.prod_lt (h : Est u d y a b q r) (hq : q < 4294967296) : q * b < 18446744073709551616 := by
  have h1 : q * b ≤ 4294967295 * 4294967295 := Nat.mul_le_mul (by omega) (by have := h.hb; omega)
  omega
/-- Two words of a quotient, put together. -/
theorem two_words (u d e y : Nat) (hy : 0 < y) : (u * 18446744073709551616 + (d * 4294967296 + e)) / y = (u * 4294967296 + d) / y * 4294967296 + ((u * 4294967296 + d) % y * 4294967296 + e) / y ∧
    (u * 18446744073709551616 + (d * 4294967296 + e)) % y = ((u * 4294967296 + d) % y * 4294967296 + e) % y := by
  have e1 : u * 18446744073709551616 + (d * 4294967296 + e) = ((u * 4294967296 + d) % y * 4294967296 + e) + y * ((u * 4294967296 + d) / y * 4294967296) := by
    have := Nat.div_add_mod (u * 4294967296 + d) y
    rw [← Nat.mul_assoc]
    generalize y * ((u * 4294967296 + d) / y) = p at this ⊢
    omega
  rw [e1]
  constructor
  · rw [Nat.add_mul_div_left _ _ hy, Nat.add_comm]
  · rw [Nat.add_mul_mod_self_left]
/-- Scaling: the divisor and the dividend are multiplied by a power of 2. -/
theorem scaled (x y k : Nat) (hk : 0 < k) : x * k / (y * k) = x / y ∧ x * k % (y * k) / k = x % y := by
  constructor
  · exact Nat.mul_div_mul_right x y hk
  · rw [Nat.mul_mod_mul_right, Nat.mul_div_cancel _ hk]
/-- The words of a scaled number. -/
theorem scaled_words (hi lo s y : Nat) (hs : s ≤ 63) (hlo : lo < 18446744073709551616) (hhi : hi < y) :
    (hi * 18446744073709551616 + lo) * 2 ^ s = (hi * 2 ^ s + lo / 2 ^ (64 - s)) * 18446744073709551616 + lo * 2 ^ s % 18446744073709551616 ∧ hi * 2 ^ s + lo / 2 ^ (64 - s) < y * 2 ^ s ∧ lo / 2 ^ (64 - s) < 2 ^ s := by
  have hp : 2 ^ (64 - s) * 2 ^ s = 18446744073709551616 := by rw [← Nat.pow_add, show 64 - s + s = 64 by omega]
  have hk : 0 < 2 ^ s := Nat.pow_pos (by omega)
  have hk2 : 0 < 2 ^ (64 - s) := Nat.pow_pos (by omega)
  have hd : lo * 2 ^ s / 18446744073709551616 = lo / 2 ^ (64 - s) := by rw [← hp, Nat.mul_div_mul_right _ _ hk]
  have hl : lo / 2 ^ (64 - s) < 2 ^ s := by rw [Nat.div_lt_iff_lt_mul hk2, Nat.mul_comm, hp]; exact hlo
  refine ⟨?_, ?_, hl⟩
  · have := Nat.div_add_mod (lo * 2 ^ s) 18446744073709551616
    rw [hd] at this
    rw [Nat.add_mul, Nat.add_mul, Nat.mul_assoc, Nat.mul_comm 18446744073709551616 (2 ^ s), ← Nat.mul_assoc]
    omega
  · have := Nat.mul_le_mul_right (2 ^ s) (show hi + 1 ≤ y from hhi)
    rw [Nat.add_mul, Nat.one_mul] at this
    omega
end Go.Proofs.YtcpglhjmhegfmaaGreatDoor
namespace Go.Proofs.YtcpglhjmhegfmaaGreatDoor
theorem mul_mod_l (a b m : Nat) : (a % m) * b % m = a * b % m := by
  rw [Nat.mul_mod, Nat.mod_mod, ← Nat.mul_mod]
theorem pow_mod_l (a k m : Nat) : (a % m) ^ k % m = a ^ k % m := by rw [← Nat.pow_mod]
theorem pow_step_odd (x a e m : Nat) (h : e % 2 = 1) : (x * a % m) * (a * a % m) ^ (e / 2) % m = x * a ^ e % m := by
  rw [Nat.mul_mod, pow_mod_l, ← Nat.mul_mod, mul_mod_l]
  congr 1
  conv => rhs; rw [show e = 1 + 2 * (e / 2) by omega, Nat.pow_add, Nat.pow_mul]
  rw [Nat.pow_one, Nat.pow_two, Nat.mul_assoc]
theorem pow_step_even (x a e m : Nat) (h : e % 2 ≠ 1) : x * (a * a % m) ^ (e / 2) % m = x * a ^ e % m := by
  rw [Nat.mul_mod, pow_mod_l, ← Nat.mul_mod]
  congr 1
  conv => rhs; rw [show e = 2 * (e / 2) by omega, Nat.pow_mul]
  rw [Nat.pow_two]
end Go.Proofs.YtcpglhjmhegfmaaGreatDoor
namespace Go.Proofs.YtcpglhjmhegfmaaGreatDoor
open Go
def basesL : List Nat := [2, 3, 5, 7, 11, 13, 17, 19, 23, 29, 31, 37]
/-- The j-th square of the power from which the test begins. -/
def sqr (n x j : Nat) : Nat := x ^ 2 ^ j % n
def tz (n : Nat) : Nat := Lib.ctz 64 (n - 1)
def oddPart (n : Nat) : Nat := (n - 1) / 2 ^ tz n
def first (n a : Nat) : Nat := (a % n) ^ oddPart n % n
def strongB (n a : Nat) : Bool := first n a == 1 || (first n a == n - 1 || (List.range (tz n - 1)).any fun j => sqr n (first n a) (j + 1) == n - 1)
def isS (n : Nat) : Bool :=
  if n < 2 then false else
    match basesL.find? (fun p => n % p == 0) with
    | some p => n == p
    | none => basesL.all (strongB n)
theorem isS_small {n : Nat} (h : n < 2) : isS n = false := by unfold isS; rw [if_pos h]
theorem find_at {l : List Nat} {p : Nat → Bool} {k : Nat} (hk : k < l.length) (h : ∀ j, j < k → p (l.getD j 0) = false) (hp : p (l.getD k 0) = true) : l.find? p = some (l.getD k 0) := by
  induction l generalizing k with
  | nil => simp at hk
  | cons a l ih =>
    cases k with
    | zero =>
      have : p a = true := hp
      simp [List.find?, this, List.getD]
    | succ k =>
      have h0 : p a = false := h 0 (by omega)
      rw [List.find?, h0]
      have := ih (k := k) (by simpa using hk) (fun j hj => h (j + 1) (by omega)) hp
      exact this
theorem find_none {l : List Nat} {p : Nat → Bool} (h : ∀ j, j < l.length → p (l.getD j 0) = false) : l.find? p = none := by
  rw [List.find?_eq_none]
  intro x hx
  obtain ⟨j, hj, rfl⟩ := List.getElem_of_mem hx
  have := h j hj
  simp [List.getD, hj] at this
  simpa using this
theorem all_of {l : List Nat} {p : Nat → Bool} (h : ∀ j, j < l.length → p (l.getD j 0) = true) : l.all p = true := by
  rw [List.all_eq_true]
  intro x hx
  obtain ⟨j, hj, rfl⟩ := List.getElem_of_mem hx
  have := h j hj
  simpa [List.getD, hj] using this
theorem all_not {l : List Nat} {p : Nat → Bool} {k : Nat} (hk : k < l.length) (h : p (l.getD k 0) = false) : l.all p = false := by
  rw [List.all_eq_false]
  exact ⟨l[k], List.getElem_mem hk, by simpa [List.getD, hk] using h⟩
theorem isS_hit {n k : Nat} (h2 : 2 ≤ n) (hk : k < 12) (h : ∀ j, j < k → n % basesL.getD j 0 ≠ 0) (hp : n % basesL.getD k 0 = 0) : isS n = (n == basesL.getD k 0) := by
  unfold isS
  rw [if_neg (by omega), find_at (p := fun p => n % p == 0) hk (fun j hj => by simpa using h j hj) (by simpa using hp)]
theorem isS_rest {n : Nat} (h2 : 2 ≤ n) (h : ∀ j, j < 12 → n % basesL.getD j 0 ≠ 0) : isS n = basesL.all (strongB n) := by
  unfold isS
  rw [if_neg (by omega), find_none (p := fun p => n % p == 0) (fun j hj => by simpa using h j hj)]
theorem isS_yes {n : Nat} (h2 : 2 ≤ n) (h : ∀ j, j < 12 → n % basesL.getD j 0 ≠ 0) (hs : ∀ j, j < 12 → strongB n (basesL.getD j 0) = true) : isS n = true := by
  rw [isS_rest h2 h]; exact all_of hs
theorem isS_no {n k : Nat} (h2 : 2 ≤ n) (h : ∀ j, j < 12 → n % basesL.getD j 0 ≠ 0) (hk : k < 12) (hs : strongB n (basesL.getD k 0) = false) : isS n = false := by
  rw [isS_rest h2 h]; exact all_not hk hs
theorem sqr_zero {n x : Nat} (h : x < n) : sqr n x 0 = x := by simp [sqr, Nat.mod_eq_of_lt h]
theorem sqr_succ (n x j : Nat) : sqr n x j * sqr n x j % n = sqr n x (j + 1) := by
  unfold sqr
  rw [← Nat.mul_mod, ← Nat.pow_add, ← Nat.two_mul, Nat.pow_succ, Nat.mul_comm 2]
theorem strong_one {n a : Nat} (h : first n a = 1) : strongB n a = true := by unfold strongB; rw [h]; rfl
theorem strong_last {n a : Nat} (h : first n a = n - 1) : strongB n a = true := by unfold strongB; rw [h]; simp
theorem strong_sqr {n a i : Nat} (h1 : 1 ≤ i) (hi : i < tz n) (h : sqr n (first n a) i = n - 1) : strongB n a = true := by
  unfold strongB
  have : ((List.range (tz n - 1)).any fun j => sqr n (first n a) (j + 1) == n - 1) = true := by
    rw [List.any_eq_true]
    exact ⟨i - 1, List.mem_range.2 (by omega), by rw [show i - 1 + 1 = i by omega]; simpa using h⟩
  rw [this]; simp
theorem strong_not {n a : Nat} (h1 : first n a ≠ 1) (h2 : first n a ≠ n - 1) (h : ∀ i, 1 ≤ i → i < tz n → sqr n (first n a) i ≠ n - 1) : strongB n a = false := by
  unfold strongB
  have : ((List.range (tz n - 1)).any fun j => sqr n (first n a) (j + 1) == n - 1) = false := by
    rw [List.any_eq_false]
    intro j hj
    have := h (j + 1) (by omega) (by have := List.mem_range.1 hj; omega)
    simpa using this
  rw [this]
  simp [h1, h2]
theorem base_pos : ∀ j, j < 12 → 2 ≤ basesL.getD j 0 ∧ basesL.getD j 0 ≤ 37 := by decide
theorem tz_lt {n : Nat} (h1 : 2 ≤ n) (h : n < 18446744073709551616) : tz n < 64 := (Lib.lowest_bit 64 (n - 1) (by omega) (by omega)).2
end Go.Proofs.YtcpglhjmhegfmaaGreatDoor
namespace Go.Proofs.YtcpglhjmhegfmaaGreatDoor
/-- Halving a number till it is odd: what is left, and the sign. -/
def jacIn : Nat → Nat → Nat → Int → Nat × Int
  | 0, a, _, s => (a, s)
  | f + 1, a, n, s => if a % 2 = 0 then jacIn f (a / 2) n (if n % 8 = 3 ∨ n % 8 = 5 then -s else s) else (a, s)
def jacOut : Nat → Nat → Nat → Int → Int
  | 0, _, _, _ => 0
  | f + 1, a, n, s => if a = 0 then (if n = 1 then s else 0) else
      jacOut f (n % (jacIn a a n s).1) (jacIn a a n s).1 (if (jacIn a a n s).1 % 4 = 3 ∧ n % 4 = 3 then -(jacIn a a n s).2 else (jacIn a a n s).2)
/-- The symbol of a modulo n. -/
def jacS (a n : Nat) : Int := jacOut (a % n + 1) (a % n) n 1
theorem jacIn_even {f a n : Nat} {s : Int} (h : a % 2 = 0) : jacIn (f + 1) a n s = jacIn f (a / 2) n (if n % 8 = 3 ∨ n % 8 = 5 then -s else s) := by
  conv => lhs; unfold jacIn
  rw [if_pos h]
theorem jacIn_odd {f a n : Nat} {s : Int} (h : a % 2 ≠ 0) : jacIn f a n s = (a, s) := by
  cases f with
  | zero => rfl
  | succ f => unfold jacIn; rw [if_neg h]
end Go.Proofs.YtcpglhjmhegfmaaGreatDoor
namespace Go.Proofs.YtcpglhjmhegfmaaGreatDoor
theorem perm_of_subset : ∀ {l m : List Nat}, l.Nodup → (∀ x, x ∈ l → x ∈ m) → m.length ≤ l.length → l.Perm m
  | [], m, _, _, h => by
    have : m = [] := List.eq_nil_of_length_eq_zero (by simpa using h)
    subst this; exact List.Perm.nil
  | a :: l, m, hn, hs, h => by
    have ha : a ∈ m := hs a (by simp)
    have hp := List.perm_cons_erase ha
    rw [List.nodup_cons] at hn
    refine List.Perm.trans (List.Perm.cons a (perm_of_subset hn.2 (fun x hx => ?_) ?_)) hp.symm
    · have hxm := hs x (by simp [hx])
      have hne : x ≠ a := fun e => hn.1 (e ▸ hx)
      exact (List.mem_erase_of_ne hne).2 hxm
    · rw [List.length_erase_of_mem ha]
      simp at h
      omega
section
variable {n a : Nat} (ho : n % 2 = 1) (hg : Nat.Coprime a n)
include ho hg
end
end Go.Proofs.YtcpglhjmhegfmaaGreatDoor
namespace Go.Proofs.YtcpglhjmhegfmaaGreatDoor
open Go
set_option linter.unusedVariables false
/-- No number from 2 on whose square is at most n divides n. -/
def primeT (n : Nat) : Prop := 2 ≤ n ∧ ∀ d, 2 ≤ d → d * d ≤ n → n % d ≠ 0
theorem primeT.no {n : Nat} (h : primeT n) {d : Nat} (h2 : 2 ≤ d) (hd : d < n) : n % d ≠ 0 := by
  intro e
  obtain ⟨q, hq⟩ := Nat.dvd_of_mod_eq_zero e
  rcases Nat.le_total d q with hl | hl
  · refine h.2 d h2 ?_ e
    rw [hq]
    exact Nat.mul_le_mul_left d hl
  · have q2 : 2 ≤ q := by
      rcases Nat.lt_or_ge q 2 with hq2 | hq2
      · have : q = 0 ∨ q = 1 := by omega
        rcases this with rfl | rfl <;> simp at hq <;> omega
      · exact hq2
    refine h.2 q q2 ?_ (by rw [hq, Nat.mul_comm]; exact Nat.mul_mod_right _ _)
    rw [hq]
    exact Nat.mul_le_mul_right q hl
theorem primeT.coprime {p a : Nat} (h : primeT p) (h0 : a % p ≠ 0) : Nat.Coprime a p := by
  show Nat.gcd a p = 1
  have hp : 0 < p := by have := h.1; omega
  have hg := Nat.gcd_dvd_right a p
  have hle := Nat.le_of_dvd hp hg
  have hpos : 0 < Nat.gcd a p := Nat.gcd_pos_of_pos_right _ hp
  rcases Nat.lt_or_ge (Nat.gcd a p) 2 with h1 | h1
  · omega
  · rcases Nat.lt_or_ge (Nat.gcd a p) p with h2 | h2
    · exact absurd (Nat.mod_eq_zero_of_dvd hg) (h.no h1 h2)
    · have e : Nat.gcd a p = p := by omega
      have := Nat.gcd_dvd_left a p
      rw [e] at this
      exact absurd (Nat.mod_eq_zero_of_dvd this) h0
theorem primeT.split {p a b : Nat} (h : primeT p) (hd : p ∣ a * b) : p ∣ a ∨ p ∣ b := by
  by_cases h0 : a % p = 0
  · exact .inl (Nat.dvd_of_mod_eq_zero h0)
  · exact .inr ((h.coprime h0).symm.dvd_of_dvd_mul_left hd)
theorem cancel_mod {p a c : Nat} (hc : Nat.Coprime c p) (h : a * c % p = c % p) (ha : 1 ≤ a) : a % p = 1 % p := by
  have hd : p ∣ (a - 1) * c := by
    rw [Nat.sub_mul, Nat.one_mul]
    exact Nat.dvd_of_mod_eq_zero (Nat.sub_mod_eq_zero_of_mod_eq h)
  have hd2 : p ∣ a - 1 := hc.symm.dvd_of_dvd_mul_right hd
  obtain ⟨q, hq⟩ := hd2
  rw [show a = p * q + 1 by omega, Nat.mul_add_mod]
def prodF (l : List Nat) : Nat := l.foldr (· * ·) 1
theorem prodF_cons (a : Nat) (l : List Nat) : prodF (a :: l) = a * prodF l := rfl
theorem prodF_perm {l m : List Nat} (h : l.Perm m) : prodF l = prodF m := by
  induction h with
  | nil => rfl
  | cons x _ ih => rw [prodF_cons, prodF_cons, ih]
  | swap x y l => rw [prodF_cons, prodF_cons, prodF_cons, prodF_cons, Nat.mul_left_comm]
  | trans _ _ ih1 ih2 => exact ih1.trans ih2
theorem prodF_map (p a : Nat) (l : List Nat) : prodF (l.map fun k => a * k % p) % p = a ^ l.length * prodF l % p := by
  induction l with
  | nil => simp [prodF]
  | cons x l ih =>
    rw [List.map_cons, prodF_cons, prodF_cons, List.length_cons, Nat.mul_mod, ih, ← Nat.mul_mod, Nat.mod_mul_mod]
    congr 1
    rw [Nat.pow_succ]
    simp only [Nat.mul_assoc, Nat.mul_comm, Nat.mul_left_comm]
theorem prodF_coprime {p : Nat} {l : List Nat} (h : ∀ x, x ∈ l → Nat.Coprime x p) : Nat.Coprime (prodF l) p := by
  induction l with
  | nil => exact Nat.coprime_one_left p
  | cons x l ih => rw [prodF_cons]; exact Nat.Coprime.mul_left (h x (by simp)) (ih fun y hy => h y (by simp [hy]))
theorem fermat {p a : Nat} (h : primeT p) (h0 : a % p ≠ 0) : a ^ (p - 1) % p = 1 := by
  have hp := h.1
  have hc := h.coprime h0
  have hmem : ∀ x, x ∈ List.range' 1 (p - 1) ↔ 1 ≤ x ∧ x < p := fun x => by rw [List.mem_range'_1]; omega
  have hperm : ((List.range' 1 (p - 1)).map fun k => a * k % p).Perm (List.range' 1 (p - 1)) := by
    refine perm_of_subset ?_ ?_ (by simp)
    · rw [List.nodup_iff_pairwise_ne, List.pairwise_map]
      refine List.Pairwise.imp_of_mem ?_ (List.nodup_iff_pairwise_ne.1 (List.nodup_range' (s := 1) (n := p - 1)))
      intro x y hx hy hne e
      rw [hmem] at hx hy
      have aux : ∀ x y, x < y → y < p → a * x % p = a * y % p → False := by
        intro x y hxy hy h
        have hd : p ∣ a * (y - x) := by
          rw [Nat.mul_sub]
          exact Nat.dvd_of_mod_eq_zero (Nat.sub_mod_eq_zero_of_mod_eq h.symm)
        have := Nat.le_of_dvd (by omega) (hc.symm.dvd_of_dvd_mul_left hd)
        omega
      rcases Nat.lt_or_ge x y with hl | hl
      · exact aux x y hl hy.2 e
      · exact aux y x (by omega) hx.2 e.symm
    · intro x hx
      obtain ⟨k, hk, rfl⟩ := List.mem_map.1 hx
      rw [hmem] at hk ⊢
      refine ⟨?_, Nat.mod_lt _ (by omega)⟩
      rcases Nat.eq_zero_or_pos (a * k % p) with e | e
      · exfalso
        have hd : p ∣ k := hc.symm.dvd_of_dvd_mul_left (Nat.dvd_of_mod_eq_zero e)
        have := Nat.le_of_dvd (by omega) hd
        omega
      · exact e
  have e := prodF_map p a (List.range' 1 (p - 1))
  rw [prodF_perm hperm, List.length_range'] at e
  have hcp : Nat.Coprime (prodF (List.range' 1 (p - 1))) p := prodF_coprime fun x hx => by
    rw [hmem] at hx
    exact h.coprime (by rw [Nat.mod_eq_of_lt hx.2]; omega)
  have ha : 1 ≤ a ^ (p - 1) := by
    refine Nat.one_le_iff_ne_zero.2 fun e => ?_
    have := Nat.pow_eq_zero.1 e
    rw [this.1] at h0
    simp at h0
  have := cancel_mod hcp e.symm ha
  rwa [Nat.mod_eq_of_lt (show 1 < p by omega)] at this
theorem odd_back {n : Nat} (h1 : 2 ≤ n) (h : n < 18446744073709551616) : oddPart n * 2 ^ tz n = n - 1 := by
  have hd : 2 ^ tz n ∣ n - 1 := by
    obtain ⟨m, hm, _⟩ := Lib.ctzFrom_spec 64 (n - 1) (by omega) (by omega)
    have e : tz n = Lib.ctzFrom 64 (n - 1) := by unfold tz Lib.ctz; rw [if_neg (by omega)]
    rw [e]
    exact ⟨_, hm⟩
  exact Nat.div_mul_cancel hd
end Go.Proofs.YtcpglhjmhegfmaaGreatDoor
namespace Go.Proofs.YtcpglhjmhegfmaaGreatDoor
open Go.RowKit
/-- The bytes that lie in a row of cells. -/
def Row (w : World) (g o : Nat) (L : List UInt8) : Prop := ∀ k, k < L.length → w.cell? ⟨g, o + k, none⟩ = some (.int .u8 (L.getD k 0).toNat)
def cellsOf (L : List UInt8) : Array Value := (L.map fun b => Value.int .u8 b.toNat).toArray
/-- Block g is just these bytes, and may be written. -/
def Bk (w : World) (g : Nat) (T : TypeId) (L : List UInt8) : Prop := w.heap[g]? = some (.cells (cellsOf L) T (0, 0))
theorem getD_lt {L : List UInt8} {k : Nat} (h : k < L.length) : L.getD k 0 = L[k] := by simp [List.getD, h]
theorem cellsOf_get (L : List UInt8) (k : Nat) (h : k < L.length) : (cellsOf L)[k]? = some (.int .u8 (L.getD k 0).toNat) := by
  simp [cellsOf, List.getD, h]
theorem cellsOf_set (L : List UInt8) (k : Nat) (b : UInt8) : (cellsOf L).setIfInBounds k (.int .u8 b.toNat) = cellsOf (L.set k b) := by
  simp [cellsOf, List.map_set]
section
variable {w w' : World} {g : Nat} {T : TypeId} {L : List UInt8}
theorem Bk.cell (h : Bk w g T L) {k : Nat} (hk : k < L.length) : w.cell? ⟨g, k, none⟩ = some (.int .u8 (L.getD k 0).toNat) := by
  unfold Bk at h
  simp only [World.cell?, h]
  exact cellsOf_get L k hk
theorem Bk.row (h : Bk w g T L) : Row w g 0 L := fun k hk => by rw [Nat.zero_add]; exact h.cell hk
theorem Bk.free (h : Bk w g T L) (k : Nat) : w.frozen? ⟨g, k, none⟩ = false := by
  unfold Bk at h
  simp [World.frozen?, h]
theorem Bk.lt (h : Bk w g T L) : g < w.heap.size := by
  rcases Nat.lt_or_ge g w.heap.size with hlt | hge
  · exact hlt
  · unfold Bk at h; rw [Array.getElem?_eq_none hge] at h; cases h
theorem Bk.new (w : World) (T : TypeId) (L : List UInt8) : Bk (w.alloc (.cells (cellsOf L) T)) w.heap.size T L := heap_alloc_new w _
theorem Bk.set (h : Bk w g T L) (k : Nat) (b : UInt8) : Bk (w.setCell ⟨g, k, none⟩ (.int .u8 b.toNat)) g T (L.set k b) := by
  unfold Bk at h ⊢
  rw [← cellsOf_set]
  simp [World.setCell, Array.getElem?_modify, h]
theorem Bk.drewN (h : Bk w g T L) (n : Nat) : Bk (w.drewN n) g T L := h
theorem Bk.alloc (h : Bk w g T L) (o : Obj) : Bk (w.alloc o) g T L := (Below.heap_alloc w o g h.lt).trans h
theorem Bk.far (h : Bk w g T L) {p : Addr} (hp : g ≠ p.block) (u : Value) : Bk (w.setCell p u) g T L := (Below.heap_setCell w p u g hp).trans h
theorem Bk.below {B : Nat} (h : Bk w g T L) (hb : Below B w w') (hg : g < B) : Bk w' g T L := (hb.block g hg).trans h
end
theorem Row.below {w w' : World} {g o B : Nat} {L : List UInt8} (h : Row w g o L) (hb : Below B w w') (hg : g < B) : Row w' g o L :=
  fun k hk => (hb.cell (p := ⟨g, o + k, none⟩) hg).trans (h k hk)
theorem cellsOf_zeros (n : Nat) : cellsOf (List.replicate n 0) = Array.replicate n (.int .u8 0) := by simp [cellsOf]
end Go.Proofs.YtcpglhjmhegfmaaGreatDoor
