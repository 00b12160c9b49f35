/- Plain law: big-endian bytes and natural numbers. No program in sight. -/
namespace Go.Proofs.YtfggpgiinihflaaDoor

/-- The number that some bytes are, the most significant one first. -/
def val (l : List UInt8) : Nat := l.foldl (fun a b => a * 256 + b.toNat) 0

theorem val_nil : val [] = 0 := rfl
theorem foldl_val (l : List UInt8) (a : Nat) : l.foldl (fun a b => a * 256 + b.toNat) a = a * 256 ^ l.length + val l := by
  unfold val
  induction l generalizing a with
  | nil => simp
  | cons b l ih =>
    simp only [List.foldl_cons, List.length_cons]
    rw [ih, ih (0 * 256 + b.toNat), Nat.pow_succ, Nat.add_mul, Nat.zero_mul, Nat.zero_add, Nat.mul_assoc, Nat.mul_comm 256]
    omega
theorem val_append (l m : List UInt8) : val (l ++ m) = val l * 256 ^ m.length + val m := by
  conv => lhs; unfold val
  rw [List.foldl_append]
  show m.foldl _ (val l) = _
  rw [foldl_val]
theorem val_cons (b : UInt8) (l : List UInt8) : val (b :: l) = b.toNat * 256 ^ l.length + val l := by
  have := val_append [b] l
  simpa [val] using this
theorem val_snoc (l : List UInt8) (b : UInt8) : val (l ++ [b]) = val l * 256 + b.toNat := by
  rw [val_append]; simp [val]
theorem val_lt (l : List UInt8) : val l < 256 ^ l.length := by
  induction l with
  | nil => simp [val]
  | cons b l ih =>
    rw [val_cons, List.length_cons, Nat.pow_succ]
    have hb : b.toNat < 256 := b.toNat_lt
    have h1 : b.toNat * 256 ^ l.length + 256 ^ l.length ≤ 256 * 256 ^ l.length := by
      have := Nat.mul_le_mul_right (256 ^ l.length) (show b.toNat + 1 ≤ 256 by omega)
      rw [Nat.add_mul, Nat.one_mul] at this
      exact this
    rw [Nat.mul_comm (256 ^ l.length)]
    omega
theorem val_replicate_zero (n : Nat) : val (List.replicate n 0) = 0 := by
  induction n with
  | zero => rfl
  | succ n ih => rw [List.replicate_succ, val_cons, ih]; simp

/-- Bytes without the leading zero bytes. -/
def trimL : List UInt8 → List UInt8
  | [] => []
  | b :: l => if b = 0 then trimL l else b :: l
theorem val_trimL (l : List UInt8) : val (trimL l) = val l := by
  induction l with
  | nil => rfl
  | cons b l ih =>
    unfold trimL
    split
    · rename_i h; subst h; rw [ih, val_cons]; simp
    · rfl
theorem trimL_length (l : List UInt8) : (trimL l).length ≤ l.length := by
  induction l with
  | nil => simp [trimL]
  | cons b l ih => unfold trimL; split <;> simp; omega

/-- No leading zero byte. -/
def lead : List UInt8 → Bool
  | [] => true
  | b :: _ => b != 0
theorem lead_trimL (l : List UInt8) : lead (trimL l) = true := by
  induction l with
  | nil => rfl
  | cons b l ih =>
    unfold trimL
    split
    · exact ih
    · rename_i h; simpa [lead] using h
theorem trimL_of_lead {l : List UInt8} (h : lead l = true) : trimL l = l := by
  cases l with
  | nil => rfl
  | cons b l => unfold trimL; rw [if_neg (by simpa [lead] using h)]

/-- The bytes of a number, without leading zero bytes (f: at least the number of bytes). -/
def encF : Nat → Nat → List UInt8
  | 0, _ => []
  | f + 1, n => if n = 0 then [] else encF f (n / 256) ++ [UInt8.ofNat n]
def enc (n : Nat) : List UInt8 := encF n n

theorem toNat_ofNat8 (n : Nat) : (UInt8.ofNat n).toNat = n % 256 := by simp
theorem val_encF (f n : Nat) (h : n ≤ f) : val (encF f n) = n := by
  induction f generalizing n with
  | zero => have : n = 0 := by omega
            subst this; rfl
  | succ f ih =>
    unfold encF
    split
    · rename_i h0; subst h0; rfl
    · rw [val_snoc, ih _ (by omega), toNat_ofNat8]; omega
theorem val_enc (n : Nat) : val (enc n) = n := val_encF n n (Nat.le_refl _)
theorem encF_ne_nil (f n : Nat) (hf : n ≤ f) (h : n ≠ 0) : encF f n ≠ [] := by
  cases f with
  | zero => omega
  | succ f => unfold encF; rw [if_neg h]; simp
theorem lead_append {l m : List UInt8} (h : lead l = true) (hl : l ≠ []) : lead (l ++ m) = true := by
  cases l with
  | nil => exact absurd rfl hl
  | cons b l => exact h
theorem lead_encF (f n : Nat) (h : n ≤ f) : lead (encF f n) = true := by
  induction f generalizing n with
  | zero => rfl
  | succ f ih =>
    unfold encF
    split
    · rfl
    · rename_i h0
      by_cases h1 : n / 256 = 0
      · have e : encF f (n / 256) = [] := by
          rw [h1]; cases f with
          | zero => rfl
          | succ f => rfl
        rw [e]
        show (UInt8.ofNat n != 0) = true
        rw [bne_iff_ne]
        intro hz
        have := congrArg UInt8.toNat hz
        rw [toNat_ofNat8] at this
        simp at this
        omega
      · exact lead_append (ih _ (by omega)) (encF_ne_nil _ _ (by omega) h1)
theorem lead_enc (n : Nat) : lead (enc n) = true := lead_encF n n (Nat.le_refl _)

/-- Lists without leading zero bytes are told apart by their numbers. -/
theorem val_pos_of_lead {b : UInt8} {l : List UInt8} (h : lead (b :: l) = true) : 256 ^ l.length ≤ val (b :: l) := by
  rw [val_cons]
  have hb : b.toNat ≠ 0 := by
    intro e
    have : b = 0 := UInt8.toNat_inj.mp (by simpa using e)
    subst this
    simp [lead] at h
  have := Nat.mul_le_mul_right (256 ^ l.length) (show 1 ≤ b.toNat by omega)
  omega
theorem length_lt_of_val {l m : List UInt8} (hm : lead m = true) (h : l.length < m.length) : val l < val m := by
  cases m with
  | nil => simp at h
  | cons b m =>
    have h1 := val_pos_of_lead hm
    have h2 := val_lt l
    have h3 : 256 ^ l.length ≤ 256 ^ m.length := Nat.pow_le_pow_right (by omega) (by simp at h; omega)
    omega
theorem val_inj_len {l m : List UInt8} (h : l.length = m.length) (hv : val l = val m) : l = m := by
  induction l generalizing m with
  | nil => cases m with
    | nil => rfl
    | cons => simp at h
  | cons b l ih =>
    cases m with
    | nil => simp at h
    | cons c m =>
      have hl : l.length = m.length := by simpa using h
      rw [val_cons, val_cons, hl] at hv
      have h1 := val_lt l
      have h2 := val_lt m
      rw [hl] at h1
      have hb : b.toNat = c.toNat := by
        have e1 : (b.toNat * 256 ^ m.length + val l) / 256 ^ m.length = b.toNat := by
          rw [Nat.mul_comm, Nat.mul_add_div (Nat.pow_pos (by omega)), Nat.div_eq_of_lt h1]; omega
        have e2 : (c.toNat * 256 ^ m.length + val m) / 256 ^ m.length = c.toNat := by
          rw [Nat.mul_comm, Nat.mul_add_div (Nat.pow_pos (by omega)), Nat.div_eq_of_lt h2]; omega
        rw [← e1, ← e2, hv]
      have hbc : b = c := UInt8.toNat_inj.mp hb
      subst hbc
      rw [ih hl (by omega)]
theorem val_inj {l m : List UInt8} (hl : lead l = true) (hm : lead m = true) (hv : val l = val m) : l = m := by
  rcases Nat.lt_trichotomy l.length m.length with h | h | h
  · have := length_lt_of_val hm h; omega
  · exact val_inj_len h hv
  · have := length_lt_of_val hl h; omega
theorem enc_val {l : List UInt8} (h : lead l = true) : enc (val l) = l := val_inj (lead_enc _) h (val_enc _)
theorem trimL_eq (l : List UInt8) : trimL l = enc (val l) := by
  rw [← val_trimL, enc_val (lead_trimL l)]
theorem enc_zero : enc 0 = [] := rfl
theorem enc_eq_nil {n : Nat} (h : enc n = []) : n = 0 := by have := val_enc n; rw [h] at this; exact this.symm
theorem enc_length_le {n k : Nat} : (enc n).length ≤ k ↔ n < 256 ^ k := by
  constructor
  · intro h
    have h1 := val_lt (enc n)
    rw [val_enc] at h1
    exact Nat.lt_of_lt_of_le h1 (Nat.pow_le_pow_right (by omega) h)
  · intro h
    rcases Nat.lt_or_ge k (enc n).length with h1 | h1
    · exfalso
      have hl := lead_enc n
      have hv := val_enc n
      cases he : enc n with
      | nil => rw [he] at h1; simp at h1
      | cons b l =>
        rw [he] at h1 hl hv
        have h2 := val_pos_of_lead hl
        have h3 : 256 ^ k ≤ 256 ^ l.length := Nat.pow_le_pow_right (by omega) (by simp at h1; omega)
        omega
    · exact h1
theorem enc_inj {a b : Nat} (h : enc a = enc b) : a = b := by rw [← val_enc a, ← val_enc b, h]

/-- A number as a string. -/
def B (n : Nat) : ByteArray := ⟨(enc n).toArray⟩
/-- The number of a string. -/
def num (s : ByteArray) : Nat := val s.data.toList
theorem num_B (n : Nat) : num (B n) = n := val_enc n
theorem B_inj {a b : Nat} (h : B a = B b) : a = b := by rw [← num_B a, ← num_B b, h]
/-- The bound of all numbers: 128 bytes. -/
def lim : Nat := 256 ^ 128
theorem lim_eq : lim = 256 ^ 128 := rfl
/-- A canonical string. -/
def valid (s : ByteArray) : Bool := decide (s.size ≤ 128) && lead s.data.toList
theorem B_num {s : ByteArray} (h : valid s = true) : B (num s) = s := by
  unfold valid at h
  simp only [Bool.and_eq_true] at h
  unfold B num
  rw [enc_val h.2]
theorem B_size (n : Nat) : (B n).size = (enc n).length := by
  show (enc n).toArray.size = _
  simp
theorem size_eq (s : ByteArray) : s.size = s.data.toList.length := by rw [Array.length_toList]; rfl
theorem num_lt (s : ByteArray) : num s < 256 ^ s.size := by
  rw [size_eq]; exact val_lt s.data.toList
theorem valid_B {n : Nat} (h : n < lim) : valid (B n) = true := by
  unfold valid
  rw [B_size, Bool.and_eq_true, decide_eq_true_eq]
  exact ⟨enc_length_le.2 h, lead_enc n⟩
theorem valid_iff (s : ByteArray) : valid s = true ↔ ∃ n, n < lim ∧ s = B n := by
  constructor
  · intro h
    refine ⟨num s, ?_, (B_num h).symm⟩
    have h1 := num_lt s
    have h2 : s.size ≤ 128 := by unfold valid at h; rw [Bool.and_eq_true, decide_eq_true_eq] at h; exact h.1
    rw [lim_eq]
    exact Nat.lt_of_lt_of_le h1 (Nat.pow_le_pow_right (by omega) h2)
  · rintro ⟨n, h, rfl⟩
    exact valid_B h

/-- The last k bytes of a number, the most significant one first. -/
def be : Nat → Nat → List UInt8
  | 0, _ => []
  | k + 1, n => UInt8.ofNat (n / 256 ^ k) :: be k n
theorem be_length (k n : Nat) : (be k n).length = k := by
  induction k with
  | zero => rfl
  | succ k ih => simp [be, ih]
theorem val_be (k n : Nat) : val (be k n) = n % 256 ^ k := by
  induction k with
  | zero => simp [be, val, Nat.mod_one]
  | succ k ih =>
    unfold be
    rw [val_cons, be_length, ih, toNat_ofNat8, Nat.pow_succ, Nat.mod_mul]
    rw [Nat.mul_comm, Nat.add_comm]
theorem trimL_be {k n : Nat} (h : n < 256 ^ k) : trimL (be k n) = enc n := by
  rw [trimL_eq, val_be, Nat.mod_eq_of_lt h]
/-- A row of N bytes of which the last i have been filled in. -/
def fill (N i n : Nat) : List UInt8 := List.replicate (N - i) 0 ++ be i n
theorem fill_zero (N n : Nat) : fill N 0 n = List.replicate N 0 := by simp [fill, be]
theorem fill_full (N n : Nat) : fill N N n = be N n := by simp [fill]
theorem fill_length {N i : Nat} (n : Nat) (h : i ≤ N) : (fill N i n).length = N := by
  simp [fill, be_length]; omega
theorem fill_set {N i : Nat} (n : Nat) (h : i < N) : (fill N i n).set (N - 1 - i) (UInt8.ofNat (n / 256 ^ i)) = fill N (i + 1) n := by
  unfold fill
  have e : N - i = (N - (i + 1)) + 1 := by omega
  rw [List.set_append_left _ _ (by simp; omega), e, List.replicate_succ', show N - 1 - i = N - (i + 1) by omega]
  rw [List.set_append_right _ _ (by simp)]
  simp [be]

theorem pow_256 (i : Nat) : 2 ^ (8 * i) = 256 ^ i := by rw [Nat.pow_mul]
theorem byte_mod (m : Nat) : ((UInt8.ofNat m).toNat : Int) = (m : Int) % 256 := by rw [toNat_ofNat8]; omega
theorem byte_shr (n i : Nat) : ((n : Int) / 2 ^ (8 * i) % 256) = ((UInt8.ofNat (n / 256 ^ i)).toNat : Int) := by
  rw [byte_mod, ← pow_256]
  simp

theorem val_digit (l : List UInt8) (i : Nat) (h : i < l.length) : (l[l.length - 1 - i]'(by omega)).toNat = val l / 256 ^ i % 256 := by
  have e : l = l.take (l.length - 1 - i) ++ l[l.length - 1 - i]'(by omega) :: l.drop (l.length - i) := by
    conv => lhs; rw [← List.take_append_drop (l.length - 1 - i) l]
    rw [List.drop_eq_getElem_cons (by omega), show l.length - 1 - i + 1 = l.length - i by omega]
  generalize l[l.length - 1 - i]'(by omega) = b at e ⊢
  have hd : (l.drop (l.length - i)).length = i := by simp; omega
  rw [e, val_append, val_cons, List.length_cons, hd]
  have h1 := val_lt (l.drop (l.length - i))
  rw [hd] at h1
  have hb := b.toNat_lt
  generalize val (l.drop (l.length - i)) = r at h1
  generalize val (l.take (l.length - 1 - i)) = q
  rw [Nat.pow_succ, show q * (256 ^ i * 256) + (b.toNat * 256 ^ i + r) = 256 ^ i * (q * 256 + b.toNat) + r by
    rw [Nat.mul_add, Nat.mul_comm b.toNat, ← Nat.mul_assoc, Nat.mul_comm q, Nat.mul_assoc, Nat.mul_comm q 256, ← Nat.mul_assoc]; omega]
  rw [Nat.mul_add_div (Nat.pow_pos (by omega)), Nat.div_eq_of_lt h1]
  omega
theorem num_digit (s : ByteArray) (i : Nat) (h : i < s.size) : (s[s.size - 1 - i]'(by omega)).toNat = num s / 256 ^ i % 256 := by
  have hl : i < s.data.toList.length := by rw [← size_eq]; exact h
  have := val_digit s.data.toList i hl
  unfold num
  rw [← this]
  have e : s.data.toList.length = s.size := (size_eq s).symm
  simp only [e]
  rfl
theorem num_digit_high (s : ByteArray) (i : Nat) (h : s.size ≤ i) : num s / 256 ^ i % 256 = 0 := by
  rw [Nat.div_eq_of_lt (Nat.lt_of_lt_of_le (num_lt s) (Nat.pow_le_pow_right (by omega) h))]
/-- The first bytes: what a reading from the front has gathered. -/
theorem val_take_succ (l : List UInt8) (k : Nat) (h : k < l.length) : val (l.take (k + 1)) = val (l.take k) * 256 + l[k].toNat := by
  rw [List.take_succ_eq_append_getElem h, val_snoc]
theorem val_take_lt (l : List UInt8) (k : Nat) : val (l.take k) < 256 ^ k := by
  refine Nat.lt_of_lt_of_le (val_lt _) (Nat.pow_le_pow_right (by omega) ?_)
  simp; omega

theorem B_size_le {n : Nat} : (B n).size ≤ 128 ↔ n < lim := by rw [B_size]; exact enc_length_le
theorem B_size_le' {n k : Nat} : (B n).size ≤ k ↔ n < 256 ^ k := by rw [B_size]; exact enc_length_le

theorem natSmall_bound (s : ByteArray) (h : s.size ≤ 8) : num s < 18446744073709551616 :=
  Nat.lt_of_lt_of_le (num_lt s) (Nat.pow_le_pow_right (by omega) h)

end Go.Proofs.YtfggpgiinihflaaDoor
