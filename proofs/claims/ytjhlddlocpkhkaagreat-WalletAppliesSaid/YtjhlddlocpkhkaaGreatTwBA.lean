/- Plain law: big-endian bytes and natural numbers. No program in sight. Plain law: what the functions on natural numbers return, as functions of strings. No program in sight. Plain law: sums and differences digit by digit. Plain law: the order of strings and of numbers. Plain law: a product column by column. Plain law: the division of 128 bits by 64, word by word. Plain law: powers by squaring. Plain law: the test of primality, as the program does it. Plain law: the symbol of Jacobi, as the program reckons it. Plain law: the symbol of Jacobi is multiplicative. Gauss's count (for every odd modulus), Eisenstein's sum, the law of reciprocity. No program in sight. Plain law: every prime passes the test of primality. Fermat's little theorem, the square roots of 1 modulo a prime. No program in sight. Words for memory: a block of bytes that is known whole. -/
import Derived.Lib.Bytealg
import Derived.Lib.Small
import Derived.Lib.TrailingZeros
import Derived.WalkKit
import Derived.WalkSpells
import Derived.Deep.Draws
namespace Go.Proofs.YtjhlddlocpkhkaaGreat
/-- The number that some bytes are, the most significant one first. -/
def val (l : List UInt8) : Nat := l.foldl (fun a b => a * 256 + b.toNat) 0
theorem foldl_val (l : List UInt8) (a : Nat) : l.foldl (fun a b => a * 256 + b.toNat) a = a * 256 ^ l.length + val l := by
  unfold val
  induction l generalizing a with
  | nil => simp
  | cons b l ih =>
    simp only [List.foldl_cons, List.length_cons]
    rw [ih, ih (0 * 256 + b.toNat), Nat.pow_succ, Nat.add_mul, Nat.zero_mul, Nat.zero_add, Nat.mul_assoc, Nat.mul_comm 256]
    omega
theorem val_append (l m : List UInt8) : val (l ++ m) = val l * 256 ^ m.length + val m := by
  conv => lhs; unfold val
  rw [List.foldl_append]
  show m.foldl _ (val l) = _
  rw [foldl_val]
theorem val_cons (b : UInt8) (l : List UInt8) : val (b :: l) = b.toNat * 256 ^ l.length + val l := by
  have := val_append [b] l
  simpa [val] using this
theorem val_snoc (l : List UInt8) (b : UInt8) : val (l ++ [b]) = val l * 256 + b.toNat := by
  rw [val_append]; simp [val]
theorem val_lt (l : List UInt8) : val l < 256 ^ l.length := by
  induction l with
  | nil => simp [val]
  | cons b l ih =>
    rw [val_cons, List.length_cons, Nat.pow_succ]
    have hb : b.toNat < 256 := b.toNat_lt
    have h1 : b.toNat * 256 ^ l.length + 256 ^ l.length ≤ 256 * 256 ^ l.length := by
      have := Nat.mul_le_mul_right (256 ^ l.length) (show b.toNat + 1 ≤ 256 by omega)
      rw [Nat.add_mul, Nat.one_mul] at this
      exact this
    rw [Nat.mul_comm (256 ^ l.length)]
    omega
/-- Bytes without the leading zero bytes. -/
def trimL : List UInt8 → List UInt8
  | [] => []
  | b :: l => if b = 0 then trimL l else b :: l
theorem val_trimL (l : List UInt8) : val (trimL l) = val l := by
  induction l with
  | nil => rfl
  | cons b l ih =>
    unfold trimL
    split
    · rename_i h; subst h; rw [ih, val_cons]; simp
    · rfl
/-- No leading zero byte. -/
def lead : List UInt8 → Bool
  | [] => true
  | b :: _ => b != 0
theorem lead_trimL (l : List UInt8) : lead (trimL l) = true := by
  induction l with
  | nil => rfl
  | cons b l ih =>
    unfold trimL
    split
    · exact ih
    · rename_i h; simpa [lead] using h
/-- The bytes of a number, without leading zero bytes (f: at least the number of bytes). -/
def encF : Nat → Nat → List UInt8
  | 0, _ => []
  | f + 1, n => if n = 0 then [] else encF f (n / 256) ++ [UInt8.ofNat n]
def enc (n : Nat) : List UInt8 := encF n n
theorem toNat_ofNat8 (n : Nat) : (UInt8.ofNat n).toNat = n % 256 := by simp
theorem val_encF (f n : Nat) (h : n ≤ f) : val (encF f n) = n := by
  induction f generalizing n with
  | zero => have : n = 0 := by omega
            subst this; rfl
  | succ f ih =>
    unfold encF
    split
    · rename_i h0; subst h0; rfl
    · rw [val_snoc, ih _ (by omega), toNat_ofNat8]; omega
theorem val_enc (n : Nat) : val (enc n) = n := val_encF n n (Nat.le_refl _)
theorem encF_ne_nil (f n : Nat) (hf : n ≤ f) (h : n ≠ 0) : encF f n ≠ [] := by
  cases f with
  | zero => omega
  | succ f => unfold encF; rw [if_neg h]; simp
theorem lead_append {l m : List UInt8} (h : lead l = true) (hl : l ≠ []) : lead (l ++ m) = true := by
  cases l with
  | nil => exact absurd rfl hl
  | cons b l => exact h
theorem lead_encF (f n : Nat) (h : n ≤ f) : lead (encF f n) = true := by
  induction f generalizing n with
  | zero => rfl
  | succ f ih =>
    unfold encF
    split
    · rfl
    · rename_i h0
      by_cases h1 : n / 256 = 0
      · have e : encF f (n / 256) = [] := by
          rw [h1]; cases f with
          | zero => rfl
          | succ f => rfl
        rw [e]
        show (UInt8.ofNat n != 0) = true
        rw [bne_iff_ne]
        intro hz
        have := congrArg UInt8.toNat hz
        rw [toNat_ofNat8] at this
        simp at this
        omega
      · exact lead_append (ih _ (by omega)) (encF_ne_nil _ _ (by omega) h1)
theorem lead_enc (n : Nat) : lead (enc n) = true := lead_encF n n (Nat.le_refl _)
/-- Lists without leading zero bytes are told apart by their numbers. -/
theorem val_pos_of_lead {b : UInt8} {l : List UInt8} (h : lead (b :: l) = true) : 256 ^ l.length ≤ val (b :: l) := by
  rw [val_cons]
  have hb : b.toNat ≠ 0 := by
    intro e
    have : b = 0 := UInt8.toNat_inj.mp (by simpa using e)
    subst this
    simp [lead] at h
  have := Nat.mul_le_mul_right (256 ^ l.length) (show 1 ≤ b.toNat by omega)
  omega
theorem length_lt_of_val {l m : List UInt8} (hm : lead m = true) (h : l.length < m.length) : val l < val m := by
  cases m with
  | nil => simp at h
  | cons b m =>
    have h1 := val_pos_of_lead hm
    have h2 := val_lt l
    have h3 : 256 ^ l.length ≤ 256 ^ m.length := Nat.pow_le_pow_right (by omega) (by simp at h; omega)
    omega
theorem val_inj_len {l m : List UInt8} (h : l.length = m.length) (hv : val l = val m) : l = m := by
  induction l generalizing m with
  | nil => cases m with
    | nil => rfl
    | cons => simp at h
  | cons b l ih =>
    cases m with
    | nil => simp at h
    | cons c m =>
      have hl : l.length = m.length := by simpa using h
      rw [val_cons, val_cons, hl] at hv
      have h1 := val_lt l
      have h2 := val_lt m
      rw [hl] at h1
      have hb : b.toNat = c.toNat := by
        have e1 : (b.toNat * 256 ^ m.length + val l) / 256 ^ m.length = b.toNat := by
          rw [Nat.mul_comm, Nat.mul_add_div (Nat.pow_pos (by omega)), Nat.div_eq_of_lt h1]; omega
        have e2 : (c.toNat * 256 ^ m.length + val m) / 256 ^ m.length = c.toNat := by
          rw [Nat.mul_comm, Nat.mul_add_div (Nat.pow_pos (by omega)), Nat.div_eq_of_lt h2]; omega
        rw [← e1, ← e2, hv]
      have hbc : b = c := UInt8.toNat_inj.mp hb
      subst hbc
      rw [ih hl (by omega)]
theorem val_inj {l m : List UInt8} (hl : lead l = true) (hm : lead m = true) (hv : val l = val m) : l = m := by
  rcases Nat.lt_trichotomy l.length m.length with h | h | h
  · have := length_lt_of_val hm h; omega
  · exact val_inj_len h hv
  · have := length_lt_of_val hl h; omega
theorem enc_val {l : List UInt8} (h : lead l = true) : enc (val l) = l := val_inj (lead_enc _) h (val_enc _)
theorem trimL_eq (l : List UInt8) : trimL l = enc (val l) := by
  rw [← val_trimL, enc_val (lead_trimL l)]
theorem enc_eq_nil {n : Nat} (h : enc n = []) : n = 0 := by have := val_enc n; rw [h] at this; exact this.symm
theorem enc_length_le {n k : Nat} : (enc n).length ≤ k ↔ n < 256 ^ k := by
  constructor
  · intro h
    have h1 := val_lt (enc n)
    rw [val_enc] at h1
    exact Nat.lt_of_lt_of_le h1 (Nat.pow_le_pow_right (by omega) h)
  · intro h
    rcases Nat.lt_or_ge k (enc n).length with h1 | h1
    · exfalso
      have hl := lead_enc n
      have hv := val_enc n
      cases he : enc n with
      | nil => rw [he] at h1; simp at h1
      | cons b l =>
        rw [he] at h1 hl hv
        have h2 := val_pos_of_lead hl
        have h3 : 256 ^ k ≤ 256 ^ l.length := Nat.pow_le_pow_right (by omega) (by simp at h1; omega)
        omega
    · exact h1
/-- A number as a string. -/
def B (n : Nat) : ByteArray := ⟨(enc n).toArray⟩
/-- The number of a string. -/
def num (s : ByteArray) : Nat := val s.data.toList
theorem num_B (n : Nat) : num (B n) = n := val_enc n
theorem B_inj {a b : Nat} (h : B a = B b) : a = b := by rw [← num_B a, ← num_B b, h]
/-- The bound of all numbers: 128 bytes. -/
def lim : Nat := 256 ^ 128
theorem lim_eq : lim = 256 ^ 128 := rfl
/-- A canonical string. -/
def valid (s : ByteArray) : Bool := decide (s.size ≤ 128) && lead s.data.toList
theorem B_num {s : ByteArray} (h : valid s = true) : B (num s) = s := by
  unfold valid at h
  simp only [Bool.and_eq_true] at h
  unfold B num
  rw [enc_val h.2]
theorem B_size (n : Nat) : (B n).size = (enc n).length := by
  show (enc n).toArray.size = _
  simp
theorem size_eq (s : ByteArray) : s.size = s.data.toList.length := by rw [Array.length_toList]; rfl
theorem num_lt (s : ByteArray) : num s < 256 ^ s.size := by
  rw [size_eq]; exact val_lt s.data.toList
theorem valid_B {n : Nat} (h : n < lim) : valid (B n) = true := by
  unfold valid
  rw [B_size, Bool.and_eq_true, decide_eq_true_eq]
  exact ⟨enc_length_le.2 h, lead_enc n⟩
theorem valid_iff (s : ByteArray) : valid s = true ↔ ∃ n, n < lim ∧ s = B n := by
  constructor
  · intro h
    refine ⟨num s, ?_, (B_num h).symm⟩
    have h1 := num_lt s
    have h2 : s.size ≤ 128 := by unfold valid at h; rw [Bool.and_eq_true, decide_eq_true_eq] at h; exact h.1
    rw [lim_eq]
    exact Nat.lt_of_lt_of_le h1 (Nat.pow_le_pow_right (by omega) h2)
  · rintro ⟨n, h, rfl⟩
    exact valid_B h
/-- The last k bytes of a number, the most significant one first. -/
def be : Nat → Nat → List UInt8
  | 0, _ => []
  | k + 1, n => UInt8.ofNat (n / 256 ^ k) :: be k n
theorem be_length (k n : Nat) : (be k n).length = k := by
  induction k with
  | zero => rfl
  | succ k ih => simp [be, ih]
theorem val_be (k n : Nat) : val (be k n) = n % 256 ^ k := by
  induction k with
  | zero => simp [be, val, Nat.mod_one]
  | succ k ih =>
    unfold be
    rw [val_cons, be_length, ih, toNat_ofNat8, Nat.pow_succ, Nat.mod_mul]
    rw [Nat.mul_comm, Nat.add_comm]
theorem trimL_be {k n : Nat} (h : n < 256 ^ k) : trimL (be k n) = enc n := by
  rw [trimL_eq, val_be, Nat.mod_eq_of_lt h]
/-- A row of N bytes of which the last i have been filled in. -/
def fill (N i n : Nat) : List UInt8 := List.replicate (N - i) 0 ++ be i n
theorem fill_zero (N n : Nat) : fill N 0 n = List.replicate N 0 := by simp [fill, be]
theorem fill_full (N n : Nat) : fill N N n = be N n := by simp [fill]
theorem fill_length {N i : Nat} (n : Nat) (h : i ≤ N) : (fill N i n).length = N := by
  simp [fill, be_length]; omega
theorem fill_set {N i : Nat} (n : Nat) (h : i < N) : (fill N i n).set (N - 1 - i) (UInt8.ofNat (n / 256 ^ i)) = fill N (i + 1) n := by
  unfold fill
  have e : N - i = (N - (i + 1)) + 1 := by omega
  rw [List.set_append_left _ _ (by simp; omega), e, List.replicate_succ', show N - 1 - i = N - (i + 1) by omega]
  rw [List.set_append_right _ _ (by simp)]
  simp [be]
theorem pow_256 (i : Nat) : 2 ^ (8 * i) = 256 ^ i := by rw [Nat.pow_mul]
theorem byte_mod (m : Nat) : ((UInt8.ofNat m).toNat : Int) = (m : Int) % 256 := by rw [toNat_ofNat8]; omega
theorem byte_shr (n i : Nat) : ((n : Int) / 2 ^ (8 * i) % 256) = ((UInt8.ofNat (n / 256 ^ i)).toNat : Int) := by
  rw [byte_mod, ← pow_256]
  simp
/-- The first bytes: what a reading from the front has gathered. -/
theorem val_take_succ (l : List UInt8) (k : Nat) (h : k < l.length) : val (l.take (k + 1)) = val (l.take k) * 256 + l[k].toNat := by
  rw [List.take_succ_eq_append_getElem h, val_snoc]
theorem val_take_lt (l : List UInt8) (k : Nat) : val (l.take k) < 256 ^ k := by
  refine Nat.lt_of_lt_of_le (val_lt _) (Nat.pow_le_pow_right (by omega) ?_)
  simp; omega
theorem B_size_le' {n k : Nat} : (B n).size ≤ k ↔ n < 256 ^ k := by rw [B_size]; exact enc_length_le
theorem natSmall_bound (s : ByteArray) (h : s.size ≤ 8) : num s < 18446744073709551616 :=
  Nat.lt_of_lt_of_le (num_lt s) (Nat.pow_le_pow_right (by omega) h)
end Go.Proofs.YtjhlddlocpkhkaaGreat
namespace Go.Proofs.YtjhlddlocpkhkaaGreat
def E0 : ByteArray := B 0
def natSmall (a : ByteArray) : Nat × Bool := if valid a && decide (a.size ≤ 8) then (num a, true) else (0, false)
end Go.Proofs.YtjhlddlocpkhkaaGreat
namespace Go.Proofs.YtjhlddlocpkhkaaGreat
end Go.Proofs.YtjhlddlocpkhkaaGreat
namespace Go.Proofs.YtjhlddlocpkhkaaGreat
open Go
end Go.Proofs.YtjhlddlocpkhkaaGreat
namespace Go.Proofs.YtjhlddlocpkhkaaGreat
end Go.Proofs.YtjhlddlocpkhkaaGreat
namespace Go.Proofs.YtjhlddlocpkhkaaGreat
variable {u d y a b q r : Nat}
end Go.Proofs.YtjhlddlocpkhkaaGreat
namespace Go.Proofs.YtjhlddlocpkhkaaGreat
end Go.Proofs.YtjhlddlocpkhkaaGreat
namespace Go.Proofs.YtjhlddlocpkhkaaGreat
open Go
def tz (n : Nat) : Nat := Lib.ctz 64 (n - 1)
def oddPart (n : Nat) : Nat := (n - 1) / 2 ^ tz n
def first (n a : Nat) : Nat := (a % n) ^ oddPart n % n
end Go.Proofs.YtjhlddlocpkhkaaGreat
namespace Go.Proofs.YtjhlddlocpkhkaaGreat
end Go.Proofs.YtjhlddlocpkhkaaGreat
namespace Go.Proofs.YtjhlddlocpkhkaaGreat
section
variable {n a : Nat} (ho : n % 2 = 1) (hg : Nat.Coprime a n)
include ho hg
end
end Go.Proofs.YtjhlddlocpkhkaaGreat
namespace Go.Proofs.YtjhlddlocpkhkaaGreat
open Go
set_option linter.unusedVariables false
end Go.Proofs.YtjhlddlocpkhkaaGreat
namespace Go.Proofs.YtjhlddlocpkhkaaGreat
open Go.RowKit
/-- The bytes that lie in a row of cells. -/
def Row (w : World) (g o : Nat) (L : List UInt8) : Prop := ∀ k, k < L.length → w.cell? ⟨g, o + k, none⟩ = some (.int .u8 (L.getD k 0).toNat)
def cellsOf (L : List UInt8) : Array Value := (L.map fun b => Value.int .u8 b.toNat).toArray
/-- Block g is just these bytes, and may be written. -/
def Bk (w : World) (g : Nat) (T : TypeId) (L : List UInt8) : Prop := w.heap[g]? = some (.cells (cellsOf L) T (0, 0))
theorem getD_lt {L : List UInt8} {k : Nat} (h : k < L.length) : L.getD k 0 = L[k] := by simp [List.getD, h]
theorem cellsOf_get (L : List UInt8) (k : Nat) (h : k < L.length) : (cellsOf L)[k]? = some (.int .u8 (L.getD k 0).toNat) := by
  simp [cellsOf, List.getD, h]
theorem cellsOf_set (L : List UInt8) (k : Nat) (b : UInt8) : (cellsOf L).setIfInBounds k (.int .u8 b.toNat) = cellsOf (L.set k b) := by
  simp [cellsOf, List.map_set]
section
variable {w w' : World} {g : Nat} {T : TypeId} {L : List UInt8}
theorem Bk.cell (h : Bk w g T L) {k : Nat} (hk : k < L.length) : w.cell? ⟨g, k, none⟩ = some (.int .u8 (L.getD k 0).toNat) := by
  unfold Bk at h
  simp only [World.cell?, h]
  exact cellsOf_get L k hk
theorem Bk.row (h : Bk w g T L) : Row w g 0 L := fun k hk => by rw [Nat.zero_add]; exact h.cell hk
theorem Bk.free (h : Bk w g T L) (k : Nat) : w.frozen? ⟨g, k, none⟩ = false := by
  unfold Bk at h
  simp [World.frozen?, h]
theorem Bk.lt (h : Bk w g T L) : g < w.heap.size := by
  rcases Nat.lt_or_ge g w.heap.size with hlt | hge
  · exact hlt
  · unfold Bk at h; rw [Array.getElem?_eq_none hge] at h; cases h
theorem Bk.new (w : World) (T : TypeId) (L : List UInt8) : Bk (w.alloc (.cells (cellsOf L) T)) w.heap.size T L := heap_alloc_new w _
theorem Bk.set (h : Bk w g T L) (k : Nat) (b : UInt8) : Bk (w.setCell ⟨g, k, none⟩ (.int .u8 b.toNat)) g T (L.set k b) := by
  unfold Bk at h ⊢
  rw [← cellsOf_set]
  simp [World.setCell, Array.getElem?_modify, h]
theorem Bk.drewN (h : Bk w g T L) (n : Nat) : Bk (w.drewN n) g T L := h
theorem Bk.alloc (h : Bk w g T L) (o : Obj) : Bk (w.alloc o) g T L := (Below.heap_alloc w o g h.lt).trans h
theorem Bk.below {B : Nat} (h : Bk w g T L) (hb : Below B w w') (hg : g < B) : Bk w' g T L := (hb.block g hg).trans h
end
theorem Row.below {w w' : World} {g o B : Nat} {L : List UInt8} (h : Row w g o L) (hb : Below B w w') (hg : g < B) : Row w' g o L :=
  fun k hk => (hb.cell (p := ⟨g, o + k, none⟩) hg).trans (h k hk)
theorem cellsOf_zeros (n : Nat) : cellsOf (List.replicate n 0) = Array.replicate n (.int .u8 0) := by simp [cellsOf]
end Go.Proofs.YtjhlddlocpkhkaaGreat
