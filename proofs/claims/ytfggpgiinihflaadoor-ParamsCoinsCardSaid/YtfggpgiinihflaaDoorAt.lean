/- Plain law: the first bits of a row of bytes. -/
import Derived.Test.YtfggpgiinihflaaDoorY1
namespace Go.Proofs.YtfggpgiinihflaaDoor
open Go.RowKit
set_option linter.unusedVariables false

theorem pow_256_two (k : Nat) : 256 ^ k = 2 ^ (8 * k) := by rw [show (256 : Nat) = 2 ^ 8 from rfl, ← Nat.pow_mul]
theorem mask_val (b : UInt8) (r : List UInt8) (len sh : Nat) (h : 8 * (r.length + 1) = len + sh) (h7 : sh ≤ 7) :
    val (UInt8.ofNat (b.toNat % 2 ^ (8 - sh)) :: r) = val (b :: r) % 2 ^ len := by
  have e : 2 ^ len = 2 ^ (8 - sh) * 256 ^ r.length := by
    rw [pow_256_two, ← Nat.pow_add]
    congr 1
    omega
  have hv := val_lt r
  obtain ⟨P, hP⟩ : ∃ P, P = 2 ^ (8 - sh) := ⟨_, rfl⟩
  have hP0 : 0 < P := by rw [hP]; exact Nat.pow_pos (by decide)
  have hP8 : P ≤ 256 := by rw [hP, show (256 : Nat) = 2 ^ 8 from rfl]; exact Nat.pow_le_pow_right (by decide) (by omega)
  have hb : (UInt8.ofNat (b.toNat % P)).toNat = b.toNat % P := by
    rw [UInt8.toNat_ofNat']
    have := Nat.mod_lt b.toNat hP0
    exact Nat.mod_eq_of_lt (by omega)
  rw [val_cons, val_cons, e, ← hP, hb]
  obtain ⟨K, hK⟩ : ∃ K, K = 256 ^ r.length := ⟨_, rfl⟩
  rw [← hK] at hv ⊢
  have hd := Nat.div_add_mod b.toNat P
  have hm := Nat.mod_lt b.toNat hP0
  have e2 : b.toNat * K + val r = P * K * (b.toNat / P) + (b.toNat % P * K + val r) := by
    have : b.toNat * K = (P * (b.toNat / P) + b.toNat % P) * K := by rw [hd]
    rw [this, Nat.add_mul]
    have : P * (b.toNat / P) * K = P * K * (b.toNat / P) := by rw [Nat.mul_assoc, Nat.mul_comm (b.toNat / P), ← Nat.mul_assoc]
    omega
  rw [e2, Nat.mul_add_mod]
  refine (Nat.mod_eq_of_lt ?_).symm
  have : b.toNat % P * K + K ≤ P * K := by
    rw [← Nat.succ_mul]
    exact Nat.mul_le_mul_right K hm
  omega
theorem u8_and_mask (b : UInt8) (k : Nat) (hk : k ≤ 8) : bits .and .u8 (b.toNat : Int) ((2 ^ k - 1 : Nat) : Int) = ((b.toNat % 2 ^ k : Nat) : Int) := by
  have hx : ∀ a : Nat, a < 256 → (BitVec.ofInt 8 (a : Int)).toNat = a := by
    intro a ha
    rw [BitVec.toNat_ofInt]
    omega
  have hp : 2 ^ k ≤ 2 ^ 8 := Nat.pow_le_pow_right (by decide) hk
  have hp0 : 0 < 2 ^ k := Nat.pow_pos (by decide)
  have hb := byte_lt b
  show IntKind.u8.wrap ((BitVec.ofInt 8 (b.toNat : Int) &&& BitVec.ofInt 8 ((2 ^ k - 1 : Nat) : Int)).toNat : Int) = _
  rw [BitVec.toNat_and, hx _ hb, hx _ (by omega), Nat.and_two_pow_sub_one_eq_mod]
  have h1 := Nat.mod_lt b.toNat hp0
  obtain ⟨x, hx2⟩ : ∃ x, x = b.toNat % 2 ^ k := ⟨_, rfl⟩
  rw [← hx2] at h1 ⊢
  have h2 : x < 256 := by omega
  clear h1 hx2
  simp only [IntKind.wrap, IntKind.bits, IntKind.signed]
  simp
  omega

end Go.Proofs.YtfggpgiinihflaaDoor
