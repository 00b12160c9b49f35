/- Wallet, plain: the entries of counts are well. -/
import Derived.Test.YtlheedcnmfekoaaWs
namespace Go.Proofs.Ytlheedcnmfekoaa
open Go.RowKit
set_option maxRecDepth 100000
set_option linter.unusedVariables false
set_option maxHeartbeats 4000000

theorem lenF_le (f n : Nat) : (lenF f n).length ≤ f := by
  induction f generalizing n with
  | zero => simp [lenF]
  | succ f ih =>
    unfold lenF
    split
    · simp
    · have := ih (n / 128)
      simp only [List.length_cons]
      omega
theorem lenB_le (n : Nat) : (lenB n).length ≤ 10 := lenF_le 10 n
theorem encI_le (k : Int) (n t : ByteArray) (l r : Its) : (encI (.cons k n t l r)).length ≤ 11 + n.size + t.size + (encI l).length + (encI r).length := by
  have h := lenB_le (n.data.toList ++ (t.data.toList ++ encI l)).length
  have h1 : n.data.toList.length = n.size := by rw [Array.length_toList]; rfl
  have h2 : t.data.toList.length = t.size := by rw [Array.length_toList]; rfl
  simp only [encI, List.length_append, List.length_cons] at *
  omega
theorem encI_nil : (encI .nil).length = 0 := rfl
theorem size_nil : (⟨#[]⟩ : ByteArray).size = 0 := rfl
theorem natAbs_lt {z : Int} (h : -9223372036854775808 ≤ z ∧ z ≤ 9223372036854775807) : z.natAbs < 256 ^ 8 := by omega
theorem intIt_le {z : Int} (h : -9223372036854775808 ≤ z ∧ z ≤ 9223372036854775807) : (encI (intIt z)).length ≤ 31 := by
  have hb : (B z.natAbs).size ≤ 8 := B_size_le'.2 (natAbs_lt h)
  have hs : (if decide (z < 0) then B 1 else ⟨#[]⟩).size ≤ 1 := by
    split
    · exact B_size_le'.2 (by decide)
    · exact Nat.zero_le _
  unfold intIt
  have e1 := encI_le 0 (if decide (z < 0) then B 1 else ⟨#[]⟩) ⟨#[]⟩ .nil (.cons 0 (B z.natAbs) ⟨#[]⟩ .nil .nil)
  have e2 := encI_le 0 (B z.natAbs) ⟨#[]⟩ .nil .nil
  simp only [encI_nil, size_nil] at e1 e2
  omega
theorem intIt_ok {z : Int} (h : -9223372036854775808 ≤ z ∧ z ≤ 9223372036854775807) : okI (intIt z) = true := by
  have hb : valid (B z.natAbs) = true := valid_B (Nat.lt_of_lt_of_le (natAbs_lt h) (by rw [lim_eq]; exact Nat.pow_le_pow_right (by decide) (by decide)))
  have hs : valid (if decide (z < 0) then B 1 else ⟨#[]⟩) = true := by
    split
    · exact valid_B (by rw [lim_eq]; exact Nat.one_lt_pow (by decide) (by decide))
    · decide
  unfold intIt
  generalize (if decide (z < 0) then B 1 else ⟨#[]⟩) = y at hs ⊢
  simp [okI, hb, hs, Its.len]
  rfl
theorem intIt_deep (z : Int) : deepI (intIt z) = 0 := by unfold intIt; simp [deepI]
/-- The items of a count, and its entry. -/
def usedL (sc : ByteArray) (p q : Int) : Its := .cons 1 ⟨#[]⟩ sc .nil (.cons 2 ⟨#[]⟩ ⟨#[]⟩ (intIt p) (.cons 2 ⟨#[]⟩ ⟨#[]⟩ (intIt q) .nil))
def entOf (name : ByteArray) (l : Its) : Its.One := (2, ⟨#[]⟩, ⟨#[]⟩, .cons 1 ⟨#[]⟩ name .nil l)
theorem encOne_le (l : Its) : (encOne (2, ⟨#[]⟩, ⟨#[]⟩, l)).length ≤ 11 + (encI l).length := by
  have := encI_le 2 ⟨#[]⟩ ⟨#[]⟩ l .nil
  rw [← encI_one]
  unfold Its.one
  simp only [encI_nil, size_nil] at this
  exact this
theorem usedL_le {sc : ByteArray} {p q : Int} (hp : -9223372036854775808 ≤ p ∧ p ≤ 9223372036854775807) (hq : -9223372036854775808 ≤ q ∧ q ≤ 9223372036854775807) : (encI (usedL sc p q)).length ≤ 95 + sc.size := by
  have e1 := encI_le 1 ⟨#[]⟩ sc .nil (.cons 2 ⟨#[]⟩ ⟨#[]⟩ (intIt p) (.cons 2 ⟨#[]⟩ ⟨#[]⟩ (intIt q) .nil))
  have e2 := encI_le 2 ⟨#[]⟩ ⟨#[]⟩ (intIt p) (.cons 2 ⟨#[]⟩ ⟨#[]⟩ (intIt q) .nil)
  have e3 := encI_le 2 ⟨#[]⟩ ⟨#[]⟩ (intIt q) .nil
  have hp' := intIt_le hp
  have hq' := intIt_le hq
  unfold usedL
  simp only [encI_nil, size_nil] at *
  omega
theorem usedL_ok {sc : ByteArray} {p q : Int} (hp : -9223372036854775808 ≤ p ∧ p ≤ 9223372036854775807) (hq : -9223372036854775808 ≤ q ∧ q ≤ 9223372036854775807) : okI (usedL sc p q) = true := by
  unfold usedL
  simp [okI, intIt_ok hp, intIt_ok hq, Its.len, size_nil]
theorem usedL_deep (sc : ByteArray) (p q : Int) : deepI (usedL sc p q) = 1 := by
  unfold usedL
  simp [deepI, intIt_deep]
theorem usedL_size (sc : ByteArray) (p q : Int) : (usedL sc p q).size = 7 := by unfold usedL intIt; simp [Its.size]
/-- An entry of a short name and short, valid, flat items is well. -/
theorem ent_ok {name : ByteArray} {l : Its} (hn : name.size ≤ 100) (ho : okI l = true) (hd : deepI l ≤ 20) (hl : (encI l).length ≤ 60000) : (encS (entOf name l)).2 = 0 := by
  have h1 : okOne (entOf name l) = true := by
    unfold okOne entOf Its.one
    simp [okI, ho, Its.len, size_nil]
  have h2 : deepOne (entOf name l) ≤ deepMax := by
    unfold entOf deepOne deepMax
    simp [deepI]
    omega
  have h3 : (encOne (entOf name l)).length ≤ textMax := by
    have e1 := encOne_le (.cons 1 ⟨#[]⟩ name .nil l)
    have e2 := encI_le 1 ⟨#[]⟩ name .nil l
    unfold entOf textMax
    simp only [encI_nil, size_nil] at *
    omega
  unfold encS
  rw [if_pos h1, if_pos h2, if_pos h3]
theorem ent_len {name : ByteArray} {l : Its} (hn : name.size ≤ 100) (hl : (encI l).length ≤ 60000) : (encOne (entOf name l)).length ≤ 200000000 := by
  have e1 := encOne_le (.cons 1 ⟨#[]⟩ name .nil l)
  have e2 := encI_le 1 ⟨#[]⟩ name .nil l
  unfold entOf
  simp only [encI_nil, size_nil] at *
  omega

end Go.Proofs.Ytlheedcnmfekoaa
