/- Plain law: the order of strings and of numbers. -/
import Derived.Test.YtfggpgiinihflaaDoorSpec
import Derived.Lib.Bytealg
import Derived.Lib.Small
namespace Go.Proofs.YtfggpgiinihflaaDoor
open Go

theorem cmpN_lt {x y : Nat} (h : x < y) : cmpN x y = -1 := if_pos h
theorem cmpN_gt {x y : Nat} (h : y < x) : cmpN x y = 1 := by unfold cmpN; rw [if_neg (by omega), if_neg (by omega)]
theorem cmpN_add (k x y : Nat) : cmpN (k + x) (k + y) = cmpN x y := by unfold cmpN; simp
theorem compareBytes_val : ∀ (l m : List UInt8), l.length = m.length → Lib.compareBytes l m = cmpN (val l) (val m)
  | [], [], _ => rfl
  | [], _ :: _, h => by simp at h
  | _ :: _, [], h => by simp at h
  | a :: l, b :: m, h => by
    have hl : l.length = m.length := by simpa using h
    unfold Lib.compareBytes
    rw [compareBytes_val l m hl, val_cons, val_cons, hl]
    have h1 := val_lt l
    have h2 := val_lt m
    rw [hl] at h1
    generalize val l = x at *
    generalize val m = y at *
    generalize 256 ^ m.length = p at *
    have key : ∀ {u v : UInt8}, u < v → u.toNat * p + p ≤ v.toNat * p := by
      intro u v huv
      have := Nat.mul_le_mul_right p (show u.toNat + 1 ≤ v.toNat from UInt8.lt_iff_toNat_lt.1 huv)
      rw [Nat.add_mul, Nat.one_mul] at this
      exact this
    by_cases hab : a < b
    · have := key hab
      rw [if_pos hab, cmpN_lt (by omega)]
    · rw [if_neg hab]
      by_cases hba : b < a
      · have := key hba
        rw [if_pos hba, cmpN_gt (by omega)]
      · have e : a = b := by
          apply UInt8.toNat_inj.mp
          have h3 : ¬ a.toNat < b.toNat := fun h => hab (UInt8.lt_iff_toNat_lt.2 h)
          have h4 : ¬ b.toNat < a.toNat := fun h => hba (UInt8.lt_iff_toNat_lt.2 h)
          omega
        subst e
        rw [if_neg hba, cmpN_add]

/-- What 'compare' gives at two canonical numbers. -/
theorem compare_eq (x y : Nat) : (if Lib.compareInt ((B x).size : Int) ((B y).size : Int) = 0 then Lib.compareBytes (B x).data.toList (B y).data.toList else Lib.compareInt ((B x).size : Int) ((B y).size : Int)) = cmpN x y := by
  have hx := val_enc x
  have hy := val_enc y
  rw [B_size, B_size]
  unfold Lib.compareInt
  by_cases h : ((enc x).length : Int) < ((enc y).length : Int)
  · rw [if_pos h]
    have := length_lt_of_val (lead_enc y) (show (enc x).length < (enc y).length by omega)
    rw [hx, hy] at this
    rw [cmpN_lt this]; rfl
  · rw [if_neg h]
    by_cases h2 : ((enc x).length : Int) > ((enc y).length : Int)
    · rw [if_pos h2]
      have := length_lt_of_val (lead_enc x) (show (enc y).length < (enc x).length by omega)
      rw [hx, hy] at this
      rw [cmpN_gt this]; rfl
    · rw [if_neg h2, if_pos rfl]
      show Lib.compareBytes (enc x) (enc y) = _
      rw [compareBytes_val _ _ (by omega), hx, hy]
theorem natCmp_BB {x y : Nat} (hx : x < lim) (hy : y < lim) : natCmp (B x) (B y) = cmpN x y := by
  unfold natCmp; rw [valid_B hx, valid_B hy, num_B, num_B]; rfl

end Go.Proofs.YtfggpgiinihflaaDoor
