/- Plain law of hiding: over all choices of coins the list of shares takes each value once (finite check by the kernel). -/
import Derived.Test.YtapplggboepfaaaGreatDoorSo
namespace Go.Proofs.YtapplggboepfaaaGreatDoor
open Go.RowKit
set_option maxRecDepth 100000
set_option linter.unusedVariables false
set_option maxHeartbeats 4000000

/-- The number of the list of shares that a choice of coins yields. -/
def hidF (q s need a b c : Nat) : Nat := if need = 3 then valL q (a + 1) [s, c % q, c / q] + q * valL q (b + 1) [s, c % q, c / q] else valL q (a + 1) [s, c % q]
/-- The loop over the choices: each number is below the bound and not met before. -/
def hidL (q s need a b T : Nat) : Nat → Nat → Nat → Bool
  | 0, _, _ => true
  | n + 1, c, met => decide (hidF q s need a b c < T) && (!(met.testBit (hidF q s need a b c)) && hidL q s need a b T n (c + 1) (met ||| 2 ^ hidF q s need a b c))
def hidA : Bool := [5, 7, 11, 13].all fun q => (List.range q).all fun s => (List.range 4).all fun a => (List.range 4).all fun b => hidL q s 2 a b q q 0 0 && (decide (7 < q) || ((a == b) || hidL q s 3 a b (q * q) (q * q) 0 0))
theorem hidA_true : hidA = true := by decide +kernel
theorem hid_two {q s a b : Nat} (hq : q ∈ [5, 7, 11, 13]) (hs : s < q) (ha : a < 4) (hb : b < 4) : hidL q s 2 a b q q 0 0 = true := by
  have h := hidA_true
  unfold hidA at h
  have h := List.all_eq_true.1 (List.all_eq_true.1 (List.all_eq_true.1 (List.all_eq_true.1 h q hq) s (List.mem_range.2 hs)) a (List.mem_range.2 ha)) b (List.mem_range.2 hb)
  rw [Bool.and_eq_true] at h
  exact h.1
theorem hid_three {q s a b : Nat} (hq : q ∈ [5, 7, 11, 13]) (h7 : q ≤ 7) (hs : s < q) (ha : a < 4) (hb : b < 4) (hab : a ≠ b) : hidL q s 3 a b (q * q) (q * q) 0 0 = true := by
  have h := hidA_true
  unfold hidA at h
  have h := List.all_eq_true.1 (List.all_eq_true.1 (List.all_eq_true.1 (List.all_eq_true.1 h q hq) s (List.mem_range.2 hs)) a (List.mem_range.2 ha)) b (List.mem_range.2 hb)
  rw [Bool.and_eq_true] at h
  have h2 := h.2
  rw [Bool.or_eq_true, Bool.or_eq_true] at h2
  rcases h2 with h2 | h2 | h2
  · rw [decide_eq_true_eq] at h2; omega
  · rw [beq_iff_eq] at h2; exact absurd h2 hab
  · exact h2
theorem hidL_step {q s need a b T n c met : Nat} (h : hidL q s need a b T (n + 1) c met = true) : hidF q s need a b c < T ∧ met.testBit (hidF q s need a b c) = false ∧ hidL q s need a b T n (c + 1) (met ||| 2 ^ hidF q s need a b c) = true := by
  unfold hidL at h
  simp only [Bool.and_eq_true, decide_eq_true_eq, Bool.not_eq_true'] at h
  exact h
theorem met_bit (met k j : Nat) : (met ||| 2 ^ k).testBit j = (met.testBit j || decide (k = j)) := by
  rw [Nat.testBit_or, Nat.testBit_two_pow]
/-- Draws from two explicit values. -/
theorem good_two {x y : Nat} (hx : x < 1000) (hy : y < 1000) {z : Int} (h0 : 0 ≤ z) (h1 : z ≤ 100) : goodT [B x, B y] z = true := by
  unfold goodT
  simp only [List.all_cons, List.all_nil, Bool.and_true, Bool.and_eq_true, decide_eq_true_eq]
  exact ⟨h0, by omega, valid_B (k_lim (by omega)), valid_B (k_lim (by omega))⟩
theorem draw_two0 {x y m : Nat} (hx : x < 1000) (hy : y < 1000) (h : x < m) : belowS [B x, B y] ⟨#[]⟩ 0 m = (0, x) := by
  unfold belowS
  rw [if_pos (good_two hx hy (by omega) (by omega))]
  unfold drawS
  rw [if_pos (by show (0 : Int) < 2; omega)]
  have e : num (([B x, B y] : List ByteArray).getD (0 : Int).toNat ByteArray.empty) = x := num_B x
  rw [e, if_neg (by omega)]
theorem draw_two1 {x y m : Nat} (hx : x < 1000) (hy : y < 1000) (h : y < m) : belowS [B x, B y] ⟨#[]⟩ 1 m = (0, y) := by
  unfold belowS
  rw [if_pos (good_two hx hy (by omega) (by omega))]
  unfold drawS
  rw [if_pos (by show (1 : Int) < 2; omega)]
  have e : num (([B x, B y] : List ByteArray).getD (1 : Int).toNat ByteArray.empty) = y := num_B y
  rw [e, if_neg (by omega)]
theorem coins_two1 {x y m : Nat} (hx : x < 1000) (hy : y < 1000) (h : x < m) : coinsL [B x, B y] ⟨#[]⟩ m 0 1 = [x] := by
  rw [coinsL_snoc]
  have e : (0 : Int) + ((0 : Nat) : Int) = 0 := rfl
  rw [e, draw_two0 hx hy h]
  rfl
theorem coins_two2 {x y m : Nat} (hx : x < 1000) (hy : y < 1000) (h : x < m) (h' : y < m) : coinsL [B x, B y] ⟨#[]⟩ m 0 2 = [x, y] := by
  rw [coinsL_snoc, coins_two1 hx hy h]
  have e : (0 : Int) + ((1 : Nat) : Int) = 1 := rfl
  rw [e, draw_two1 hx hy h']
  rfl
theorem isE_four {q : Nat} (hq : q ∈ [5, 7, 11, 13]) : isE (B q) = 0 := by
  have h : [5, 7, 11, 13].all (fun q => decide (isE (B q) = 0)) = true := by decide +kernel
  have := List.all_eq_true.1 h q hq
  simpa using this

end Go.Proofs.YtapplggboepfaaaGreatDoor
