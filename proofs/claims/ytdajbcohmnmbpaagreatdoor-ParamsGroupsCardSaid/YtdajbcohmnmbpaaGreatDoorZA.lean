/- The walks of the law file's own tests: small, isPrime by trial division, Few. -/
import Derived.Test.YtdajbcohmnmbpaaGreatDoorBR
import Derived.Test.YtdajbcohmnmbpaaGreatDoorBA
import Derived.Test.YtdajbcohmnmbpaaGreatDoorRA
namespace Go.Proofs.YtdajbcohmnmbpaaGreatDoor
open Go.RowKit
set_option maxRecDepth 100000
set_option linter.unusedVariables false
set_option maxHeartbeats 1000000

/-- The number of bits is small, or not allowed. -/
def smallT (z : Int) : Bool := decide (z ≤ 24) || decide (60 < z)
theorem law11_small (z : Int) (w : World) : Calls Tryz.prog 11 #[.int .i64 z] w fun e w' => e = .returned (.bool (smallT z)) ∧ w = w' := by
  go_enter Tryz.func11, Tryz.ntmps11
  by_cases h1 : z ≤ 24
  · have k1 : decide (z ≤ 24) = true := by simpa using h1
    have hs : smallT z = true := by unfold smallT; rw [k1]; rfl
    rw [hs]
    clear h1 hs
    go_wp2
    go_ret
    exact ⟨rfl, rfl⟩
  · have k1 : decide (z ≤ 24) = false := by simpa using h1
    have hs : smallT z = decide (60 < z) := by unfold smallT; rw [k1]; rfl
    rw [hs]
    clear h1 hs
    go_wp2
    go_ret
    exact ⟨rfl, rfl⟩
theorem law11_num (n : Nat) (w : World) (hn : n < 18446744073709551616) : Calls Tryz.prog 47 #[.int .u64 n] w fun e w' => e = .returned (.string (B n)) ∧ Below w.heap.size w w' := by
  have KO := Lib.hid (fun w => r01_Of n w hn)
  go_enter Tryz.func47, Tryz.ntmps47
  go_wp2_with (first | (go_at_call 54; (with_reducible refine (KO.out _).mono ?_); rintro e w1 ⟨rfl, hb1⟩; have HB1 := Lib.hid hb1; clear hb1))
  go_ret
  exact ⟨rfl, HB1.out⟩
/-- What the trial division hands back. -/
def trialRes (n : Nat) (e : Ending) : Prop := ∃ b, e = .returned (.bool b) ∧ (b = true ↔ primeT n)
/-- The tape is small. -/
def FewP (vals : List ByteArray) (seed : ByteArray) (z : Int) : Prop := vals.length ≤ 80 ∧ (∀ j, j < vals.length → (vals.getD j ByteArray.empty).size ≤ 16) ∧ seed.size ≤ 40 ∧ z < 1000
/-- What Few hands back. -/
def fewRes (vals : List ByteArray) (seed : ByteArray) (z : Int) (e : Ending) : Prop :=
  ∃ b, e = .returned (.bool b) ∧ (b = true ↔ FewP vals seed z)
theorem law11_Few (vals : List ByteArray) (A : Option Addr) (n c b : Nat) (seed : ByteArray) (z : Int) (w : World) (hn : vals.length = n) (hm : n ≤ maxLen) (h : SLs w b A vals) (hb : b ≤ w.heap.size) :
    Calls Tryz.prog 12 #[.agg #[.slice A n c, .string seed, .int .i64 z]] w fun e w' => fewRes vals seed z e ∧ Below w.heap.size w w' := by
  have HS := Lib.hid (h.next hb ((Below.refl w.heap.size w).alloc (Nat.le_refl _) (.cells #[.slice A n c, .string seed, .int .i64 z] 24)))
  have HN := Lib.hid hn
  unfold maxLen at hm
  clear h hn
  go_enter Tryz.func12, Tryz.ntmps12
  go_wp2
  go_loop [3] (fun v => ∃ k : Nat, v = .int .i64 k ∧ k ≤ n ∧ k ≤ 80 ∧ ∀ j, j < k → (vals.getD j ByteArray.empty).size ≤ 16) (fun v => n - (intOf v).toNat)
  case atStart => exact ⟨0, rfl, Nat.zero_le _, by decide, fun j h => absurd h (Nat.not_lt_zero _)⟩
  case round =>
    obtain ⟨k, rfl, hk, hk2, hall⟩ := hrel
    have HA := Lib.hid hall
    clear hall
    by_cases hlt : k < n ∧ k < 80
    · obtain ⟨ad, rfl, hc⟩ := HS.out.at_ (k := k) (by rw [HN.out]; exact hlt.1)
      obtain ⟨x, hx⟩ : ∃ x, vals.getD k ByteArray.empty = x := ⟨_, rfl⟩
      rw [hx] at hc
      have HX := Lib.hid hx
      have k1 : decide (k < n) = true := decide_eq_true hlt.1
      have k2 : decide ((k : Int) < 80) = true := decide_eq_true (by omega)
      have HLT := Lib.hid hlt
      have hkn := hlt.1
      clear hx hlt
      by_cases h8 : x.size ≤ 16
      · have k3 : decide ((16 : Int) < (x.size : Int)) = false := decide_eq_false (by omega)
        have H8 := Lib.hid h8
        clear h8
        go_wp2
        go_round
        case rel => exact ⟨k + 1, by go_num, HLT.out.1, HLT.out.2, fun j hj => by
          by_cases e : j = k
          · subst e; rw [HX.out]; exact H8.out
          · exact HA.out j (by omega)⟩
        case measure => have := HLT.out.1; simp [intOf]; omega
      · have k3 : decide ((16 : Int) < (x.size : Int)) = true := decide_eq_true (by omega)
        have H8 := Lib.hid h8
        clear h8
        go_wp2
        go_ret
        exact ⟨⟨false, rfl, fun h => (by cases h), fun h => absurd (HX.out ▸ h.2.1 k (by rw [HN.out]; exact HLT.out.1)) H8.out⟩, (Below.refl _ _).alloc (Nat.le_refl _) _⟩
    · have HLT := Lib.hid hlt
      by_cases h80 : n ≤ 80
      · have hkn : k = n := by omega
        have k1 : decide (k < n) = false := decide_eq_false (by omega)
        have k4 : decide ((n : Int) ≤ 80) = true := decide_eq_true (by omega)
        have HKN := Lib.hid hkn
        have H80 := Lib.hid h80
        clear hlt hkn h80
        by_cases hs : seed.size ≤ 40
        · have k5 : decide ((seed.size : Int) ≤ 40) = true := decide_eq_true (by omega)
          have HSZ := Lib.hid hs
          clear hs
          go_wp2
          go_ret
          exact ⟨⟨_, rfl, fun h => ⟨by rw [HN.out]; exact H80.out, fun j hj => HA.out j (by rw [HKN.out, ← HN.out]; exact hj), HSZ.out, of_decide_eq_true h⟩, fun h => decide_eq_true h.2.2.2⟩, (Below.refl _ _).alloc (Nat.le_refl _) _⟩
        · have k5 : decide ((seed.size : Int) ≤ 40) = false := decide_eq_false (by omega)
          have HSZ := Lib.hid hs
          clear hs
          go_wp2
          go_ret
          exact ⟨⟨false, rfl, fun h => (by cases h), fun h => absurd h.2.2.1 HSZ.out⟩, (Below.refl _ _).alloc (Nat.le_refl _) _⟩
      · have k4 : decide ((n : Int) ≤ 80) = false := decide_eq_false (by omega)
        have H80 := Lib.hid h80
        by_cases hkn : k < n
        · have k1 : decide (k < n) = true := decide_eq_true (by omega)
          have k2 : decide ((k : Int) < 80) = false := decide_eq_false (by omega)
          clear hlt h80 hkn
          go_wp2
          go_ret
          exact ⟨⟨false, rfl, fun h => (by cases h), fun h => absurd (HN.out ▸ h.1) H80.out⟩, (Below.refl _ _).alloc (Nat.le_refl _) _⟩
        · have k1 : decide (k < n) = false := decide_eq_false (by omega)
          clear hlt h80 hkn
          go_wp2
          go_ret
          exact ⟨⟨false, rfl, fun h => (by cases h), fun h => absurd (HN.out ▸ h.1) H80.out⟩, (Below.refl _ _).alloc (Nat.le_refl _) _⟩
theorem few_is (vals : List ByteArray) (A : Option Addr) (n c b : Nat) (seed : ByteArray) (z : Int) (w : World) (hn : vals.length = n) (hm : n ≤ maxLen) (h : SLs w b A vals) (hb : b ≤ w.heap.size) (B : Bool) (hB : B = true ↔ FewP vals seed z) :
    Calls Tryz.prog 12 #[.agg #[.slice A n c, .string seed, .int .i64 z]] w fun e w' => e = .returned (.bool B) ∧ Below w.heap.size w w' := by
  refine (law11_Few vals A n c b seed z w hn hm h hb).mono ?_
  rintro e w' ⟨⟨b', rfl, hb'⟩, hbl⟩
  have : b' = B := by
    cases b' <;> cases B
    · rfl
    · exact absurd (hb'.2 (hB.1 rfl)) (by decide)
    · exact absurd (hB.2 (hb'.1 rfl)) (by decide)
    · rfl
  rw [this]
  exact ⟨rfl, hbl⟩

end Go.Proofs.YtdajbcohmnmbpaaGreatDoor
