/- The walks of the reference of layer 4 (prime). The walks of the reference of layer 4 (prime): the test. prime.Is in general; a message is an element. -/
import Derived.Test.YtkdbemdobfddoaaGreatDoorBW
import Derived.Test.YtkdbemdobfddoaaGreatDoorBP
import Derived.Test.YtkdbemdobfddoaaGreatDoorKi
import Derived.Test.YtkdbemdobfddoaaGreatDoorMnJZ
namespace Go.Proofs.YtkdbemdobfddoaaGreatDoor
open Go.RowKit
set_option maxRecDepth 100000
set_option linter.unusedVariables false
set_option maxHeartbeats 400000
end Go.Proofs.YtkdbemdobfddoaaGreatDoor
namespace Go.Proofs.YtkdbemdobfddoaaGreatDoor
open Go.RowKit
set_option maxRecDepth 100000
set_option linter.unusedVariables false
set_option maxHeartbeats 400000
/-- Whether a number is prime, by the test, and the error. -/
def isPS (s : ByteArray) : Bool × Int := (decide ((smallS s).2 = 0) && isS (smallS s).1, (smallS s).2)
end Go.Proofs.YtkdbemdobfddoaaGreatDoor

namespace Go.Proofs.YtkdbemdobfddoaaGreatDoor
open Go.RowKit
set_option maxRecDepth 100000
set_option linter.unusedVariables false
set_option maxHeartbeats 4000000
theorem prime_IsK (s : ByteArray) (w : World) (hT : Tab w) :
    Calls Tryz.prog 46 #[.string s] w fun e w' => e = .returned (.tuple #[.bool (isPS s).1, .int .i64 (isPS s).2]) ∧ Below w.heap.size w w' := by
  have hr : isPS s = (decide ((smallS s).2 = 0) && isS (smallS s).1, (smallS s).2) := rfl
  have KS := fun w => prime_small s w
  have hlt := smallS_lt s
  obtain ⟨x, hx⟩ : ∃ x, x = (smallS s).1 := ⟨_, rfl⟩
  obtain ⟨er, he⟩ : ∃ er, er = (smallS s).2 := ⟨_, rfl⟩
  rw [← hx, ← he] at hr
  rw [← hx] at hlt
  simp only [← hx, ← he] at KS
  have KS := Lib.hid KS
  have KI := Lib.hid (fun w (hT : Tab w) => prime_is x w hlt hT)
  have HT := Lib.hid hT
  rw [hr]
  by_cases h0 : er = 0
  · subst h0
    clear hr hx he hlt hT
    go_enter Tryz.func46, Tryz.ntmps46
    go_wp2_with (first
      | (go_at_call 103; (with_reducible refine (KS.out _).mono ?_); rintro e w1 ⟨rfl, rfl⟩)
      | (go_at_call 104; (with_reducible refine (KI.out _ HT.out).mono ?_); rintro e w2 ⟨rfl, hb2⟩; have HB2 := Lib.hid hb2; clear hb2))
    go_ret2
    exact ⟨by simp, HB2.out⟩
  · have k0 : (er == 0) = false := by rw [beq_eq_false_iff_ne]; exact h0
    have H0 := Lib.hid h0
    clear hr hx he hlt hT h0
    go_enter Tryz.func46, Tryz.ntmps46
    go_wp2_with (first
      | (go_at_call 103; (with_reducible refine (KS.out _).mono ?_); rintro e w1 ⟨rfl, rfl⟩))
    go_ret2
    exact ⟨by simp [H0.out], Below.refl _ _⟩
theorem pwE_coprime (M : Nat) : ∀ l : List (Nat × Nat), (∀ p ∈ l, Nat.gcd p.1 M = 1) → Nat.gcd (pwE l) M = 1
  | [], _ => by rw [pwE_nil]; exact Nat.gcd_one_left M
  | p :: l, h => by
    rw [pwE_cons]
    exact Nat.Coprime.mul_left (Nat.Coprime.pow_left _ (h p (List.mem_cons_self ..))) (pwE_coprime M l (fun q hq => h q (List.mem_cons_of_mem _ hq)))
theorem zipE_fst {rs ats : List ByteArray} : ∀ p ∈ zipE rs ats, ∃ r ∈ rs, p.1 = num r := by
  intro p hp
  unfold zipE at hp
  obtain ⟨i, hi, rfl⟩ := List.getElem_of_mem hp
  rw [List.getElem_zipWith]
  exact ⟨_, List.getElem_mem _, rfl⟩
theorem hasG_coprime {m o s : ByteArray} {x : Nat} (sm : m.size ≤ 8) (ho : o.toList.isEmpty = true) (h : hasG m o s = true) (hx : x < num m) (h2 : 2 ≤ num m) (hg : Nat.gcd x (num m) = 1) : hasG m o (B x) = true := by
  have hl := hasG_lt sm h
  unfold hasG at h ⊢
  rw [if_pos ho] at h ⊢
  unfold hasS at h ⊢
  simp only [Bool.and_eq_true, decide_eq_true_eq] at h ⊢
  have hx0 : x ≠ 0 := by rintro rfl; rw [Nat.gcd_zero_left] at hg; omega
  have hxl : x < lim := u64_lt_lim (by omega)
  refine ⟨⟨⟨⟨h.1.1.1.1, valid_B hxl⟩, ?_⟩, ?_⟩, by rw [num_B]; exact hg⟩
  · rw [B_isEmpty_false hx0]; rfl
  · unfold natCmp cmpN
    rw [valid_B hxl, hl.2.1, num_B]
    simp [hx]
theorem hasG_msg {m o s : ByteArray} {rs ats : List ByteArray} (sm : m.size ≤ 8) (ho : o.toList.isEmpty = true) (h : hasG m o s = true) (h2 : 2 ≤ num m) (hrs : rs.all (hasG m o) = true) : hasG m o (B (msgV m rs ats)) = true := by
  refine hasG_coprime sm ho h (Nat.mod_lt _ (by omega)) h2 ?_
  unfold msgV
  rw [← Nat.gcd_rec, Nat.gcd_comm]
  refine pwE_coprime _ _ fun p hp => ?_
  obtain ⟨r, hr, e⟩ := zipE_fst p hp
  rw [e]
  exact gcd_of_has ho (List.all_eq_true.1 hrs r hr)
end Go.Proofs.YtkdbemdobfddoaaGreatDoor
