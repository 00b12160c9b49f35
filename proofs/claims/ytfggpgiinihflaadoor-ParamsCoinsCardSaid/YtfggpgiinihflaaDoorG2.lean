/- The walks of package rsagroup: elements. -/
import Derived.Test.YtfggpgiinihflaaDoorG1
namespace Go.Proofs.YtfggpgiinihflaaDoor
open Go.RowKit
set_option maxRecDepth 100000
set_option linter.unusedVariables false
set_option maxHeartbeats 400000

theorem below_box' {w w2 : World} {o : Obj} (h2 : Below (w.alloc o).heap.size (w.alloc o) w2) : Below w.heap.size w w2 := ((Below.refl _ _).alloc (Nat.le_refl _) _).trans (h2.mono (by simp))
theorem B_beq (x y : Nat) : ((B x).toList == (B y).toList) = decide (x = y) := by
  rw [Bool.eq_iff_iff, beq_iff_eq, decide_eq_true_eq, ByteArray.toList_eq, ByteArray.toList_eq]
  exact ⟨fun h => enc_inj h, fun h => by rw [h]⟩
/-- Whether a number is an element of a group of unknown order. -/
def hasS (m o x : ByteArray) : Bool := goodS m o && valid x && !x.toList.isEmpty && decide (natCmp x m < 0) && decide (Nat.gcd (num x) (num m) = 1)
theorem goodS_valid {m o : ByteArray} (h : goodS m o = true) : valid m = true := by
  unfold goodS at h
  simp only [Bool.and_eq_true] at h
  exact h.1.1.1
theorem natCmp_neg {a b : ByteArray} (ha : valid a = true) (hb : valid b = true) (h : natCmp a b < 0) : num a < num b := by
  unfold natCmp at h
  rw [ha, hb] at h
  exact cmpN_neg.1 h
theorem natural_Sub' (x y : Nat) (w : World) (hx : x < lim) (hle : y ≤ x) :
    Calls Tryd.prog 56 #[.string (B x), .string (B y)] w fun e w' => e = .returned (.tuple #[.string (B (x - y)), .int .i64 0]) ∧ Below w.heap.size w w' := by
  have := natural_Sub (B x) (B y) w
  have e : natSub (B x) (B y) = (B (x - y), 0) := by
    unfold natSub; rw [valid_B hx, valid_B (Nat.lt_of_le_of_lt hle hx), num_B, num_B]; simp; omega
  rw [e] at this
  exact this
theorem u64_lt_lim {x : Nat} (h : x < 18446744073709551616) : x < lim := Nat.lt_trans h (by decide)
theorem natural_DivMod' (x y : Nat) (w : World) (hx : x < 18446744073709551616) (hy : y < 18446744073709551616) (h0 : 0 < y) :
    Calls Tryd.prog 57 #[.string (B x), .string (B y)] w fun e w' => e = .returned (.tuple #[.string (B (x / y)), .string (B (x % y)), .int .i64 0]) ∧ Below w.heap.size w w' := by
  have := natural_DivMod (B x) (B y) w (fun _ => .inl (by rw [num_B]; exact hx))
  have e : natDivMod (B x) (B y) = (B (x / y), B (x % y), 0) := by
    unfold natDivMod; rw [valid_B (u64_lt_lim hx), valid_B (u64_lt_lim hy), num_B, num_B]; simp; omega
  rw [e] at this
  exact this
theorem rsagroup_primes (p q : ByteArray) (w : World) :
    Calls Tryd.prog 51 #[.agg #[.string p, .string q]] w fun e w' => e = .returned (.agg #[.string p, .string q]) ∧ Below w.heap.size w w' := by
  go_enter Tryd.func51, Tryd.ntmps51
  go_wp2_with fail
  exact bodyPost_ret (v := .agg #[.string p, .string q]) (by simp [results, Tryd.results51, go_sem]) rfl ⟨rfl, ((Below.refl _ _).alloc (Nat.le_refl _) _).alloc (by simp) _⟩
def basesV : Array Value := #[.int .u64 2, .int .u64 3, .int .u64 5, .int .u64 7, .int .u64 11, .int .u64 13, .int .u64 17, .int .u64 19, .int .u64 23, .int .u64 29, .int .u64 31, .int .u64 37]
theorem prime_bases (w : World) :
    Calls Tryd.prog 64 #[] w fun e w' => e = .returned (.agg basesV) ∧ Below w.heap.size w w' := by
  go_enter Tryd.func64, Tryd.ntmps64
  go_wp2_with fail
  exact bodyPost_ret (v := .agg basesV) (by simp [results, Tryd.results64, go_sem, basesV]) rfl ⟨rfl, (Below.refl _ _).alloc (Nat.le_refl _) _⟩
/-- A number below 2^64, or the error. -/
def smallS (s : ByteArray) : Nat × Int := if valid s then (if s.size ≤ 8 then (num s, 0) else (0, 5)) else (0, 3)
theorem smallS_lt (s : ByteArray) : (smallS s).1 < 18446744073709551616 := by
  unfold smallS
  split
  · split
    · exact natSmall_bound s (by assumption)
    · exact (by decide : (0 : Nat) < 18446744073709551616)
  · exact (by decide : (0 : Nat) < 18446744073709551616)
theorem prime_small (s : ByteArray) (w : World) :
    Calls Tryd.prog 54 #[.string s] w fun e w' => e = .returned (.tuple #[.int .u64 (smallS s).1, .int .i64 (smallS s).2]) ∧ w = w' := by
  by_cases hv : valid s = true
  · by_cases h8 : s.size ≤ 8
    · have hr : smallS s = (num s, 0) := by unfold smallS; rw [if_pos hv, if_pos h8]
      have hn : natSmall s = (num s, true) := by unfold natSmall; rw [hv]; simp [h8]
      have h1 : (natSmall s).1 = num s := by rw [hn]
      have h2 : (natSmall s).2 = true := by rw [hn]
      have HR := Lib.hid hr
      have H1 := Lib.hid h1
      clear hr hn h1
      go_enter Tryd.func54, Tryd.ntmps54
      go_wp2_with (first | (go_at_call 33; refine (natural_Valid _ _).mono ?_; rintro e w' ⟨rfl, rfl⟩) | (go_at_call 36; refine (natural_Small _ _).mono ?_; rintro e w' ⟨rfl, rfl⟩))
      go_ret2
      exact ⟨ret_ie (by rw [HR.out, H1.out]) (by rw [HR.out]), rfl⟩
    · have hr : smallS s = (0, 5) := by unfold smallS; rw [if_pos hv, if_neg h8]
      have hn : natSmall s = (0, false) := by unfold natSmall; simp [h8]
      have h2 : (natSmall s).2 = false := by rw [hn]
      have HR := Lib.hid hr
      clear hr hn
      go_enter Tryd.func54, Tryd.ntmps54
      go_wp2_with (first | (go_at_call 33; refine (natural_Valid _ _).mono ?_; rintro e w' ⟨rfl, rfl⟩) | (go_at_call 36; refine (natural_Small _ _).mono ?_; rintro e w' ⟨rfl, rfl⟩))
      go_ret2
      exact ⟨ret_ie (by rw [HR.out]; rfl) (by rw [HR.out]), rfl⟩
  · have hv' : valid s = false := by simpa using hv
    have hr : smallS s = (0, 3) := by unfold smallS; rw [if_neg hv]
    have HR := Lib.hid hr
    clear hr hv
    go_enter Tryd.func54, Tryd.ntmps54
    go_wp2_with (first | (go_at_call 33; refine (natural_Valid _ _).mono ?_; rintro e w' ⟨rfl, rfl⟩))
    go_ret2
    exact ⟨ret_ie (by rw [HR.out]; rfl) (by rw [HR.out]), rfl⟩

end Go.Proofs.YtfggpgiinihflaaDoor
