/- The walks of package rsagroup: elements. -/
import Derived.Test.YtlppcnjaacbhpaaGreatDoorG1
namespace Go.Proofs.YtlppcnjaacbhpaaGreatDoor
open Go.RowKit
set_option maxRecDepth 100000
set_option linter.unusedVariables false
set_option maxHeartbeats 400000

theorem below_box' {w w2 : World} {o : Obj} (h2 : Below (w.alloc o).heap.size (w.alloc o) w2) : Below w.heap.size w w2 := ((Below.refl _ _).alloc (Nat.le_refl _) _).trans (h2.mono (by simp))
theorem natural_Gcd' (a b : ByteArray) (w : World) (ha : Hid (B (num a) = a)) (hb : Hid (B (num b) = b)) (hx : Hid (num a < 18446744073709551616)) (hy : Hid (num b < 18446744073709551616)) :
    Calls Tryz.prog 64 #[.string a, .string b] w fun e w' => e = .returned (.tuple #[.string (B (Nat.gcd (num a) (num b))), .int .i64 0]) ∧ Below w.heap.size w w' := by
  have := natural_Gcd (num a) (num b) w hx.out hy.out
  rw [ha.out, hb.out] at this
  exact this
theorem B_beq (x y : Nat) : ((B x).toList == (B y).toList) = decide (x = y) := by
  rw [Bool.eq_iff_iff, beq_iff_eq, decide_eq_true_eq, ByteArray.toList_eq, ByteArray.toList_eq]
  exact ⟨fun h => enc_inj h, fun h => by rw [h]⟩
/-- Whether a number is an element of a group of unknown order. -/
def hasS (m o x : ByteArray) : Bool := goodS m o && valid x && !x.toList.isEmpty && decide (natCmp x m < 0) && decide (Nat.gcd (num x) (num m) = 1)
theorem goodS_valid {m o : ByteArray} (h : goodS m o = true) : valid m = true := by
  unfold goodS at h
  simp only [Bool.and_eq_true] at h
  exact h.1.1.1
theorem natCmp_neg {a b : ByteArray} (ha : valid a = true) (hb : valid b = true) (h : natCmp a b < 0) : num a < num b := by
  unfold natCmp at h
  rw [ha, hb] at h
  exact cmpN_neg.1 h
theorem rsagroup_Has (m o x : ByteArray) (w : World) (sm : m.size ≤ 8) :
    Calls Tryz.prog 95 #[.agg #[.string m, .string o], .string x] w fun e w' => e = .returned (.bool (hasS m o x)) ∧ Below w.heap.size w w' := by
  have hr : hasS m o x = (goodS m o && valid x && !x.toList.isEmpty && decide (natCmp x m < 0) && decide (Nat.gcd (num x) (num m) = 1)) := rfl
  have HR := Lib.hid hr
  clear hr
  cases h1 : goodS m o
  · go_enter Tryz.func95, Tryz.ntmps95
    go_wp2_with (first | (go_at_call 123; refine (rsagroup_good _ _ _ (by omega)).mono ?_; rintro e w' ⟨rfl, hb1⟩; have hcw := (bcell hb1).1))
    go_ret
    exact ⟨ret_bool (by rw [HR.out, h1]; rfl), below_box' hb1⟩
  · cases h2 : valid x
    · go_enter Tryz.func95, Tryz.ntmps95
      go_wp2_with (first | (go_at_call 123; refine (rsagroup_good _ _ _ (by omega)).mono ?_; rintro e w' ⟨rfl, hb1⟩; have hcw := (bcell hb1).1) | (go_at_call 60; refine (natural_Valid _ _).mono ?_; rintro e w' ⟨rfl, rfl⟩))
      go_ret
      exact ⟨ret_bool (by rw [HR.out, h1, h2]; rfl), below_box' hb1⟩
    · cases h3 : x.toList.isEmpty
      · have hcm := Lib.hid (fun h => natCmp_neg h2 (goodS_valid h1) h)
        by_cases h4 : natCmp x m < 0
        · have hlt := hcm.out h4
          have hm8 := natSmall_bound m sm
          have ex := B_num h2
          have em := B_num (goodS_valid h1)
          have H4 := Lib.hid h4
          have hge : ¬ 0 ≤ natCmp x m := by omega
          clear hcm
          have HX := Lib.hid ex
          have HM := Lib.hid em
          have HL := Lib.hid (Nat.lt_trans hlt hm8)
          have H8 := Lib.hid hm8
          clear ex em hlt hm8
          go_enter Tryz.func95, Tryz.ntmps95
          go_wp2_with (first | (go_at_call 123; refine (rsagroup_good _ _ _ (by omega)).mono ?_; rintro e w' ⟨rfl, hb1⟩; have hcw := (bcell hb1).1) | (go_at_call 60; refine (natural_Valid _ _).mono ?_; rintro e w' ⟨rfl, rfl⟩) | (go_at_call 69; refine (natural_Cmp _ _ _).mono ?_; rintro e w' ⟨rfl, rfl⟩) | (go_at_call 64; refine (natural_Gcd' _ _ _ HX HM HL H8).mono ?_; rintro e w' ⟨rfl, hb2⟩) | (go_at_call 65; refine (rsagroup_one _).mono ?_; rintro e w' ⟨rfl, hb3⟩))
          go_ret
          exact ⟨ret_bool (by rw [HR.out, h1, h2, h3, decide_eq_true H4.out, B_beq]; rfl), below2 (below2 (below_box' hb1) hb2) hb3⟩
        · clear hcm
          have H4 := Lib.hid h4
          go_enter Tryz.func95, Tryz.ntmps95
          go_wp2_with (first | (go_at_call 123; refine (rsagroup_good _ _ _ (by omega)).mono ?_; rintro e w' ⟨rfl, hb1⟩; have hcw := (bcell hb1).1) | (go_at_call 60; refine (natural_Valid _ _).mono ?_; rintro e w' ⟨rfl, rfl⟩) | (go_at_call 69; refine (natural_Cmp _ _ _).mono ?_; rintro e w' ⟨rfl, rfl⟩))
          go_ret
          exact ⟨ret_bool (by rw [HR.out, h1, h2, h3, decide_eq_false (show ¬ natCmp x m < 0 by have := H4.out; omega)]; rfl), below_box' hb1⟩
      · go_enter Tryz.func95, Tryz.ntmps95
        go_wp2_with (first | (go_at_call 123; refine (rsagroup_good _ _ _ (by omega)).mono ?_; rintro e w' ⟨rfl, hb1⟩; have hcw := (bcell hb1).1) | (go_at_call 60; refine (natural_Valid _ _).mono ?_; rintro e w' ⟨rfl, rfl⟩))
        go_ret
        exact ⟨ret_bool (by rw [HR.out, h1, h2, h3]; rfl), below_box' hb1⟩

theorem natural_Sub' (x y : Nat) (w : World) (hx : x < lim) (hle : y ≤ x) :
    Calls Tryz.prog 71 #[.string (B x), .string (B y)] w fun e w' => e = .returned (.tuple #[.string (B (x - y)), .int .i64 0]) ∧ Below w.heap.size w w' := by
  have := natural_Sub (B x) (B y) w
  have e : natSub (B x) (B y) = (B (x - y), 0) := by
    unfold natSub; rw [valid_B hx, valid_B (Nat.lt_of_le_of_lt hle hx), num_B, num_B]; simp; omega
  rw [e] at this
  exact this
theorem u64_lt_lim {x : Nat} (h : x < 18446744073709551616) : x < lim := Nat.lt_trans h (by decide)
theorem natural_DivMod' (x y : Nat) (w : World) (hx : x < 18446744073709551616) (hy : y < 18446744073709551616) (h0 : 0 < y) :
    Calls Tryz.prog 72 #[.string (B x), .string (B y)] w fun e w' => e = .returned (.tuple #[.string (B (x / y)), .string (B (x % y)), .int .i64 0]) ∧ Below w.heap.size w w' := by
  have := natural_DivMod (B x) (B y) w (fun _ => .inl (by rw [num_B]; exact hx))
  have e : natDivMod (B x) (B y) = (B (x / y), B (x % y), 0) := by
    unfold natDivMod; rw [valid_B (u64_lt_lim hx), valid_B (u64_lt_lim hy), num_B, num_B]; simp; omega
  rw [e] at this
  exact this
theorem rsagroup_half (n : Nat) (w : World) (h0 : 1 ≤ n) (h : n < 18446744073709551616) :
    Calls Tryz.prog 100 #[.string (B n)] w fun e w' => e = .returned (.string (B ((n - 1) / 2))) ∧ Below w.heap.size w w' := by
  have hl := Lib.hid (u64_lt_lim h)
  have hn := Lib.hid (show n - 1 < 18446744073709551616 by omega)
  clear h
  go_enter Tryz.func100, Tryz.ntmps100
  go_wp2_with (first | (go_at_call 65; refine (rsagroup_one _).mono ?_; rintro e w' ⟨rfl, hb1⟩) | (go_at_call 71; refine (natural_Sub' n 1 _ hl.out h0).mono ?_; rintro e w' ⟨rfl, hb2⟩) | (go_at_call 70; (with_reducible refine (natural_Of' 2 2 _ rfl (by decide)).mono ?_); rintro e w' ⟨rfl, hb3⟩) | (go_at_call 72; refine (natural_DivMod' (n - 1) 2 _ hn.out (by decide) (by decide)).mono ?_; rintro e w' ⟨rfl, hb4⟩))
  go_ret
  exact ⟨rfl, below2 (below2 (below2 hb1 hb2) hb3) hb4⟩
theorem rsagroup_primes (p q : ByteArray) (w : World) :
    Calls Tryz.prog 96 #[.agg #[.string p, .string q]] w fun e w' => e = .returned (.agg #[.string p, .string q]) ∧ Below w.heap.size w w' := by
  go_enter Tryz.func96, Tryz.ntmps96
  go_wp2_with fail
  exact bodyPost_ret (v := .agg #[.string p, .string q]) (by simp [results, Tryz.results96, go_sem]) rfl ⟨rfl, ((Below.refl _ _).alloc (Nat.le_refl _) _).alloc (by simp) _⟩
def basesV : Array Value := #[.int .u64 2, .int .u64 3, .int .u64 5, .int .u64 7, .int .u64 11, .int .u64 13, .int .u64 17, .int .u64 19, .int .u64 23, .int .u64 29, .int .u64 31, .int .u64 37]
theorem prime_bases (w : World) :
    Calls Tryz.prog 163 #[] w fun e w' => e = .returned (.agg basesV) ∧ Below w.heap.size w w' := by
  go_enter Tryz.func163, Tryz.ntmps163
  go_wp2_with fail
  exact bodyPost_ret (v := .agg basesV) (by simp [results, Tryz.results163, go_sem, basesV]) rfl ⟨rfl, (Below.refl _ _).alloc (Nat.le_refl _) _⟩
/-- A number below 2^64, or the error. -/
def smallS (s : ByteArray) : Nat × Int := if valid s then (if s.size ≤ 8 then (num s, 0) else (0, 5)) else (0, 3)
theorem smallS_lt (s : ByteArray) : (smallS s).1 < 18446744073709551616 := by
  unfold smallS
  split
  · split
    · exact natSmall_bound s (by assumption)
    · exact (by decide : (0 : Nat) < 18446744073709551616)
  · exact (by decide : (0 : Nat) < 18446744073709551616)
theorem prime_small (s : ByteArray) (w : World) :
    Calls Tryz.prog 147 #[.string s] w fun e w' => e = .returned (.tuple #[.int .u64 (smallS s).1, .int .i64 (smallS s).2]) ∧ w = w' := by
  by_cases hv : valid s = true
  · by_cases h8 : s.size ≤ 8
    · have hr : smallS s = (num s, 0) := by unfold smallS; rw [if_pos hv, if_pos h8]
      have hn : natSmall s = (num s, true) := by unfold natSmall; rw [hv]; simp [h8]
      have h1 : (natSmall s).1 = num s := by rw [hn]
      have h2 : (natSmall s).2 = true := by rw [hn]
      have HR := Lib.hid hr
      have H1 := Lib.hid h1
      clear hr hn h1
      go_enter Tryz.func147, Tryz.ntmps147
      go_wp2_with (first | (go_at_call 60; refine (natural_Valid _ _).mono ?_; rintro e w' ⟨rfl, rfl⟩) | (go_at_call 126; refine (natural_Small _ _).mono ?_; rintro e w' ⟨rfl, rfl⟩))
      go_ret2
      exact ⟨ret_ie (by rw [HR.out, H1.out]) (by rw [HR.out]), rfl⟩
    · have hr : smallS s = (0, 5) := by unfold smallS; rw [if_pos hv, if_neg h8]
      have hn : natSmall s = (0, false) := by unfold natSmall; simp [h8]
      have h2 : (natSmall s).2 = false := by rw [hn]
      have HR := Lib.hid hr
      clear hr hn
      go_enter Tryz.func147, Tryz.ntmps147
      go_wp2_with (first | (go_at_call 60; refine (natural_Valid _ _).mono ?_; rintro e w' ⟨rfl, rfl⟩) | (go_at_call 126; refine (natural_Small _ _).mono ?_; rintro e w' ⟨rfl, rfl⟩))
      go_ret2
      exact ⟨ret_ie (by rw [HR.out]; rfl) (by rw [HR.out]), rfl⟩
  · have hv' : valid s = false := by simpa using hv
    have hr : smallS s = (0, 3) := by unfold smallS; rw [if_neg hv]
    have HR := Lib.hid hr
    clear hr hv
    go_enter Tryz.func147, Tryz.ntmps147
    go_wp2_with (first | (go_at_call 60; refine (natural_Valid _ _).mono ?_; rintro e w' ⟨rfl, rfl⟩))
    go_ret2
    exact ⟨ret_ie (by rw [HR.out]; rfl) (by rw [HR.out]), rfl⟩

end Go.Proofs.YtlppcnjaacbhpaaGreatDoor
