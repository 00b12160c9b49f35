/- The walks of package rsagroup: squares and generators. -/
import Derived.Test.YtlppcnjaacbhpaaGreatDoorJ1
namespace Go.Proofs.YtlppcnjaacbhpaaGreatDoor
open Go.RowKit
set_option maxRecDepth 100000
set_option linter.unusedVariables false
set_option maxHeartbeats 400000

/-- The error of a number that should be an element. -/
def elementS (m o p q x : ByteArray) : Int := if valid x then (if checkS m o p q = 0 then (if hasS m o x then 0 else 13) else checkS m o p q) else 3
theorem rsagroup_element (m o p q x : ByteArray) (w : World) (sm : m.size ≤ 8) (hT : Tab w) :
    Calls Tryz.prog 61 #[.agg #[.string m, .string o], .agg #[.string p, .string q], .string x] w fun e w' => e = .returned (.int .i64 (elementS m o p q x)) ∧ Below w.heap.size w w' := by
  have hr : elementS m o p q x = if valid x then (if checkS m o p q = 0 then (if hasS m o x then 0 else 13) else checkS m o p q) else 3 := rfl
  have HR := Lib.hid hr
  have hck := fun w hT => rsagroup_Check m o p q w sm hT
  generalize checkS m o p q = ck at *
  have HCK := Lib.hid hck
  have HT := Lib.hid ((hT.alloc (.cells #[.string m, .string o] 24)).alloc (.cells #[.string p, .string q] 47))
  clear hr hck hT
  have F0 := Lib.hid (show Below w.heap.size w ((w.alloc (.cells #[.string m, .string o] 24)).alloc (.cells #[.string p, .string q] 47)) from ((Below.refl _ _).alloc (Nat.le_refl _) _).alloc (by simp) _)
  cases hv : valid x
  · go_enter Tryz.func61, Tryz.ntmps61
    go_wp2_with (first | (go_at_call 60; refine (natural_Valid _ _).mono ?_; rintro e w' ⟨rfl, rfl⟩))
    go_ret
    exact ⟨ret_int (by rw [HR.out, hv] <;> rfl), F0.out⟩
  · by_cases h0 : ck = 0
    · subst h0
      cases hh : hasS m o x
      all_goals
        go_enter Tryz.func61, Tryz.ntmps61
        go_wp2_with (first | (go_at_call 60; refine (natural_Valid _ _).mono ?_; rintro e w' ⟨rfl, rfl⟩) | (go_at_call 94; refine (HCK.out _ HT.out).mono ?_; rintro e w1 ⟨rfl, hb1⟩; have hcw1 := (bcell hb1).1) | (go_at_call 95; refine (rsagroup_Has _ _ _ _ sm).mono ?_; rintro e w2 ⟨rfl, hb2⟩))
        go_ret
        exact ⟨ret_int (by rw [HR.out, hv, hh] <;> rfl), below2 (below2 F0.out hb1) hb2⟩
    · have hb : (ck != 0) = true := by rw [bne_iff_ne]; exact h0
      have H0 := Lib.hid h0
      clear h0
      go_enter Tryz.func61, Tryz.ntmps61
      go_wp2_with (first | (go_at_call 60; refine (natural_Valid _ _).mono ?_; rintro e w' ⟨rfl, rfl⟩) | (go_at_call 94; refine (HCK.out _ HT.out).mono ?_; rintro e w1 ⟨rfl, hb1⟩; have hcw1 := (bcell hb1).1))
      go_ret
      exact ⟨ret_int (by rw [HR.out, hv, if_pos rfl, if_neg H0.out] <;> rfl), below2 F0.out hb1⟩
def squareS (x p q : Nat) : Bool := decide (jacS x p = 1) && decide (jacS x q = 1)
theorem idx_two (a b : ByteArray) (w : World) : (Instr.index 126 (.agg #[.string a, .string b]) (.int .i64 0)).run Tryz.prog w = .ok (.string a) w ∧ (Instr.index 126 (.agg #[.string a, .string b]) (.int .i64 1)).run Tryz.prog w = .ok (.string b) w := ⟨by kernel_rfl, by kernel_rfl⟩
theorem rsagroup_square (x p q : Nat) (w : World) (hx : x < 18446744073709551616) (hp : p < 18446744073709551616) (hq : q < 18446744073709551616) (op : p % 2 = 1) (oq : q % 2 = 1) :
    Calls Tryz.prog 62 #[.agg #[.string (B p), .string (B q)], .string (B x)] w fun e w' => e = .returned (.bool (squareS x p q)) ∧ Below w.heap.size w w' := by
  have hjp := fun w => modular_Jacobi x p w hx hp op
  have hjq := fun w => modular_Jacobi x q w hx hq oq
  have hr : squareS x p q = (decide (jacS x p = 1) && decide (jacS x q = 1)) := rfl
  generalize jacS x p = jp at *
  generalize jacS x q = jq at *
  have HR := Lib.hid hr
  have HP := Lib.hid hjp
  have HQ := Lib.hid hjq
  have ix := idx_two (B p) (B q)
  have ix0 := fun w => (ix w).1
  have ix1 := fun w => (ix w).2
  have F0 := Lib.hid (show Below w.heap.size w (w.alloc (.cells #[.string (B p), .string (B q)] 47)) from (Below.refl _ _).alloc (Nat.le_refl _) _)
  clear hr hjp hjq ix hx hp hq op oq
  by_cases h1 : jp = 1
  · have e1 : (jp != 1) = false := by rw [h1]; rfl
    have H1 := Lib.hid h1
    clear h1
    by_cases h2 : jq = 1
    · have e2 : (jq != 1) = false := by rw [h2]; rfl
      have H2 := Lib.hid h2
      clear h2
      go_enter Tryz.func62, Tryz.ntmps62
      go_wp2_with (go_at_call 96; refine (rsagroup_primes _ _ _).mono ?_; rintro e w1 ⟨rfl, hb1⟩)
      refine wp_loop_rounds 3 ?_
      rw [rounds_succ]
      go_wp2_with (go_at_call 97; refine (HP.out _).mono ?_; rintro e w2 ⟨rfl, hb2⟩)
      rw [rounds_succ]
      go_wp2_with (go_at_call 97; refine (HQ.out _).mono ?_; rintro e w3 ⟨rfl, hb3⟩)
      rw [rounds_succ]
      go_wp2_with fail
      go_ret
      exact ⟨ret_bool (by rw [HR.out, H1.out, H2.out] <;> rfl), below2 (below2 (below2 F0.out hb1) hb2) hb3⟩
    · have e2 : (jq != 1) = true := by rw [bne_iff_ne]; exact h2
      have H2 := Lib.hid h2
      clear h2
      go_enter Tryz.func62, Tryz.ntmps62
      go_wp2_with (go_at_call 96; refine (rsagroup_primes _ _ _).mono ?_; rintro e w1 ⟨rfl, hb1⟩)
      refine wp_loop_rounds 3 ?_
      rw [rounds_succ]
      go_wp2_with (go_at_call 97; refine (HP.out _).mono ?_; rintro e w2 ⟨rfl, hb2⟩)
      rw [rounds_succ]
      go_wp2_with (go_at_call 97; refine (HQ.out _).mono ?_; rintro e w3 ⟨rfl, hb3⟩)
      go_ret
      exact ⟨ret_bool (by rw [HR.out, decide_eq_false H2.out, Bool.and_false] <;> rfl), below2 (below2 (below2 F0.out hb1) hb2) hb3⟩
  · have e1 : (jp != 1) = true := by rw [bne_iff_ne]; exact h1
    have H1 := Lib.hid h1
    clear h1
    go_enter Tryz.func62, Tryz.ntmps62
    go_wp2_with (go_at_call 96; refine (rsagroup_primes _ _ _).mono ?_; rintro e w1 ⟨rfl, hb1⟩)
    refine wp_loop_rounds 3 ?_
    rw [rounds_succ]
    go_wp2_with (go_at_call 97; refine (HP.out _).mono ?_; rintro e w2 ⟨rfl, hb2⟩)
    go_ret
    exact ⟨ret_bool (by rw [HR.out, decide_eq_false H1.out, Bool.false_and] <;> rfl), below2 (below2 F0.out hb1) hb2⟩

theorem isS_odd {n : Nat} (h : isS n = true) : n = 2 ∨ n % 2 = 1 := by
  by_cases h2 : n % 2 = 1
  · exact .inr h2
  · left
    have hn : 2 ≤ n := by
      rcases Nat.lt_or_ge n 2 with h3 | h3
      · rw [isS_small h3] at h; cases h
      · exact h3
    have := isS_hit (n := n) (k := 0) hn (by decide) (fun j hj => absurd hj (by omega)) (by show n % 2 = 0; omega)
    rw [this] at h
    have h4 : n = basesL.getD 0 0 := by simpa using h
    exact h4
theorem safeS_odd {p : ByteArray} (h : (safeS p).2 = 0) (h1 : (safeS p).1 = true) : num p % 2 = 1 := by
  obtain ⟨_, h2, _, h4, h5⟩ := safeS_zero h h1
  rcases isS_odd h4 with h6 | h6
  · rw [h6] at h5
    have := isS_small (show (2 - 1) / 2 < 2 by decide)
    rw [this] at h5; cases h5
  · exact h6
theorem checkS_zero {m o p q : ByteArray} (h : checkS m o p q = 0) : (valid m = true ∧ valid p = true ∧ valid q = true) ∧ goodS m o = true ∧ trapS p q = 0 ∧ (natMul p q).2 = 0 ∧ ((natMul p q).1.toList == m.toList) = true := by
  unfold checkS at h
  split at h
  · rename_i hv
    simp only [Bool.and_eq_true] at hv
    split at h
    · rename_i hg
      split at h
      · rename_i hm
        exact ⟨⟨hv.1, hv.2.2.1, hv.2.2.2⟩, hg, h, hm.1, hm.2⟩
      · cases h
    · cases h
  · cases h
structure ElemFacts (m o p q x : ByteArray) : Prop where
  vm : valid m = true
  vp : valid p = true
  vq : valid q = true
  vx : valid x = true
  p64 : num p < 18446744073709551616
  q64 : num q < 18446744073709551616
  op : num p % 2 = 1
  oq : num q % 2 = 1
  has : hasS m o x = true
  chk : checkS m o p q = 0
theorem elementS_zero {m o p q x : ByteArray} (h : elementS m o p q x = 0) : ElemFacts m o p q x := by
  unfold elementS at h
  split at h
  · rename_i hv
    split at h
    · rename_i hc
      split at h
      · rename_i hh
        obtain ⟨⟨vm, vp, vq⟩, _, ht, _, _⟩ := checkS_zero hc
        obtain ⟨hp, hq, _⟩ := trapS_zero ht
        exact ⟨vm, vp, vq, hv, (safeS_zero hp.1 hp.2).2.2.1, (safeS_zero hq.1 hq.2).2.2.1, safeS_odd hp.1 hp.2, safeS_odd hq.1 hq.2, hh, hc⟩
      · cases h
    · rename_i hc; exact absurd h hc
  · cases h
theorem hasS_lt {m o x : ByteArray} (sm : m.size ≤ 8) (h : hasS m o x = true) : valid x = true ∧ num x < num m ∧ num x < 18446744073709551616 ∧ 0 < num x ∧ goodS m o = true ∧ Nat.gcd (num x) (num m) = 1 := by
  unfold hasS at h
  simp only [Bool.and_eq_true, decide_eq_true_eq, Bool.not_eq_true'] at h
  obtain ⟨⟨⟨⟨hg, hv⟩, hne⟩, hc⟩, hgcd⟩ := h
  have hl := natCmp_neg hv (goodS_valid hg) hc
  refine ⟨hv, hl, Nat.lt_trans hl (natSmall_bound m sm), ?_, hg, hgcd⟩
  rcases Nat.eq_zero_or_pos (num x) with h0 | h0
  · rw [← B_num hv, h0, B_isEmpty_true] at hne; cases hne
  · exact h0
/-- Whether an element is a square, and the error. -/
def isSquareS (m o p q x : ByteArray) : Bool × Int := (decide (elementS m o p q x = 0) && squareS (num x) (num p) (num q), elementS m o p q x)
/-- Whether an element generates the squares, and the error. -/
def isGenS (m o p q x : ByteArray) : Bool × Int :=
  (decide (elementS m o p q x = 0) && (squareS (num x) (num p) (num q) && (!decide (num x % num p = 1) && !decide (num x % num q = 1))), elementS m o p q x)
end Go.Proofs.YtlppcnjaacbhpaaGreatDoor
