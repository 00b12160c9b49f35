/- The walks of package rsagroup: squares and generators. -/
import Derived.Test.YtgbkjicpmjncaaaDoorJ1
namespace Go.Proofs.YtgbkjicpmjncaaaDoor
open Go.RowKit
set_option maxRecDepth 100000
set_option linter.unusedVariables false
set_option maxHeartbeats 400000

/-- The error of a number that should be an element. -/
def elementS (m o p q x : ByteArray) : Int := if valid x then (if checkS m o p q = 0 then (if hasS m o x then 0 else 13) else checkS m o p q) else 3
theorem rsagroup_element (m o p q x : ByteArray) (w : World) (sm : m.size ≤ 8) (hT : Tab w) :
    Calls Tryd.prog 27 #[.agg #[.string m, .string o], .agg #[.string p, .string q], .string x] w fun e w' => e = .returned (.int .i64 (elementS m o p q x)) ∧ Below w.heap.size w w' := by
  have hr : elementS m o p q x = if valid x then (if checkS m o p q = 0 then (if hasS m o x then 0 else 13) else checkS m o p q) else 3 := rfl
  have HR := Lib.hid hr
  have hck := fun w hT => rsagroup_Check m o p q w sm hT
  generalize checkS m o p q = ck at *
  have HCK := Lib.hid hck
  have HT := Lib.hid ((hT.alloc (.cells #[.string m, .string o] 24)).alloc (.cells #[.string p, .string q] 26))
  clear hr hck hT
  have F0 := Lib.hid (show Below w.heap.size w ((w.alloc (.cells #[.string m, .string o] 24)).alloc (.cells #[.string p, .string q] 26)) from ((Below.refl _ _).alloc (Nat.le_refl _) _).alloc (by simp) _)
  cases hv : valid x
  · go_enter Tryd.func27, Tryd.ntmps27
    go_wp2_with (first | (go_at_call 15; refine (natural_Valid _ _).mono ?_; rintro e w' ⟨rfl, rfl⟩))
    go_ret
    exact ⟨ret_int (by rw [HR.out, hv] <;> rfl), F0.out⟩
  · by_cases h0 : ck = 0
    · subst h0
      cases hh : hasS m o x
      all_goals
        go_enter Tryd.func27, Tryd.ntmps27
        go_wp2_with (first | (go_at_call 15; refine (natural_Valid _ _).mono ?_; rintro e w' ⟨rfl, rfl⟩) | (go_at_call 6; refine (HCK.out _ HT.out).mono ?_; rintro e w1 ⟨rfl, hb1⟩; have hcw1 := (bcell hb1).1) | (go_at_call 7; refine (rsagroup_Has _ _ _ _ sm).mono ?_; rintro e w2 ⟨rfl, hb2⟩))
        go_ret
        exact ⟨ret_int (by rw [HR.out, hv, hh] <;> rfl), below2 (below2 F0.out hb1) hb2⟩
    · have hb : (ck != 0) = true := by rw [bne_iff_ne]; exact h0
      have H0 := Lib.hid h0
      clear h0
      go_enter Tryd.func27, Tryd.ntmps27
      go_wp2_with (first | (go_at_call 15; refine (natural_Valid _ _).mono ?_; rintro e w' ⟨rfl, rfl⟩) | (go_at_call 6; refine (HCK.out _ HT.out).mono ?_; rintro e w1 ⟨rfl, hb1⟩; have hcw1 := (bcell hb1).1))
      go_ret
      exact ⟨ret_int (by rw [HR.out, hv, if_pos rfl, if_neg H0.out] <;> rfl), below2 F0.out hb1⟩
def squareS (x p q : Nat) : Bool := decide (jacS x p = 1) && decide (jacS x q = 1)
theorem idx_two (a b : ByteArray) (w : World) : (Instr.index 67 (.agg #[.string a, .string b]) (.int .i64 0)).run Tryd.prog w = .ok (.string a) w ∧ (Instr.index 67 (.agg #[.string a, .string b]) (.int .i64 1)).run Tryd.prog w = .ok (.string b) w := ⟨by kernel_rfl, by kernel_rfl⟩
theorem rsagroup_square (x p q : Nat) (w : World) (hx : x < 18446744073709551616) (hp : p < 18446744073709551616) (hq : q < 18446744073709551616) (op : p % 2 = 1) (oq : q % 2 = 1) :
    Calls Tryd.prog 28 #[.agg #[.string (B p), .string (B q)], .string (B x)] w fun e w' => e = .returned (.bool (squareS x p q)) ∧ Below w.heap.size w w' := by
  have hjp := fun w => modular_Jacobi x p w hx hp op
  have hjq := fun w => modular_Jacobi x q w hx hq oq
  have hr : squareS x p q = (decide (jacS x p = 1) && decide (jacS x q = 1)) := rfl
  generalize jacS x p = jp at *
  generalize jacS x q = jq at *
  have HR := Lib.hid hr
  have HP := Lib.hid hjp
  have HQ := Lib.hid hjq
  have ix := idx_two (B p) (B q)
  have ix0 := fun w => (ix w).1
  have ix1 := fun w => (ix w).2
  have F0 := Lib.hid (show Below w.heap.size w (w.alloc (.cells #[.string (B p), .string (B q)] 26)) from (Below.refl _ _).alloc (Nat.le_refl _) _)
  clear hr hjp hjq ix hx hp hq op oq
  by_cases h1 : jp = 1
  · have e1 : (jp != 1) = false := by rw [h1]; rfl
    have H1 := Lib.hid h1
    clear h1
    by_cases h2 : jq = 1
    · have e2 : (jq != 1) = false := by rw [h2]; rfl
      have H2 := Lib.hid h2
      clear h2
      go_enter Tryd.func28, Tryd.ntmps28
      go_wp2_with (go_at_call 31; refine (rsagroup_primes _ _ _).mono ?_; rintro e w1 ⟨rfl, hb1⟩)
      refine wp_loop_rounds 3 ?_
      rw [rounds_succ]
      go_wp2_with (go_at_call 48; refine (HP.out _).mono ?_; rintro e w2 ⟨rfl, hb2⟩)
      rw [rounds_succ]
      go_wp2_with (go_at_call 48; refine (HQ.out _).mono ?_; rintro e w3 ⟨rfl, hb3⟩)
      rw [rounds_succ]
      go_wp2_with fail
      go_ret
      exact ⟨ret_bool (by rw [HR.out, H1.out, H2.out] <;> rfl), below2 (below2 (below2 F0.out hb1) hb2) hb3⟩
    · have e2 : (jq != 1) = true := by rw [bne_iff_ne]; exact h2
      have H2 := Lib.hid h2
      clear h2
      go_enter Tryd.func28, Tryd.ntmps28
      go_wp2_with (go_at_call 31; refine (rsagroup_primes _ _ _).mono ?_; rintro e w1 ⟨rfl, hb1⟩)
      refine wp_loop_rounds 3 ?_
      rw [rounds_succ]
      go_wp2_with (go_at_call 48; refine (HP.out _).mono ?_; rintro e w2 ⟨rfl, hb2⟩)
      rw [rounds_succ]
      go_wp2_with (go_at_call 48; refine (HQ.out _).mono ?_; rintro e w3 ⟨rfl, hb3⟩)
      go_ret
      exact ⟨ret_bool (by rw [HR.out, decide_eq_false H2.out, Bool.and_false] <;> rfl), below2 (below2 (below2 F0.out hb1) hb2) hb3⟩
  · have e1 : (jp != 1) = true := by rw [bne_iff_ne]; exact h1
    have H1 := Lib.hid h1
    clear h1
    go_enter Tryd.func28, Tryd.ntmps28
    go_wp2_with (go_at_call 31; refine (rsagroup_primes _ _ _).mono ?_; rintro e w1 ⟨rfl, hb1⟩)
    refine wp_loop_rounds 3 ?_
    rw [rounds_succ]
    go_wp2_with (go_at_call 48; refine (HP.out _).mono ?_; rintro e w2 ⟨rfl, hb2⟩)
    go_ret
    exact ⟨ret_bool (by rw [HR.out, decide_eq_false H1.out, Bool.false_and] <;> rfl), below2 (below2 F0.out hb1) hb2⟩

theorem isS_odd {n : Nat} (h : isS n = true) : n = 2 ∨ n % 2 = 1 := by
  by_cases h2 : n % 2 = 1
  · exact .inr h2
  · left
    have hn : 2 ≤ n := by
      rcases Nat.lt_or_ge n 2 with h3 | h3
      · rw [isS_small h3] at h; cases h
      · exact h3
    have := isS_hit (n := n) (k := 0) hn (by decide) (fun j hj => absurd hj (by omega)) (by show n % 2 = 0; omega)
    rw [this] at h
    have h4 : n = basesL.getD 0 0 := by simpa using h
    exact h4
theorem safeS_odd {p : ByteArray} (h : (safeS p).2 = 0) (h1 : (safeS p).1 = true) : num p % 2 = 1 := by
  obtain ⟨_, h2, _, h4, h5⟩ := safeS_zero h h1
  rcases isS_odd h4 with h6 | h6
  · rw [h6] at h5
    have := isS_small (show (2 - 1) / 2 < 2 by decide)
    rw [this] at h5; cases h5
  · exact h6
theorem checkS_zero {m o p q : ByteArray} (h : checkS m o p q = 0) : (valid m = true ∧ valid p = true ∧ valid q = true) ∧ goodS m o = true ∧ trapS p q = 0 ∧ (natMul p q).2 = 0 ∧ ((natMul p q).1.toList == m.toList) = true := by
  unfold checkS at h
  split at h
  · rename_i hv
    simp only [Bool.and_eq_true] at hv
    split at h
    · rename_i hg
      split at h
      · rename_i hm
        exact ⟨⟨hv.1, hv.2.2.1, hv.2.2.2⟩, hg, h, hm.1, hm.2⟩
      · cases h
    · cases h
  · cases h
structure ElemFacts (m o p q x : ByteArray) : Prop where
  vm : valid m = true
  vp : valid p = true
  vq : valid q = true
  vx : valid x = true
  p64 : num p < 18446744073709551616
  q64 : num q < 18446744073709551616
  op : num p % 2 = 1
  oq : num q % 2 = 1
  has : hasS m o x = true
  chk : checkS m o p q = 0
theorem elementS_zero {m o p q x : ByteArray} (h : elementS m o p q x = 0) : ElemFacts m o p q x := by
  unfold elementS at h
  split at h
  · rename_i hv
    split at h
    · rename_i hc
      split at h
      · rename_i hh
        obtain ⟨⟨vm, vp, vq⟩, _, ht, _, _⟩ := checkS_zero hc
        obtain ⟨hp, hq, _⟩ := trapS_zero ht
        exact ⟨vm, vp, vq, hv, (safeS_zero hp.1 hp.2).2.2.1, (safeS_zero hq.1 hq.2).2.2.1, safeS_odd hp.1 hp.2, safeS_odd hq.1 hq.2, hh, hc⟩
      · cases h
    · rename_i hc; exact absurd h hc
  · cases h
theorem hasS_lt {m o x : ByteArray} (sm : m.size ≤ 8) (h : hasS m o x = true) : valid x = true ∧ num x < num m ∧ num x < 18446744073709551616 ∧ 0 < num x ∧ goodS m o = true ∧ Nat.gcd (num x) (num m) = 1 := by
  unfold hasS at h
  simp only [Bool.and_eq_true, decide_eq_true_eq, Bool.not_eq_true'] at h
  obtain ⟨⟨⟨⟨hg, hv⟩, hne⟩, hc⟩, hgcd⟩ := h
  have hl := natCmp_neg hv (goodS_valid hg) hc
  refine ⟨hv, hl, Nat.lt_trans hl (natSmall_bound m sm), ?_, hg, hgcd⟩
  rcases Nat.eq_zero_or_pos (num x) with h0 | h0
  · rw [← B_num hv, h0, B_isEmpty_true] at hne; cases hne
  · exact h0
/-- Whether an element is a square, and the error. -/
def isSquareS (m o p q x : ByteArray) : Bool × Int := (decide (elementS m o p q x = 0) && squareS (num x) (num p) (num q), elementS m o p q x)
theorem rsagroup_IsSquare (m o p q x : ByteArray) (w : World) (sm : m.size ≤ 8) (hT : Tab w) :
    Calls Tryd.prog 10 #[.agg #[.string m, .string o], .agg #[.string p, .string q], .string x] w fun e w' => e = .returned (.tuple #[.bool (isSquareS m o p q x).1, .int .i64 (isSquareS m o p q x).2]) ∧ Below w.heap.size w w' := by
  have hr1 : (isSquareS m o p q x).1 = (decide (elementS m o p q x = 0) && squareS (num x) (num p) (num q)) := rfl
  have hr2 : (isSquareS m o p q x).2 = elementS m o p q x := rfl
  have hel := fun w hT => rsagroup_element m o p q x w sm hT
  have hz := @elementS_zero m o p q x
  generalize elementS m o p q x = el at *
  have HR1 := Lib.hid hr1
  have HR2 := Lib.hid hr2
  have HEL := Lib.hid hel
  have HZ := Lib.hid hz
  have HT := Lib.hid ((hT.alloc (.cells #[.string m, .string o] 24)).alloc (.cells #[.string p, .string q] 26))
  clear hr1 hr2 hel hz hT
  have F0 := Lib.hid (show Below w.heap.size w ((w.alloc (.cells #[.string m, .string o] 24)).alloc (.cells #[.string p, .string q] 26)) from ((Below.refl _ _).alloc (Nat.le_refl _) _).alloc (by simp) _)
  by_cases h0 : el = 0
  · subst h0
    have f := HZ.out rfl
    have hx64 := (hasS_lt sm f.has).2.2.1
    have hsq := fun w => rsagroup_square (num x) (num p) (num q) w hx64 f.p64 f.q64 f.op f.oq
    rw [B_num f.vx, B_num f.vp, B_num f.vq] at hsq
    have HSQ := Lib.hid hsq
    clear hsq f hx64
    go_enter Tryd.func10, Tryd.ntmps10
    go_wp2_with (first | (go_at_call 27; refine (HEL.out _ HT.out).mono ?_; rintro e w1 ⟨rfl, hb1⟩; have hcw1 := (bcell hb1).1) | (go_at_call 28; refine (HSQ.out _).mono ?_; rintro e w2 ⟨rfl, hb2⟩))
    go_ret2
    exact ⟨ret_be (by rw [HR1.out] <;> rfl) (by rw [HR2.out]), below2 (below2 F0.out hb1) hb2⟩
  · have hb : (el == 0) = false := by rw [beq_eq_false_iff_ne]; exact h0
    have H0 := Lib.hid h0
    clear h0
    go_enter Tryd.func10, Tryd.ntmps10
    go_wp2_with (first | (go_at_call 27; refine (HEL.out _ HT.out).mono ?_; rintro e w1 ⟨rfl, hb1⟩; have hcw1 := (bcell hb1).1))
    go_ret2
    exact ⟨ret_be (by rw [HR1.out, decide_eq_false H0.out] <;> rfl) (by rw [HR2.out]), below2 F0.out hb1⟩

/-- Whether an element generates the squares, and the error. -/
def isGenS (m o p q x : ByteArray) : Bool × Int :=
  (decide (elementS m o p q x = 0) && (squareS (num x) (num p) (num q) && (!decide (num x % num p = 1) && !decide (num x % num q = 1))), elementS m o p q x)
theorem rsagroup_IsGenerator (m o p q x : ByteArray) (w : World) (sm : m.size ≤ 8) (hT : Tab w) :
    Calls Tryd.prog 14 #[.agg #[.string m, .string o], .agg #[.string p, .string q], .string x] w fun e w' => e = .returned (.tuple #[.bool (isGenS m o p q x).1, .int .i64 (isGenS m o p q x).2]) ∧ Below w.heap.size w w' := by
  have hr1 : (isGenS m o p q x).1 = (decide (elementS m o p q x = 0) && (squareS (num x) (num p) (num q) && (!decide (num x % num p = 1) && !decide (num x % num q = 1)))) := rfl
  have hr2 : (isGenS m o p q x).2 = elementS m o p q x := rfl
  have hel := fun w hT => rsagroup_element m o p q x w sm hT
  have hz := @elementS_zero m o p q x
  generalize elementS m o p q x = el at *
  have HR1 := Lib.hid hr1
  have HR2 := Lib.hid hr2
  have HEL := Lib.hid hel
  have HZ := Lib.hid hz
  have HT := Lib.hid ((hT.alloc (.cells #[.string m, .string o] 24)).alloc (.cells #[.string p, .string q] 26))
  clear hr1 hr2 hel hz hT
  have F0 := Lib.hid (show Below w.heap.size w ((w.alloc (.cells #[.string m, .string o] 24)).alloc (.cells #[.string p, .string q] 26)) from ((Below.refl _ _).alloc (Nat.le_refl _) _).alloc (by simp) _)
  by_cases h0 : el = 0
  · subst h0
    have f := HZ.out rfl
    have hx64 := (hasS_lt sm f.has).2.2.1
    have hsq := fun w => rsagroup_square (num x) (num p) (num q) w hx64 f.p64 f.q64 f.op f.oq
    have hdp := fun w => natural_DivMod' (num x) (num p) w hx64 f.p64 (by have := f.op; omega)
    have hdq := fun w => natural_DivMod' (num x) (num q) w hx64 f.q64 (by have := f.oq; omega)
    rw [B_num f.vx, B_num f.vp, B_num f.vq] at hsq
    rw [B_num f.vx, B_num f.vp] at hdp
    rw [B_num f.vx, B_num f.vq] at hdq
    generalize squareS (num x) (num p) (num q) = s at *
    generalize num x % num p = rp at *
    generalize num x % num q = rq at *
    generalize num x / num p = tp at *
    generalize num x / num q = tq at *
    have HSQ := Lib.hid hsq
    have HDP := Lib.hid hdp
    have HDQ := Lib.hid hdq
    have K1 := B_beq' rp 1
    have K2 := B_beq' rq 1
    have ix := idx_two p q
    have ix0 := fun w => (ix w).1
    have ix1 := fun w => (ix w).2
    clear hsq hdp hdq f hx64 ix
    cases s
    · go_enter Tryd.func14, Tryd.ntmps14
      go_wp2_with (first | (go_at_call 27; refine (HEL.out _ HT.out).mono ?_; rintro e w1 ⟨rfl, hb1⟩; have hcw1 := (bcell hb1).1; have hs1 := hb1.size; have hq1 : w.heap.size < w1.heap.size := by { simp at hs1; omega }; have hq2 : w.heap.size + 1 < w1.heap.size := by { simp at hs1; omega }) | (go_at_call 28; refine (HSQ.out _).mono ?_; rintro e w2 ⟨rfl, hb2⟩))
      go_ret2
      exact ⟨ret_be (by rw [HR1.out] <;> rfl) (by rw [HR2.out]), below2 (below2 F0.out hb1) hb2⟩
    · cases d1 : decide (rp = 1)
      · cases d2 : decide (rq = 1)
        · rw [d1] at K1
          rw [d2] at K2
          go_enter Tryd.func14, Tryd.ntmps14
          go_wp2_with (first | (go_at_call 27; refine (HEL.out _ HT.out).mono ?_; rintro e w1 ⟨rfl, hb1⟩; have hcw1 := (bcell hb1).1; have hs1 := hb1.size; have hq1 : w.heap.size < w1.heap.size := by { simp at hs1; omega }; have hq2 : w.heap.size + 1 < w1.heap.size := by { simp at hs1; omega }) | (go_at_call 28; refine (HSQ.out _).mono ?_; rintro e w2 ⟨rfl, hb2⟩; have hcw2 := (bcell hb2).1) | (go_at_call 31; refine (rsagroup_primes _ _ _).mono ?_; rintro e w3 ⟨rfl, hb3⟩; have hcw3 := (bcell hb3).1))
          refine wp_loop_rounds 3 ?_
          rw [rounds_succ]
          go_wp2_with (first | (go_at_call 32; refine (HDP.out _).mono ?_; rintro e w4 ⟨rfl, hb4⟩; have hcw4 := (bcell hb4).1) | (go_at_call 21; refine (rsagroup_one _).mono ?_; rintro e w5 ⟨rfl, hb5⟩; have hcw5 := (bcell hb5).1))
          rw [rounds_succ]
          go_wp2_with (first | (go_at_call 32; refine (HDQ.out _).mono ?_; rintro e w6 ⟨rfl, hb6⟩; have hcw6 := (bcell hb6).1) | (go_at_call 21; refine (rsagroup_one _).mono ?_; rintro e w7 ⟨rfl, hb7⟩; have hcw7 := (bcell hb7).1))
          rw [rounds_succ]
          go_wp2_with fail
          go_ret2
          exact ⟨ret_be (by rw [HR1.out, d1, d2] <;> rfl) (by rw [HR2.out]), below2 (below2 (below2 (below2 (below2 (below2 (below2 F0.out hb1) hb2) hb3) hb4) hb5) hb6) hb7⟩
        · rw [d1] at K1
          rw [d2] at K2
          go_enter Tryd.func14, Tryd.ntmps14
          go_wp2_with (first | (go_at_call 27; refine (HEL.out _ HT.out).mono ?_; rintro e w1 ⟨rfl, hb1⟩; have hcw1 := (bcell hb1).1; have hs1 := hb1.size; have hq1 : w.heap.size < w1.heap.size := by { simp at hs1; omega }; have hq2 : w.heap.size + 1 < w1.heap.size := by { simp at hs1; omega }) | (go_at_call 28; refine (HSQ.out _).mono ?_; rintro e w2 ⟨rfl, hb2⟩; have hcw2 := (bcell hb2).1) | (go_at_call 31; refine (rsagroup_primes _ _ _).mono ?_; rintro e w3 ⟨rfl, hb3⟩; have hcw3 := (bcell hb3).1))
          refine wp_loop_rounds 3 ?_
          rw [rounds_succ]
          go_wp2_with (first | (go_at_call 32; refine (HDP.out _).mono ?_; rintro e w4 ⟨rfl, hb4⟩; have hcw4 := (bcell hb4).1) | (go_at_call 21; refine (rsagroup_one _).mono ?_; rintro e w5 ⟨rfl, hb5⟩; have hcw5 := (bcell hb5).1))
          rw [rounds_succ]
          go_wp2_with (first | (go_at_call 32; refine (HDQ.out _).mono ?_; rintro e w6 ⟨rfl, hb6⟩; have hcw6 := (bcell hb6).1) | (go_at_call 21; refine (rsagroup_one _).mono ?_; rintro e w7 ⟨rfl, hb7⟩; have hcw7 := (bcell hb7).1))
          go_ret2
          exact ⟨ret_be (by rw [HR1.out, d1, d2] <;> rfl) (by rw [HR2.out]), below2 (below2 (below2 (below2 (below2 (below2 (below2 F0.out hb1) hb2) hb3) hb4) hb5) hb6) hb7⟩
      · rw [d1] at K1
        go_enter Tryd.func14, Tryd.ntmps14
        go_wp2_with (first | (go_at_call 27; refine (HEL.out _ HT.out).mono ?_; rintro e w1 ⟨rfl, hb1⟩; have hcw1 := (bcell hb1).1; have hs1 := hb1.size; have hq1 : w.heap.size < w1.heap.size := by { simp at hs1; omega }; have hq2 : w.heap.size + 1 < w1.heap.size := by { simp at hs1; omega }) | (go_at_call 28; refine (HSQ.out _).mono ?_; rintro e w2 ⟨rfl, hb2⟩; have hcw2 := (bcell hb2).1) | (go_at_call 31; refine (rsagroup_primes _ _ _).mono ?_; rintro e w3 ⟨rfl, hb3⟩; have hcw3 := (bcell hb3).1))
        refine wp_loop_rounds 3 ?_
        rw [rounds_succ]
        go_wp2_with (first | (go_at_call 32; refine (HDP.out _).mono ?_; rintro e w4 ⟨rfl, hb4⟩; have hcw4 := (bcell hb4).1) | (go_at_call 21; refine (rsagroup_one _).mono ?_; rintro e w5 ⟨rfl, hb5⟩; have hcw5 := (bcell hb5).1))
        go_ret2
        exact ⟨ret_be (by rw [HR1.out, d1] <;> rfl) (by rw [HR2.out]), below2 (below2 (below2 (below2 (below2 F0.out hb1) hb2) hb3) hb4) hb5⟩
  · have hb : (el != 0) = true := by rw [bne_iff_ne]; exact h0
    have H0 := Lib.hid h0
    clear h0
    go_enter Tryd.func14, Tryd.ntmps14
    go_wp2_with (first | (go_at_call 27; refine (HEL.out _ HT.out).mono ?_; rintro e w1 ⟨rfl, hb1⟩; have hcw1 := (bcell hb1).1; have hs1 := hb1.size; have hq1 : w.heap.size < w1.heap.size := by { simp at hs1; omega }; have hq2 : w.heap.size + 1 < w1.heap.size := by { simp at hs1; omega }))
    go_ret2
    exact ⟨ret_be (by rw [HR1.out, decide_eq_false H0.out] <;> rfl) (by rw [HR2.out]), below2 F0.out hb1⟩


end Go.Proofs.YtgbkjicpmjncaaaDoor
