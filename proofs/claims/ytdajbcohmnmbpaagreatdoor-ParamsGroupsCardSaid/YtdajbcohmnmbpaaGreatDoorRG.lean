/- The walks of the reference of layer 10 (rsagroup). -/
import Derived.Test.YtdajbcohmnmbpaaGreatDoorRB
import Derived.Test.YtdajbcohmnmbpaaGreatDoorBM
namespace Go.Proofs.YtdajbcohmnmbpaaGreatDoor
open Go.RowKit
set_option maxRecDepth 100000
set_option linter.unusedVariables false
set_option maxHeartbeats 400000

theorem r10_Good (m o : ByteArray) (w : World) (sm : m.size ≤ 100000) :
    Calls Tryz.prog 236 #[.agg #[.string m, .string o]] w fun e w' => e = .returned (.bool (goodS m o)) ∧ Below w.heap.size w w' := by
  have hr : goodS m o = (valid m && o.toList.isEmpty && natBit m 0 && decide (0 < natCmp m (B 8))) := rfl
  have HR := Lib.hid hr
  clear hr
  cases h1 : valid m
  · go_enter Tryz.func236, Tryz.ntmps236
    go_wp2_with fail
    go_quiet ((go_at_call 117; exact quiet_of_eq (r01_Valid _ _)))
    go_wp2_with fail
    go_ret
    exact ⟨ret_bool (by rw [HR.out, h1]; rfl), below_drewN ((Below.refl _ _).alloc (Nat.le_refl _) _) _⟩
  · cases h2 : o.toList.isEmpty
    · go_enter Tryz.func236, Tryz.ntmps236
      go_wp2_with fail
      go_quiet ((go_at_call 117; exact quiet_of_eq (r01_Valid _ _)))
      go_wp2_with fail
      go_ret
      exact ⟨ret_bool (by rw [HR.out, h1, h2]; rfl), below_drewN ((Below.refl _ _).alloc (Nat.le_refl _) _) _⟩
    · cases h3 : natBit m 0
      · go_enter Tryz.func236, Tryz.ntmps236
        go_wp2_with fail
        go_quiet ((first | (go_at_call 117; exact quiet_of_eq (r01_Valid _ _)) | (go_at_call 157; exact quiet_of_eq (r01_Bit m 0 0 _ rfl (by omega)))))
        go_wp2_with fail
        go_ret
        exact ⟨ret_bool (by rw [HR.out, h1, h2, h3]; rfl), below_drewN ((Below.refl _ _).alloc (Nat.le_refl _) _) _⟩
      · go_enter Tryz.func236, Tryz.ntmps236
        go_wp2_with fail
        go_region_with (first | (go_at_call 117; refine (r01_Valid _ _).mono ?_; rintro e w' ⟨rfl, rfl⟩) | (go_at_call 157; refine (r01_Bit m 0 0 _ rfl (by omega)).mono ?_; rintro e w' ⟨rfl, rfl⟩) | (go_at_call 54; (with_reducible refine (r01_Of' 8 8 _ rfl (by decide)).mono ?_); rintro e w' ⟨rfl, hb1⟩; have hcw := (bcell hb1).1) | (go_at_call 95; refine (r01_Cmp _ _ _).mono ?_; rintro e w2 ⟨rfl, hb2⟩))
        all_goals
          clear hcw
          go_wp2_with fail
          go_ret
          exact ⟨ret_bool (by rw [HR.out, h1, h2, h3]; rfl), below2 (((Below.refl w.heap.size w).alloc (Nat.le_refl _) _).drew.trans (hb1.mono (by simp))) hb2⟩
theorem r10_primes (p q : ByteArray) (w : World) :
    Calls Tryz.prog 160 #[.agg #[.string p, .string q]] w fun e w' => e = .returned (.int .i64 (trapS p q)) ∧ Below w.heap.size w w' := by
  have hr : trapS p q = if (safeS p).2 ≠ 0 then (safeS p).2 else if (safeS q).2 ≠ 0 then (safeS q).2 else if (safeS p).1 && ((safeS q).1 && !(p.toList == q.toList)) then 0 else 12 := rfl
  have F0 := Lib.hid (show Below w.heap.size w (w.alloc (.cells #[.string p, .string q] 37)) from (Below.refl _ _).alloc (Nat.le_refl _) _)
  have hsp := r04_Safe p
  have hsq := r04_Safe q
  generalize (safeS p).1 = a1 at *
  generalize (safeS p).2 = e1 at *
  generalize (safeS q).1 = a2 at *
  generalize (safeS q).2 = e2 at *
  have HR := Lib.hid hr
  have HP := Lib.hid hsp
  have HQ := Lib.hid hsq
  clear hr hsp hsq
  by_cases h1 : e1 = 0
  · subst h1
    by_cases h2 : e2 = 0
    · subst h2
      cases a1 <;> cases a2 <;> cases hpq : (p.toList == q.toList)
      all_goals
        go_enter Tryz.func160, Tryz.ntmps160
        go_wp2_with (first | (go_at_call 212; (with_reducible refine (HP.out _).mono ?_); rintro e w1 ⟨rfl, hb1⟩; have hcw1 := (bcell hb1).1; have hs1 := hb1.size; have hq1 : w.heap.size < w1.heap.size := by { simp at hs1; omega }) | (go_at_call 212; (with_reducible refine (HQ.out _).mono ?_); rintro e w2 ⟨rfl, hb2⟩; have hcw2 := (bcell hb2).1))
        go_ret
        exact ⟨ret_int (by rw [HR.out]; simp [hpq]), below2 (below2 F0.out hb1) hb2⟩
    · have heb : (e2 != 0) = true := by rw [bne_iff_ne]; exact h2
      have HE := Lib.hid h2
      clear h2
      go_enter Tryz.func160, Tryz.ntmps160
      go_wp2_with (first | (go_at_call 212; (with_reducible refine (HP.out _).mono ?_); rintro e w1 ⟨rfl, hb1⟩; have hcw1 := (bcell hb1).1; have hs1 := hb1.size; have hq1 : w.heap.size < w1.heap.size := by { simp at hs1; omega }) | (go_at_call 212; (with_reducible refine (HQ.out _).mono ?_); rintro e w2 ⟨rfl, hb2⟩; have hcw2 := (bcell hb2).1))
      go_ret
      exact ⟨ret_int (by rw [HR.out, if_neg (by simp), if_pos HE.out] <;> rfl), below2 (below2 F0.out hb1) hb2⟩
  · have heb : (e1 != 0) = true := by rw [bne_iff_ne]; exact h1
    have HE := Lib.hid h1
    clear h1
    go_enter Tryz.func160, Tryz.ntmps160
    go_wp2_with (first | (go_at_call 212; (with_reducible refine (HP.out _).mono ?_); rintro e w1 ⟨rfl, hb1⟩; have hcw1 := (bcell hb1).1))
    go_ret
    exact ⟨ret_int (by rw [HR.out, if_pos HE.out] <;> rfl), below2 F0.out hb1⟩
theorem r10_half (n : Nat) (w : World) (h : n < 18446744073709551616) :
    Calls Tryz.prog 161 #[.string (B n)] w fun e w' => e = .returned (.string (B (n / 2))) ∧ Below w.heap.size w w' := by
  have H := Lib.hid h
  clear h
  go_enter Tryz.func161, Tryz.ntmps161
  go_wp2_with (first | (go_at_call 54; (with_reducible refine (r01_Of' 2 2 _ rfl (by decide)).mono ?_); rintro e w1 ⟨rfl, hb1⟩) | (go_at_call 90; (with_reducible refine (r01_DivMod8 n 2 _ H.out (by decide) (by decide)).mono ?_); rintro e w2 ⟨rfl, hb2⟩))
  go_ret
  exact ⟨rfl, below2 hb1 hb2⟩
set_option maxHeartbeats 1600000 in
theorem r10_Order (p q : ByteArray) (w : World) :
    Calls Tryz.prog 86 #[.agg #[.string p, .string q]] w fun e w' => e = .returned (.tuple #[.string (orderS p q).1, .int .i64 (orderS p q).2]) ∧ Below w.heap.size w w' := by
  have hr : orderS p q = if valid p && valid q then (if trapS p q = 0 then natMul (B ((num p - 1) / 2)) (B ((num q - 1) / 2)) else (E0, trapS p q)) else (E0, 3) := rfl
  have HR := Lib.hid hr
  clear hr
  have F0 := Lib.hid (show Below w.heap.size w (w.alloc (.cells #[.string p, .string q] 37)) from (Below.refl _ _).alloc (Nat.le_refl _) _)
  by_cases hv : (valid p && valid q) = true
  · have hv' := hv
    rw [Bool.and_eq_true] at hv'
    obtain ⟨v1, v2⟩ := hv'
    rw [if_pos hv] at HR
    clear hv
    by_cases ht : trapS p q = 0
    · obtain ⟨hp, hq, _⟩ := trapS_zero ht
      obtain ⟨_, p2, p3, _, _⟩ := safeS_zero hp.1 hp.2
      obtain ⟨_, q2, q3, _, _⟩ := safeS_zero hq.1 hq.2
      rw [if_pos ht] at HR
      have ep := B_num v1
      have eq := B_num v2
      have hmul := r01_Mul (B ((num p - 1) / 2)) (B ((num q - 1) / 2))
      rw [← HR.out] at hmul
      have HMUL := Lib.hid hmul
      have hhp := fun w => r10_half (num p) w p3
      have hhq := fun w => r10_half (num q) w q3
      have odp := safeS_odd hp.1 hp.2
      have odq := safeS_odd hq.1 hq.2
      rw [ep, show num p / 2 = (num p - 1) / 2 by omega] at hhp
      rw [eq, show num q / 2 = (num q - 1) / 2 by omega] at hhq
      have HHP := Lib.hid hhp
      have HHQ := Lib.hid hhq
      have hsf := r10_primes p q
      rw [ht] at hsf
      have HSF := Lib.hid hsf
      clear hmul hhp hhq hsf ht hp hq p2 p3 q2 q3 ep eq odp odq
      go_enter Tryz.func86, Tryz.ntmps86
      go_wp2_with (first | (go_at_call 117; refine (r01_Valid _ _).mono ?_; rintro e w' ⟨rfl, rfl⟩) | (go_at_call 160; refine (HSF.out _).mono ?_; rintro e w1 ⟨rfl, hb1⟩; have hcw1 := (bcell hb1).1; have hs1 := hb1.size; have hq1 : w.heap.size < w1.heap.size := by { simp at hs1; omega }))
      have hcell1 : w1.cell? ⟨w.heap.size, 1, none⟩ = some (.string q) := (hb1.cell (p := ⟨w.heap.size, 1, none⟩) (by simp)).trans (by simp)
      have hcell0 : w1.cell? ⟨w.heap.size, 0, none⟩ = some (.string p) := (hb1.cell (p := ⟨w.heap.size, 0, none⟩) (by simp)).trans (by simp)
      clear hcw1
      go_region_with (first | (go_at_call 161; (with_reducible refine (HHP.out _).mono ?_); rintro e w2 ⟨rfl, hb2⟩; have hcell2 : w2.cell? ⟨w.heap.size, 1, none⟩ = some (.string q) := (hb2.cell (p := ⟨w.heap.size, 1, none⟩) (by simpa using hq1)).trans hcell1) | (go_at_call 161; (with_reducible refine (HHQ.out _).mono ?_); rintro e w3 ⟨rfl, hb3⟩) | (go_at_call 57; refine (HMUL.out _).mono ?_; rintro e w4 ⟨rfl, hb4⟩))
      all_goals
        go_wp2_with fail
        go_ret2
        have b1 : Below w.heap.size w w1 := below2 F0.out hb1
        have b2 : Below w.heap.size w w2 := below2 (Below.drew b1) hb2
        have b3 : Below w.heap.size w w3 := below2 b2 hb3
        exact ⟨ret_se rfl rfl, below2 b3 hb4⟩
    · have hsf := r10_primes p q
      have HSF := Lib.hid hsf
      have htb : (trapS p q != 0) = true := by rw [bne_iff_ne]; exact ht
      rw [if_neg ht] at HR
      clear hsf ht
      go_enter Tryz.func86, Tryz.ntmps86
      go_wp2_with (first | (go_at_call 117; refine (r01_Valid _ _).mono ?_; rintro e w' ⟨rfl, rfl⟩) | (go_at_call 160; refine (HSF.out _).mono ?_; rintro e w1 ⟨rfl, hb1⟩))
      go_ret2
      exact ⟨ret_se (by rw [HR.out] <;> rfl) (by rw [HR.out] <;> rfl), below2 F0.out hb1⟩
  · rw [if_neg hv] at HR
    cases v1 : valid p
    · clear hv
      go_enter Tryz.func86, Tryz.ntmps86
      go_wp2_with (first | (go_at_call 117; refine (r01_Valid _ _).mono ?_; rintro e w' ⟨rfl, rfl⟩))
      go_ret2
      exact ⟨ret_se (by rw [HR.out] <;> rfl) (by rw [HR.out] <;> rfl), F0.out⟩
    · cases v2 : valid q
      · clear hv
        go_enter Tryz.func86, Tryz.ntmps86
        go_wp2_with (first | (go_at_call 117; refine (r01_Valid _ _).mono ?_; rintro e w' ⟨rfl, rfl⟩))
        go_ret2
        exact ⟨ret_se (by rw [HR.out] <;> rfl) (by rw [HR.out] <;> rfl), F0.out⟩
      · exact absurd (by rw [v1, v2]; rfl) hv

theorem r10_Has (m o x : ByteArray) (w : World) (sm : m.size ≤ 8) :
    Calls Tryz.prog 211 #[.agg #[.string m, .string o], .string x] w fun e w' => e = .returned (.bool (hasS m o x)) ∧ Below w.heap.size w w' := by
  have hr : hasS m o x = (goodS m o && valid x && !x.toList.isEmpty && decide (natCmp x m < 0) && decide (Nat.gcd (num x) (num m) = 1)) := rfl
  have HR := Lib.hid hr
  clear hr
  cases h1 : goodS m o
  · go_enter Tryz.func211, Tryz.ntmps211
    go_wp2_with (first | (go_at_call 236; refine (r10_Good _ _ _ (by omega)).mono ?_; rintro e w1 ⟨rfl, hb1⟩; have hcw := (bcell hb1).1; have hs1 := hb1.size; have hq1 : w.heap.size < w1.heap.size := by { simp at hs1; omega }))
    go_ret
    exact ⟨ret_bool (by rw [HR.out, h1]; rfl), below_box' hb1⟩
  · cases h2 : valid x
    · go_enter Tryz.func211, Tryz.ntmps211
      go_wp2_with (first | (go_at_call 236; refine (r10_Good _ _ _ (by omega)).mono ?_; rintro e w1 ⟨rfl, hb1⟩; have hcw := (bcell hb1).1; have hs1 := hb1.size; have hq1 : w.heap.size < w1.heap.size := by { simp at hs1; omega }) | (go_at_call 117; refine (r01_Valid _ _).mono ?_; rintro e w' ⟨rfl, rfl⟩))
      go_ret
      exact ⟨ret_bool (by rw [HR.out, h1, h2]; rfl), below_box' hb1⟩
    · cases h3 : x.toList.isEmpty
      · have hcm := Lib.hid (fun h => natCmp_neg h2 (goodS_valid h1) h)
        by_cases h4 : natCmp x m < 0
        · have hlt := hcm.out h4
          have hm8 := natSmall_bound m sm
          have ex := B_num h2
          have em := B_num (goodS_valid h1)
          have H4 := Lib.hid h4
          have hge : ¬ 0 ≤ natCmp x m := by omega
          clear hcm
          have HX := Lib.hid ex
          have HM := Lib.hid em
          have HL := Lib.hid (Nat.lt_trans hlt hm8)
          have H8 := Lib.hid hm8
          clear ex em hlt hm8
          go_enter Tryz.func211, Tryz.ntmps211
          go_wp2_with (first | (go_at_call 236; refine (r10_Good _ _ _ (by omega)).mono ?_; rintro e w1 ⟨rfl, hb1⟩; have hcw := (bcell hb1).1; have hs1 := hb1.size; have hq1 : w.heap.size < w1.heap.size := by { simp at hs1; omega }) | (go_at_call 117; refine (r01_Valid _ _).mono ?_; rintro e w' ⟨rfl, rfl⟩) | (go_at_call 95; refine (r01_Cmp _ _ _).mono ?_; rintro e w4 ⟨rfl, hb4⟩; have hcw4 := (bcell hb4).1; have hs4 := hb4.size; have hq5 : w.heap.size < w4.heap.size := by { omega }) | (go_at_call 237; refine (r01_Gcd _ _ _ HX HM HL H8).mono ?_; rintro e w' ⟨rfl, hb2⟩) | (go_at_call 54; (with_reducible refine (r01_Of' 1 1 _ rfl (by decide)).mono ?_); rintro e w3 ⟨rfl, hb3⟩))
          go_ret
          exact ⟨ret_bool (by rw [HR.out, h1, h2, h3, decide_eq_true H4.out, B_beq]; rfl), below2 (below2 (below2 (below_box' hb1) hb4) hb2) hb3⟩
        · clear hcm
          have H4 := Lib.hid h4
          go_enter Tryz.func211, Tryz.ntmps211
          go_wp2_with (first | (go_at_call 236; refine (r10_Good _ _ _ (by omega)).mono ?_; rintro e w1 ⟨rfl, hb1⟩; have hcw := (bcell hb1).1; have hs1 := hb1.size; have hq1 : w.heap.size < w1.heap.size := by { simp at hs1; omega }) | (go_at_call 117; refine (r01_Valid _ _).mono ?_; rintro e w' ⟨rfl, rfl⟩) | (go_at_call 95; refine (r01_Cmp _ _ _).mono ?_; rintro e w4 ⟨rfl, hb4⟩; have hcw4 := (bcell hb4).1; have hs4 := hb4.size; have hq5 : w.heap.size < w4.heap.size := by { omega }))
          go_ret
          exact ⟨ret_bool (by rw [HR.out, h1, h2, h3, decide_eq_false (show ¬ natCmp x m < 0 by have := H4.out; omega)]; rfl), below2 (below_box' hb1) hb4⟩
      · go_enter Tryz.func211, Tryz.ntmps211
        go_wp2_with (first | (go_at_call 236; refine (r10_Good _ _ _ (by omega)).mono ?_; rintro e w1 ⟨rfl, hb1⟩; have hcw := (bcell hb1).1; have hs1 := hb1.size; have hq1 : w.heap.size < w1.heap.size := by { simp at hs1; omega }) | (go_at_call 117; refine (r01_Valid _ _).mono ?_; rintro e w' ⟨rfl, rfl⟩))
        go_ret
        exact ⟨ret_bool (by rw [HR.out, h1, h2, h3]; rfl), below_box' hb1⟩


end Go.Proofs.YtdajbcohmnmbpaaGreatDoor
