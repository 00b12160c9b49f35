/- The walks of the reference of layer 10 (rsagroup). -/
import Derived.Test.YtfggpgiinihflaaGreatDoorRB
import Derived.Test.YtfggpgiinihflaaGreatDoorBM
namespace Go.Proofs.YtfggpgiinihflaaGreatDoor
open Go.RowKit
set_option maxRecDepth 100000
set_option linter.unusedVariables false
set_option maxHeartbeats 400000

theorem r10_Good (m o : ByteArray) (w : World) (sm : m.size ≤ 100000) :
    Calls Tryz.prog 108 #[.agg #[.string m, .string o]] w fun e w' => e = .returned (.bool (goodS m o)) ∧ Below w.heap.size w w' := by
  have hr : goodS m o = (valid m && o.toList.isEmpty && natBit m 0 && decide (0 < natCmp m (B 8))) := rfl
  have HR := Lib.hid hr
  clear hr
  cases h1 : valid m
  · go_enter Tryz.func108, Tryz.ntmps108
    go_wp2_with fail
    go_quiet ((go_at_call 54; exact quiet_of_eq (r01_Valid _ _)))
    go_wp2_with fail
    go_ret
    exact ⟨ret_bool (by rw [HR.out, h1]; rfl), below_drewN ((Below.refl _ _).alloc (Nat.le_refl _) _) _⟩
  · cases h2 : o.toList.isEmpty
    · go_enter Tryz.func108, Tryz.ntmps108
      go_wp2_with fail
      go_quiet ((go_at_call 54; exact quiet_of_eq (r01_Valid _ _)))
      go_wp2_with fail
      go_ret
      exact ⟨ret_bool (by rw [HR.out, h1, h2]; rfl), below_drewN ((Below.refl _ _).alloc (Nat.le_refl _) _) _⟩
    · cases h3 : natBit m 0
      · go_enter Tryz.func108, Tryz.ntmps108
        go_wp2_with fail
        go_quiet ((first | (go_at_call 54; exact quiet_of_eq (r01_Valid _ _)) | (go_at_call 57; exact quiet_of_eq (r01_Bit m 0 0 _ rfl (by omega)))))
        go_wp2_with fail
        go_ret
        exact ⟨ret_bool (by rw [HR.out, h1, h2, h3]; rfl), below_drewN ((Below.refl _ _).alloc (Nat.le_refl _) _) _⟩
      · go_enter Tryz.func108, Tryz.ntmps108
        go_wp2_with fail
        go_region_with (first | (go_at_call 54; refine (r01_Valid _ _).mono ?_; rintro e w' ⟨rfl, rfl⟩) | (go_at_call 57; refine (r01_Bit m 0 0 _ rfl (by omega)).mono ?_; rintro e w' ⟨rfl, rfl⟩) | (go_at_call 40; (with_reducible refine (r01_Of' 8 8 _ rfl (by decide)).mono ?_); rintro e w' ⟨rfl, hb1⟩; have hcw := (bcell hb1).1) | (go_at_call 26; refine (r01_Cmp _ _ _).mono ?_; rintro e w2 ⟨rfl, hb2⟩))
        all_goals
          clear hcw
          go_wp2_with fail
          go_ret
          exact ⟨ret_bool (by rw [HR.out, h1, h2, h3]; rfl), below2 (((Below.refl w.heap.size w).alloc (Nat.le_refl _) _).drew.trans (hb1.mono (by simp))) hb2⟩
theorem r10_Has (m o x : ByteArray) (w : World) (sm : m.size ≤ 8) :
    Calls Tryz.prog 88 #[.agg #[.string m, .string o], .string x] w fun e w' => e = .returned (.bool (hasS m o x)) ∧ Below w.heap.size w w' := by
  have hr : hasS m o x = (goodS m o && valid x && !x.toList.isEmpty && decide (natCmp x m < 0) && decide (Nat.gcd (num x) (num m) = 1)) := rfl
  have HR := Lib.hid hr
  clear hr
  cases h1 : goodS m o
  · go_enter Tryz.func88, Tryz.ntmps88
    go_wp2_with (first | (go_at_call 108; refine (r10_Good _ _ _ (by omega)).mono ?_; rintro e w1 ⟨rfl, hb1⟩; have hcw := (bcell hb1).1; have hs1 := hb1.size; have hq1 : w.heap.size < w1.heap.size := by { simp at hs1; omega }))
    go_ret
    exact ⟨ret_bool (by rw [HR.out, h1]; rfl), below_box' hb1⟩
  · cases h2 : valid x
    · go_enter Tryz.func88, Tryz.ntmps88
      go_wp2_with (first | (go_at_call 108; refine (r10_Good _ _ _ (by omega)).mono ?_; rintro e w1 ⟨rfl, hb1⟩; have hcw := (bcell hb1).1; have hs1 := hb1.size; have hq1 : w.heap.size < w1.heap.size := by { simp at hs1; omega }) | (go_at_call 54; refine (r01_Valid _ _).mono ?_; rintro e w' ⟨rfl, rfl⟩))
      go_ret
      exact ⟨ret_bool (by rw [HR.out, h1, h2]; rfl), below_box' hb1⟩
    · cases h3 : x.toList.isEmpty
      · have hcm := Lib.hid (fun h => natCmp_neg h2 (goodS_valid h1) h)
        by_cases h4 : natCmp x m < 0
        · have hlt := hcm.out h4
          have hm8 := natSmall_bound m sm
          have ex := B_num h2
          have em := B_num (goodS_valid h1)
          have H4 := Lib.hid h4
          have hge : ¬ 0 ≤ natCmp x m := by omega
          clear hcm
          have HX := Lib.hid ex
          have HM := Lib.hid em
          have HL := Lib.hid (Nat.lt_trans hlt hm8)
          have H8 := Lib.hid hm8
          clear ex em hlt hm8
          go_enter Tryz.func88, Tryz.ntmps88
          go_wp2_with (first | (go_at_call 108; refine (r10_Good _ _ _ (by omega)).mono ?_; rintro e w1 ⟨rfl, hb1⟩; have hcw := (bcell hb1).1; have hs1 := hb1.size; have hq1 : w.heap.size < w1.heap.size := by { simp at hs1; omega }) | (go_at_call 54; refine (r01_Valid _ _).mono ?_; rintro e w' ⟨rfl, rfl⟩) | (go_at_call 26; refine (r01_Cmp _ _ _).mono ?_; rintro e w4 ⟨rfl, hb4⟩; have hcw4 := (bcell hb4).1; have hs4 := hb4.size; have hq5 : w.heap.size < w4.heap.size := by { omega }) | (go_at_call 109; refine (r01_Gcd _ _ _ HX HM HL H8).mono ?_; rintro e w' ⟨rfl, hb2⟩) | (go_at_call 40; (with_reducible refine (r01_Of' 1 1 _ rfl (by decide)).mono ?_); rintro e w3 ⟨rfl, hb3⟩))
          go_ret
          exact ⟨ret_bool (by rw [HR.out, h1, h2, h3, decide_eq_true H4.out, B_beq]; rfl), below2 (below2 (below2 (below_box' hb1) hb4) hb2) hb3⟩
        · clear hcm
          have H4 := Lib.hid h4
          go_enter Tryz.func88, Tryz.ntmps88
          go_wp2_with (first | (go_at_call 108; refine (r10_Good _ _ _ (by omega)).mono ?_; rintro e w1 ⟨rfl, hb1⟩; have hcw := (bcell hb1).1; have hs1 := hb1.size; have hq1 : w.heap.size < w1.heap.size := by { simp at hs1; omega }) | (go_at_call 54; refine (r01_Valid _ _).mono ?_; rintro e w' ⟨rfl, rfl⟩) | (go_at_call 26; refine (r01_Cmp _ _ _).mono ?_; rintro e w4 ⟨rfl, hb4⟩; have hcw4 := (bcell hb4).1; have hs4 := hb4.size; have hq5 : w.heap.size < w4.heap.size := by { omega }))
          go_ret
          exact ⟨ret_bool (by rw [HR.out, h1, h2, h3, decide_eq_false (show ¬ natCmp x m < 0 by have := H4.out; omega)]; rfl), below2 (below_box' hb1) hb4⟩
      · go_enter Tryz.func88, Tryz.ntmps88
        go_wp2_with (first | (go_at_call 108; refine (r10_Good _ _ _ (by omega)).mono ?_; rintro e w1 ⟨rfl, hb1⟩; have hcw := (bcell hb1).1; have hs1 := hb1.size; have hq1 : w.heap.size < w1.heap.size := by { simp at hs1; omega }) | (go_at_call 54; refine (r01_Valid _ _).mono ?_; rintro e w' ⟨rfl, rfl⟩))
        go_ret
        exact ⟨ret_bool (by rw [HR.out, h1, h2, h3]; rfl), below_box' hb1⟩


end Go.Proofs.YtfggpgiinihflaaGreatDoor
