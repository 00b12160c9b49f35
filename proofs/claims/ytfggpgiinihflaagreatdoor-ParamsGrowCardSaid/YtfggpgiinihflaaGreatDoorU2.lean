/- The walks of package power: the form of a group, elements. -/
import Derived.Test.YtfggpgiinihflaaGreatDoorU1
import Derived.Test.YtfggpgiinihflaaGreatDoorBE
import Derived.Deep.RegionHeld3
namespace Go.Proofs.YtfggpgiinihflaaGreatDoor
open Go.RowKit
set_option maxRecDepth 100000
set_option linter.unusedVariables false
set_option maxHeartbeats 1000000

/-- A pair of strings in memory: a group. -/
structure GrAt (w : World) (g : Nat) (m o : ByteArray) (wx : World) : Prop where
  c0 : wx.cell? ⟨g, 0, none⟩ = some (.string m)
  c1 : wx.cell? ⟨g, 1, none⟩ = some (.string o)
  below : Below w.heap.size w wx
  size : g < wx.heap.size
theorem GrAt.next {w wx w' : World} {g : Nat} {m o : ByteArray} (h : GrAt w g m o wx) (hb : Below wx.heap.size wx w') : GrAt w g m o w' := by
  have hz := h.size
  exact ⟨(hb.cell (p := ⟨g, 0, none⟩) hz).trans h.c0, (hb.cell (p := ⟨g, 1, none⟩) hz).trans h.c1, below2 h.below hb, by have := hb.size; omega⟩
theorem GrAt.drew {w wx : World} {g : Nat} {m o : ByteArray} (h : GrAt w g m o wx) : GrAt w g m o wx.drew := ⟨h.c0, h.c1, Below.drew h.below, h.size⟩
theorem GrAt.drewN {w wx : World} {g : Nat} {m o : ByteArray} (h : GrAt w g m o wx) (n : Nat) : GrAt w g m o (wx.drewN n) := ⟨h.c0, h.c1, below_drewN h.below n, h.size⟩
theorem GrAt.box (w : World) (m o : ByteArray) (T : TypeId) : GrAt w w.heap.size m o (w.alloc (.cells #[.string m, .string o] T)) :=
  ⟨by simp [go_sem], by simp [go_sem], (Below.refl _ _).alloc (Nat.le_refl _) _, by simp⟩
theorem u64_of_size {m : ByteArray} (h : m.size ≤ 8) : num m < 18446744073709551616 := natSmall_bound m h
theorem natSub_one {m : ByteArray} (h : valid m = true) : natSub m (B 1) = if num m < 1 then (E0, 2) else (B (num m - 1), 0) := by
  unfold natSub
  rw [h, valid_B (u64_lt_lim (by decide)), num_B]
  rfl
theorem natDivMod_ok {a b : ByteArray} (ha : valid a = true) (hb : valid b = true) (h : num b ≠ 0) : natDivMod a b = (B (num a / num b), B (num a % num b), 0) := by
  unfold natDivMod
  rw [ha, hb, if_pos (by rfl), if_neg h]
theorem natural_DivMod_less (M : Nat) (o : ByteArray) (w : World) (hM : M < 18446744073709551616) (ho : valid o = true) (h : num o ≠ 0) :
    Calls Tryz.prog 101 #[.string (B M), .string o] w fun e w' => e = .returned (.tuple #[.string (B (M / num o)), .string (B (M % num o)), .int .i64 0]) ∧ Below w.heap.size w w' := by
  have := natural_DivMod (B M) o w (fun _ => .inl (by rw [num_B]; exact hM))
  rw [natDivMod_ok (valid_B (u64_lt_lim hM)) ho h, num_B] at this
  exact this
theorem primegroup_formed (m o : ByteArray) (w : World) :
    Calls Tryz.prog 79 #[.agg #[.string m, .string o]] w fun e w' => e = .returned (.bool (valid m && valid o)) ∧ Below w.heap.size w w' := by
  have HS := Lib.hid (GrAt.box w m o 37)
  cases h1 : valid m <;> cases h2 : valid o
  all_goals
    go_enter Tryz.func79, Tryz.ntmps79
    go_wp2_with (first | (go_at_call 48; refine (natural_Valid _ _).mono ?_; rintro e w' ⟨rfl, rfl⟩))
    go_ret
    exact ⟨rfl, HS.out.below⟩
theorem num_empty' : num ⟨#[]⟩ = 0 := by decide
theorem primegroup_Has (m o x : ByteArray) (w : World) (sm : m.size ≤ 8) :
    Calls Tryz.prog 81 #[.agg #[.string m, .string o], .string x] w fun e w' => e = .returned (.bool (pgHas m o x)) ∧ Below w.heap.size w w' := by
  have hr : pgHas m o x = (valid m && (valid o && (valid x && (!o.toList.isEmpty && (!x.toList.isEmpty && (decide (natCmp x m < 0) && decide (num x ^ num o % num m = 1 % num m))))))) := rfl
  have HR := Lib.hid hr
  have HS := Lib.hid (GrAt.box w m o 37)
  have hfo := fun w => primegroup_formed m o w
  clear hr
  cases h1 : (valid m && valid o)
  · rw [h1] at hfo
    have HFO := Lib.hid hfo
    have HF : Hid (pgHas m o x = false) := Lib.hid (by rw [HR.out, ← Bool.and_assoc, h1]; rfl)
    clear hfo h1
    go_enter Tryz.func81, Tryz.ntmps81
    go_wp2_with (first | (go_at_call 79; (with_reducible refine (HFO.out _).mono ?_); rintro e w1 ⟨rfl, hb1⟩; have n1 := HS.out.next hb1; have p1 := n1.c0; have q1 := n1.c1; have H1 := Lib.hid n1; clear n1 hb1))
    go_ret
    exact ⟨ret_bool HF.out.symm, H1.out.below⟩
  · rw [h1] at hfo
    have HFO := Lib.hid hfo
    have h1' := h1
    rw [Bool.and_eq_true] at h1'
    obtain ⟨vm, vo⟩ := h1'
    have HVM := Lib.hid vm
    have HVO := Lib.hid vo
    have HR2 : Hid (pgHas m o x = (valid x && (!o.toList.isEmpty && (!x.toList.isEmpty && (decide (natCmp x m < 0) && decide (num x ^ num o % num m = 1 % num m)))))) := Lib.hid (by rw [HR.out, vm, vo]; rfl)
    clear hfo h1 vm vo HR
    cases h2 : valid x
    · go_enter Tryz.func81, Tryz.ntmps81
      go_wp2_with (first | (go_at_call 79; (with_reducible refine (HFO.out _).mono ?_); rintro e w1 ⟨rfl, hb1⟩; have n1 := HS.out.next hb1; have p1 := n1.c0; have q1 := n1.c1; have H1 := Lib.hid n1; clear n1 hb1) | (go_at_call 48; refine (natural_Valid _ _).mono ?_; rintro e w' ⟨rfl, rfl⟩))
      go_ret
      exact ⟨ret_bool (by rw [HR2.out, h2]; rfl), H1.out.below⟩
    · cases h3 : o.toList.isEmpty
      · cases h4 : x.toList.isEmpty
        · obtain ⟨cv, hcv⟩ : ∃ cv, natCmp x m = cv := ⟨_, rfl⟩
          have hcm := natural_Cmp x m
          have hcn := fun h => natCmp_neg h2 HVM.out h
          rw [hcv] at hcm HR2 hcn
          have HCMP := Lib.hid hcm
          have H8 := u64_of_size sm
          clear hcm hcv
          by_cases h5 : cv < 0
          · have hlt := hcn h5
            have k1 : decide (0 ≤ cv) = false := decide_eq_false (by omega)
            have h0 : 0 < num m := by omega
            have e1 := fun w => modular_Exp (num x) (num m) o w (by omega) H8 h0 HVO.out
            have e2 := fun w => modular_Exp (num x) (num m) ⟨#[]⟩ w (by omega) H8 h0 valid_empty
            rw [B_num h2, B_num HVM.out] at e1 e2
            rw [num_empty', Nat.pow_zero] at e2
            have HE1 := Lib.hid e1
            have HE2 := Lib.hid e2
            have kb := B_beq (num x ^ num o % num m) (1 % num m)
            have HR3 : Hid (pgHas m o x = decide (num x ^ num o % num m = 1 % num m)) := Lib.hid (by rw [HR2.out, h2, h3, h4, decide_eq_true h5]; rfl)
            generalize num x ^ num o % num m = P at *
            generalize 1 % num m = U at *
            clear e1 e2 hcn hlt h0 H8 h5
            go_enter Tryz.func81, Tryz.ntmps81
            go_wp2_with (first | (go_at_call 79; (with_reducible refine (HFO.out _).mono ?_); rintro e w1 ⟨rfl, hb1⟩; have n1 := HS.out.next hb1; have p1 := n1.c0; have q1 := n1.c1; have H1 := Lib.hid n1; clear n1 hb1) | (go_at_call 48; refine (natural_Valid _ _).mono ?_; rintro e w' ⟨rfl, rfl⟩) | (go_at_call 53; (with_reducible refine (HCMP.out _).mono ?_); rintro e w' ⟨rfl, rfl⟩) | (go_at_call 102; (with_reducible refine (HE1.out _).mono ?_); rintro e w2 ⟨rfl, hb2⟩; have n2 := H1.out.next hb2; have p2 := n2.c0; have q2 := n2.c1; have H2 := Lib.hid n2; clear n2 hb2) | (go_at_call 102; (with_reducible refine (HE2.out _).mono ?_); rintro e w3 ⟨rfl, hb3⟩; have n3 := H2.out.next hb3; have H3 := Lib.hid n3; clear n3 hb3))
            go_ret
            exact ⟨ret_bool HR3.out.symm, H3.out.below⟩
          · have k1 : decide (0 ≤ cv) = true := decide_eq_true (by omega)
            have HF : Hid (pgHas m o x = false) := Lib.hid (by rw [HR2.out, h2, h3, h4, decide_eq_false h5]; rfl)
            clear h5 hcn
            go_enter Tryz.func81, Tryz.ntmps81
            go_wp2_with (first | (go_at_call 79; (with_reducible refine (HFO.out _).mono ?_); rintro e w1 ⟨rfl, hb1⟩; have n1 := HS.out.next hb1; have p1 := n1.c0; have q1 := n1.c1; have H1 := Lib.hid n1; clear n1 hb1) | (go_at_call 48; refine (natural_Valid _ _).mono ?_; rintro e w' ⟨rfl, rfl⟩) | (go_at_call 53; (with_reducible refine (HCMP.out _).mono ?_); rintro e w' ⟨rfl, rfl⟩))
            go_ret
            exact ⟨ret_bool HF.out.symm, H1.out.below⟩
        · go_enter Tryz.func81, Tryz.ntmps81
          go_wp2_with (first | (go_at_call 79; (with_reducible refine (HFO.out _).mono ?_); rintro e w1 ⟨rfl, hb1⟩; have n1 := HS.out.next hb1; have p1 := n1.c0; have q1 := n1.c1; have H1 := Lib.hid n1; clear n1 hb1) | (go_at_call 48; refine (natural_Valid _ _).mono ?_; rintro e w' ⟨rfl, rfl⟩))
          go_ret
          exact ⟨ret_bool (by rw [HR2.out, h2, h3, h4]; rfl), H1.out.below⟩
      · go_enter Tryz.func81, Tryz.ntmps81
        go_wp2_with (first | (go_at_call 79; (with_reducible refine (HFO.out _).mono ?_); rintro e w1 ⟨rfl, hb1⟩; have n1 := HS.out.next hb1; have p1 := n1.c0; have q1 := n1.c1; have H1 := Lib.hid n1; clear n1 hb1) | (go_at_call 48; refine (natural_Valid _ _).mono ?_; rintro e w' ⟨rfl, rfl⟩))
        go_ret
        exact ⟨ret_bool (by rw [HR2.out, h2, h3]; rfl), H1.out.below⟩
end Go.Proofs.YtfggpgiinihflaaGreatDoor
