/- The walks of package integer. -/
import Derived.Test.YtlppcnjaacbhpaaGreatDoorG5
namespace Go.Proofs.YtlppcnjaacbhpaaGreatDoor
open Go.RowKit
set_option maxRecDepth 100000
set_option linter.unusedVariables false
set_option maxHeartbeats 400000

theorem integer_made (s : Bool) (a : ByteArray) (w : World) :
    Calls Tryz.prog 75 #[.bool s, .string a] w fun e w' => e = .returned (.agg #[.bool (s && !a.toList.isEmpty), .string a]) ∧ Below w.heap.size w w' := by
  cases s
  · go_enter Tryz.func75, Tryz.ntmps75
    go_wp2_with fail
    exact bodyPost_ret (v := .agg #[.bool false, .string a]) (by simp [results, Tryz.results75, go_sem]) rfl ⟨rfl, (Below.refl _ _).alloc (Nat.le_refl _) _⟩
  · go_enter Tryz.func75, Tryz.ntmps75
    go_wp2_with fail
    exact bodyPost_ret (v := .agg #[.bool (!a.toList.isEmpty), .string a]) (by simp [results, Tryz.results75, go_sem]) rfl ⟨rfl, (Below.refl _ _).alloc (Nat.le_refl _) _⟩
theorem integer_Valid (s : Bool) (a : ByteArray) (w : World) :
    Calls Tryz.prog 141 #[.agg #[.bool s, .string a]] w fun e w' => e = .returned (.bool (valid a && !(s && a.toList.isEmpty))) ∧ Below w.heap.size w w' := by
  have F0 := Lib.hid (show Below w.heap.size w (w.alloc (.cells #[.bool s, .string a] 89)) from (Below.refl _ _).alloc (Nat.le_refl _) _)
  cases hv : valid a
  · go_enter Tryz.func141, Tryz.ntmps141
    go_wp2_with (go_at_call 60; refine (natural_Valid _ _).mono ?_; rintro e w' ⟨rfl, rfl⟩)
    go_ret
    exact ⟨rfl, F0.out⟩
  · cases s
    · go_enter Tryz.func141, Tryz.ntmps141
      go_wp2_with (go_at_call 60; refine (natural_Valid _ _).mono ?_; rintro e w' ⟨rfl, rfl⟩)
      go_ret
      exact ⟨rfl, F0.out⟩
    · go_enter Tryz.func141, Tryz.ntmps141
      go_wp2_with (go_at_call 60; refine (natural_Valid _ _).mono ?_; rintro e w' ⟨rfl, rfl⟩)
      go_ret
      exact ⟨rfl, F0.out⟩
/-- A valid integer's form. -/
def IntOk (s : Bool) (n : Nat) : Prop := n < lim ∧ (s && (B n).toList.isEmpty) = false
theorem integer_Valid' (s : Bool) (n : Nat) (w : World) (h : Hid (IntOk s n)) :
    Calls Tryz.prog 141 #[.agg #[.bool s, .string (B n)]] w fun e w' => e = .returned (.bool true) ∧ Below w.heap.size w w' := by
  have := integer_Valid s (B n) w
  rw [valid_B h.out.1, h.out.2] at this
  exact this
theorem integer_both (s t : Bool) (n k : Nat) (w : World) (h1 : Hid (IntOk s n)) (h2 : Hid (IntOk t k)) :
    Calls Tryz.prog 149 #[.agg #[.bool s, .string (B n)], .agg #[.bool t, .string (B k)]] w fun e w' => e = .returned (.bool true) ∧ Below w.heap.size w w' := by
  have F0 := Lib.hid (show Below w.heap.size w ((w.alloc (.cells #[.bool s, .string (B n)] 89)).alloc (.cells #[.bool t, .string (B k)] 89)) from ((Below.refl _ _).alloc (Nat.le_refl _) _).alloc (by simp) _)
  go_enter Tryz.func149, Tryz.ntmps149
  go_wp2_with (first | (go_at_call 141; (with_reducible refine (integer_Valid' s n _ h1).mono ?_); rintro e w1 ⟨rfl, hb1⟩; have hcw1 := (bcell hb1).1; have hfw1 := (bcell hb1).2; have hs1 := hb1.size; have hq1 : w.heap.size < w1.heap.size := by { simp at hs1; omega }; have hq2 : w.heap.size + 1 < w1.heap.size := by { simp at hs1; omega }) | (go_at_call 141; (with_reducible refine (integer_Valid' t k _ h2).mono ?_); rintro e w2 ⟨rfl, hb2⟩))
  go_ret
  exact ⟨rfl, below2 (below2 F0.out hb1) hb2⟩
theorem integer_Neg (s : Bool) (n : Nat) (w : World) (h1 : Hid (IntOk s n)) :
    Calls Tryz.prog 150 #[.agg #[.bool s, .string (B n)]] w fun e w' => e = .returned (.agg #[.bool (!s && !(B n).toList.isEmpty), .string (B n)]) ∧ Below w.heap.size w w' := by
  go_enter Tryz.func150, Tryz.ntmps150
  go_wp2_with (first | (go_at_call 141; (with_reducible refine (integer_Valid' s n _ h1).mono ?_); rintro e w1 ⟨rfl, hb1⟩; have hcw1 := (bcell hb1).1; have hfw1 := (bcell hb1).2; have hs1 := hb1.size; have hq1 : w.heap.size < w1.heap.size := by { simp at hs1; omega }; have hq2 : w.heap.size + 1 < w1.heap.size := by { simp at hs1; omega }) | (go_at_call 75; (with_reducible refine (integer_made _ _ _).mono ?_); rintro e w2 ⟨rfl, hb2⟩; have hcw2 := (bcell hb2).1; have hs2 := hb2.size; have hfw2 := (bcell hb2).2; have hq3 : w.heap.size < w2.heap.size := by { omega }; have hq4 : w.heap.size + 1 < w2.heap.size := by { omega }))
  exact bodyPost_ret (v := .agg #[.bool (!s && !(B n).toList.isEmpty), .string (B n)]) (by simp [results, Tryz.results150, go_sem, hcw2, hcw1, hq2]) rfl ⟨rfl, ((below2 (below2 (((Below.refl _ _).alloc (Nat.le_refl _) _).alloc (by simp) _) hb1) hb2).setCell (by simp) _).setCell (by simp) _⟩
theorem integer_From (n : Nat) (w : World) (hn : Hid (n < lim)) :
    Calls Tryz.prog 45 #[.string (B n)] w fun e w' => e = .returned (.agg #[.bool false, .string (B n)]) ∧ Below w.heap.size w w' := by
  have hv := valid_B hn.out
  go_enter Tryz.func45, Tryz.ntmps45
  go_wp2_with (first | (go_at_call 60; refine (natural_Valid _ _).mono ?_; rintro e w' ⟨rfl, rfl⟩) | (go_at_call 75; (with_reducible refine (integer_made _ _ _).mono ?_); rintro e w2 ⟨rfl, hb2⟩; have hcw2 := (bcell hb2).1; have hfw2 := (bcell hb2).2; have hs2 := hb2.size; have hq3 : w.heap.size < w2.heap.size := by { simp at hs2; omega }))
  exact bodyPost_ret (v := .agg #[.bool false, .string (B n)]) (by simp [results, Tryz.results45, go_sem, hcw2]) rfl ⟨rfl, ((below2 ((Below.refl _ _).alloc (Nat.le_refl _) _) hb2).setCell (by simp) _).setCell (by simp) _⟩


theorem natural_Mul' (x y : Nat) (w : World) (hx : x < lim) (hy : y < lim) (hxy : x * y < lim) :
    Calls Tryz.prog 99 #[.string (B x), .string (B y)] w fun e w' => e = .returned (.tuple #[.string (B (x * y)), .int .i64 0]) ∧ Below w.heap.size w w' := by
  have := natural_Mul (B x) (B y) w
  have e : natMul (B x) (B y) = (B (x * y), 0) := by
    unfold natMul fitted; rw [valid_B hx, valid_B hy, num_B, num_B, if_pos hxy]; rfl
  rw [e] at this
  exact this
theorem natural_Add' (x y : Nat) (w : World) (hx : x < lim) (hy : y < lim) (hxy : x + y < lim) :
    Calls Tryz.prog 151 #[.string (B x), .string (B y)] w fun e w' => e = .returned (.tuple #[.string (B (x + y)), .int .i64 0]) ∧ Below w.heap.size w w' := by
  have := natural_Add (B x) (B y) w
  have e : natAdd (B x) (B y) = (B (x + y), 0) := by
    unfold natAdd fitted; rw [valid_B hx, valid_B hy, num_B, num_B, if_pos hxy]; rfl
  rw [e] at this
  exact this
set_option maxHeartbeats 1000000 in
theorem integer_Mul (s t : Bool) (n k : Nat) (w : World) (h1 : Hid (IntOk s n)) (h2 : Hid (IntOk t k)) (h3 : n * k < lim) :
    Calls Tryz.prog 133 #[.agg #[.bool s, .string (B n)], .agg #[.bool t, .string (B k)]] w fun e w' => e = .returned (.tuple #[.agg #[.bool ((s != t) && !(B (n * k)).toList.isEmpty), .string (B (n * k))], .int .i64 0]) ∧ Below w.heap.size w w' := by
  have HM := Lib.hid (fun w => natural_Mul' n k w h1.out.1 h2.out.1 h3)
  generalize n * k = q at *
  have F0 := Lib.hid (show Below w.heap.size w (((w.alloc (.cells #[.bool s, .string (B n)] 89)).alloc (.cells #[.bool t, .string (B k)] 89)).alloc (.cells #[.bool false, .string E0] 89)) from (((Below.refl _ _).alloc (Nat.le_refl _) _).alloc (by simp) _).alloc (by simp; omega) _)
  clear h3
  go_enter Tryz.func133, Tryz.ntmps133
  go_wp2_with (first | (go_at_call 149; (with_reducible refine (integer_both s t n k _ h1 h2).mono ?_); rintro e w1 ⟨rfl, hb1⟩; have hcw1 := (bcell hb1).1; have hfw1 := (bcell hb1).2; have hs1 := hb1.size; have hq1 : w.heap.size + 1 + 1 < w1.heap.size := by { simp at hs1; omega }; have hq2 : w.heap.size + 1 < w1.heap.size := by { omega }; have hq3 : w.heap.size < w1.heap.size := by { omega }) | (go_at_call 99; refine (HM.out _).mono ?_; rintro e w2 ⟨rfl, hb2⟩; have hcw2 := (bcell hb2).1; have hfw2 := (bcell hb2).2; have hs2 := hb2.size; have hq4 : w.heap.size + 1 + 1 < w2.heap.size := by { omega }; have hq5 : w.heap.size + 1 < w2.heap.size := by { omega }; have hq6 : w.heap.size < w2.heap.size := by { omega }) | (go_at_call 75; (with_reducible refine (integer_made _ _ _).mono ?_); rintro e w3 ⟨rfl, hb3⟩; have hcw3 := (bcell hb3).1; have hfw3 := (bcell hb3).2; have hs3 := hb3.size; have hq7 : w.heap.size + 1 + 1 < w3.heap.size := by { omega }))
  exact bodyPost_ret (v := .tuple #[.agg #[.bool (!(s == t) && !(B q).toList.isEmpty), .string (B q)], .int .i64 0]) (by simp [results, Tryz.results133, go_sem, hcw3, hcw2, hcw1, hq1, hq4]) rfl ⟨rfl, ((below2 (below2 (below2 F0.out hb1) hb2) hb3).setCell (by simp; omega) _).setCell (by simp; omega) _⟩
set_option maxHeartbeats 1000000 in
/-- The sum of two integers of one sign. -/
theorem integer_Add_same (s : Bool) (n k : Nat) (w : World) (h1 : Hid (IntOk s n)) (h2 : Hid (IntOk s k)) (h3 : n + k < lim) :
    Calls Tryz.prog 135 #[.agg #[.bool s, .string (B n)], .agg #[.bool s, .string (B k)]] w fun e w' => e = .returned (.tuple #[.agg #[.bool (s && !(B (n + k)).toList.isEmpty), .string (B (n + k))], .int .i64 0]) ∧ Below w.heap.size w w' := by
  have HM := Lib.hid (fun w => natural_Add' n k w h1.out.1 h2.out.1 h3)
  generalize n + k = q at *
  have F0 := Lib.hid (show Below w.heap.size w (((w.alloc (.cells #[.bool s, .string (B n)] 89)).alloc (.cells #[.bool s, .string (B k)] 89)).alloc (.cells #[.bool false, .string E0] 89)) from (((Below.refl _ _).alloc (Nat.le_refl _) _).alloc (by simp) _).alloc (by simp; omega) _)
  have hss : (s == s) = true := by cases s <;> rfl
  clear h3
  go_enter Tryz.func135, Tryz.ntmps135
  go_wp2_with (first | (go_at_call 149; (with_reducible refine (integer_both s s n k _ h1 h2).mono ?_); rintro e w1 ⟨rfl, hb1⟩; have hcw1 := (bcell hb1).1; have hfw1 := (bcell hb1).2; have hs1 := hb1.size; have hq1 : w.heap.size + 1 + 1 < w1.heap.size := by { simp at hs1; omega }; have hq2 : w.heap.size + 1 < w1.heap.size := by { omega }; have hq3 : w.heap.size < w1.heap.size := by { omega }) | (go_at_call 151; refine (HM.out _).mono ?_; rintro e w2 ⟨rfl, hb2⟩; have hcw2 := (bcell hb2).1; have hfw2 := (bcell hb2).2; have hs2 := hb2.size; have hq4 : w.heap.size + 1 + 1 < w2.heap.size := by { omega }; have hq5 : w.heap.size + 1 < w2.heap.size := by { omega }; have hq6 : w.heap.size < w2.heap.size := by { omega }) | (go_at_call 75; (with_reducible refine (integer_made _ _ _).mono ?_); rintro e w3 ⟨rfl, hb3⟩; have hcw3 := (bcell hb3).1; have hfw3 := (bcell hb3).2; have hs3 := hb3.size; have hq7 : w.heap.size + 1 + 1 < w3.heap.size := by { omega }))
  exact bodyPost_ret (v := .tuple #[.agg #[.bool (s && !(B q).toList.isEmpty), .string (B q)], .int .i64 0]) (by simp [results, Tryz.results135, go_sem, hcw3, hcw2, hcw1, hq1, hq4]) rfl ⟨rfl, ((below2 (below2 (below2 F0.out hb1) hb2) hb3).setCell (by simp; omega) _).setCell (by simp; omega) _⟩
set_option maxHeartbeats 1000000 in
/-- The sum of two integers of different signs, the first not smaller. -/
theorem integer_Add_ge (s : Bool) (n k : Nat) (w : World) (h1 : Hid (IntOk s n)) (h2 : Hid (IntOk (!s) k)) (h3 : k ≤ n) :
    Calls Tryz.prog 135 #[.agg #[.bool s, .string (B n)], .agg #[.bool (!s), .string (B k)]] w fun e w' => e = .returned (.tuple #[.agg #[.bool (s && !(B (n - k)).toList.isEmpty), .string (B (n - k))], .int .i64 0]) ∧ Below w.heap.size w w' := by
  have HM := Lib.hid (fun w => natural_Sub' n k w h1.out.1 (by omega))
  have hcm2 : decide (natCmp (B n) (B k) < 0) = false := by rw [natCmp_BB h1.out.1 h2.out.1]; exact decide_eq_false (fun h => by have := cmpN_neg.1 h; omega)
  have hcc := fun w => natural_Cmp (B n) (B k) w
  generalize natCmp (B n) (B k) = cv at *
  generalize n - k = q at *
  have HC := Lib.hid hcc
  have F0 := Lib.hid (show Below w.heap.size w (((w.alloc (.cells #[.bool s, .string (B n)] 89)).alloc (.cells #[.bool (!s), .string (B k)] 89)).alloc (.cells #[.bool false, .string E0] 89)) from (((Below.refl _ _).alloc (Nat.le_refl _) _).alloc (by simp) _).alloc (by simp; omega) _)
  have hss : (s == !s) = false := by cases s <;> rfl
  have HB := Lib.hid (fun w => integer_both s (!s) n k w h1 h2)
  clear h3 hcc h1 h2
  go_enter Tryz.func135, Tryz.ntmps135
  go_wp2_with (first | (go_at_call 149; (with_reducible refine (HB.out _).mono ?_); rintro e w1 ⟨rfl, hb1⟩; have hcw1 := (bcell hb1).1; have hfw1 := (bcell hb1).2; have hs1 := hb1.size; have hq1 : w.heap.size + 1 + 1 < w1.heap.size := by { simp at hs1; omega }; have hq2 : w.heap.size + 1 < w1.heap.size := by { omega }; have hq3 : w.heap.size < w1.heap.size := by { omega }) | (go_at_call 69; refine (HC.out _).mono ?_; rintro e w' ⟨rfl, rfl⟩) | (go_at_call 71; refine (HM.out _).mono ?_; rintro e w2 ⟨rfl, hb2⟩; have hcw2 := (bcell hb2).1; have hfw2 := (bcell hb2).2; have hs2 := hb2.size; have hq4 : w.heap.size + 1 + 1 < w2.heap.size := by { omega }; have hq5 : w.heap.size + 1 < w2.heap.size := by { omega }; have hq6 : w.heap.size < w2.heap.size := by { omega }) | (go_at_call 75; (with_reducible refine (integer_made _ _ _).mono ?_); rintro e w3 ⟨rfl, hb3⟩; have hcw3 := (bcell hb3).1; have hfw3 := (bcell hb3).2; have hs3 := hb3.size; have hq7 : w.heap.size + 1 + 1 < w3.heap.size := by { omega }))
  exact bodyPost_ret (v := .tuple #[.agg #[.bool (s && !(B q).toList.isEmpty), .string (B q)], .int .i64 0]) (by simp [results, Tryz.results135, go_sem, hcw3, hcw2, hcw1, hq1, hq4]) rfl ⟨rfl, ((below2 (below2 (below2 F0.out hb1) hb2) hb3).setCell (by simp; omega) _).setCell (by simp; omega) _⟩


theorem swap_cells {s : Bool} {x y : ByteArray} {w w1 : World} {o : Obj} {T1 T2 : TypeId}
    (hb1 : Below (((w.alloc (.cells #[.bool s, .string x] T1)).alloc (.cells #[.bool !s, .string y] T2)).alloc o).heap.size (((w.alloc (.cells #[.bool s, .string x] T1)).alloc (.cells #[.bool !s, .string y] T2)).alloc o) w1) :
    ((((w1.setCell ⟨w.heap.size, 0, none⟩ (.bool !s)).setCell ⟨w.heap.size, 1, none⟩ (.string y)).setCell ⟨w.heap.size + 1, 0, none⟩ (.bool s)).setCell ⟨w.heap.size + 1, 1, none⟩ (.string x)).cell? ⟨w.heap.size, 0, none⟩ = some (.bool !s) ∧
    ((((w1.setCell ⟨w.heap.size, 0, none⟩ (.bool !s)).setCell ⟨w.heap.size, 1, none⟩ (.string y)).setCell ⟨w.heap.size + 1, 0, none⟩ (.bool s)).setCell ⟨w.heap.size + 1, 1, none⟩ (.string x)).cell? ⟨w.heap.size, 1, none⟩ = some (.string y) ∧
    ((((w1.setCell ⟨w.heap.size, 0, none⟩ (.bool !s)).setCell ⟨w.heap.size, 1, none⟩ (.string y)).setCell ⟨w.heap.size + 1, 0, none⟩ (.bool s)).setCell ⟨w.heap.size + 1, 1, none⟩ (.string x)).cell? ⟨w.heap.size + 1, 1, none⟩ = some (.string x) := by
  have hcw1 := (bcell hb1).1
  have c0 : w1.cell? ⟨w.heap.size, 0, none⟩ = some (.bool s) := by rw [hcw1 _ _ (by simp; omega)]; simp [go_sem]
  have c1 : w1.cell? ⟨w.heap.size, 1, none⟩ = some (.string x) := by rw [hcw1 _ _ (by simp; omega)]; simp [go_sem]
  have c3 : w1.cell? ⟨w.heap.size + 1, 1, none⟩ = some (.string y) := by rw [hcw1 _ _ (by simp)]; simp [go_sem]
  refine ⟨?_, ?_, ?_⟩
  · refine Eq.trans (World.cell?_setCell_other _ _ _ _ (by simp)) ?_
    refine Eq.trans (World.cell?_setCell_other _ _ _ _ (by simp)) ?_
    refine Eq.trans (World.cell?_setCell_other _ _ _ _ (by simp)) ?_
    exact World.cell?_setCell_same _ _ _ c0
  · refine Eq.trans (World.cell?_setCell_other _ _ _ _ (by simp)) ?_
    refine Eq.trans (World.cell?_setCell_other _ _ _ _ (by simp)) ?_
    exact World.cell?_setCell_same _ _ _ (Eq.trans (World.cell?_setCell_other _ _ _ _ (by simp)) c1)
  · refine World.cell?_setCell_same (u := .string y) _ _ _ ?_
    refine Eq.trans (World.cell?_setCell_other _ _ _ _ (by simp)) ?_
    refine Eq.trans (World.cell?_setCell_other _ _ _ _ (by simp)) ?_
    refine Eq.trans (World.cell?_setCell_other _ _ _ _ (by simp)) ?_
    exact c3
set_option maxHeartbeats 1000000 in
/-- The sum of two integers of different signs, the first smaller. -/
theorem integer_Add_lt (s : Bool) (n k : Nat) (w : World) (h1 : Hid (IntOk s n)) (h2 : Hid (IntOk (!s) k)) (h3 : n < k) :
    Calls Tryz.prog 135 #[.agg #[.bool s, .string (B n)], .agg #[.bool (!s), .string (B k)]] w fun e w' => e = .returned (.tuple #[.agg #[.bool (!s && !(B (k - n)).toList.isEmpty), .string (B (k - n))], .int .i64 0]) ∧ Below w.heap.size w w' := by
  have HM := Lib.hid (fun w => natural_Sub' k n w h2.out.1 (by omega))
  have hcm2 : decide (natCmp (B n) (B k) < 0) = true := by rw [natCmp_BB h1.out.1 h2.out.1]; exact decide_eq_true (cmpN_neg.2 (by omega))
  have hcc := fun w => natural_Cmp (B n) (B k) w
  generalize natCmp (B n) (B k) = cv at *
  generalize k - n = q at *
  have HC := Lib.hid hcc
  have F0 := Lib.hid (show Below w.heap.size w (((w.alloc (.cells #[.bool s, .string (B n)] 89)).alloc (.cells #[.bool (!s), .string (B k)] 89)).alloc (.cells #[.bool false, .string E0] 89)) from (((Below.refl _ _).alloc (Nat.le_refl _) _).alloc (by simp) _).alloc (by simp; omega) _)
  have hss : (s == !s) = false := by cases s <;> rfl
  have HB := Lib.hid (fun w => integer_both s (!s) n k w h1 h2)
  clear h3 hcc h1 h2
  go_enter Tryz.func135, Tryz.ntmps135
  go_wp2_with (first | (go_at_call 149; (with_reducible refine (HB.out _).mono ?_); rintro e w1 ⟨rfl, hb1⟩; have hcw1 := (bcell hb1).1; have hfw1 := (bcell hb1).2; have hs1 := hb1.size; have hq1 : w.heap.size + 1 + 1 < w1.heap.size := by { simp at hs1; omega }; have hq2 : w.heap.size + 1 < w1.heap.size := by { omega }; have hq3 : w.heap.size < w1.heap.size := by { omega }) | (go_at_call 69; refine (HC.out _).mono ?_; rintro e w' ⟨rfl, rfl⟩; have hcs := swap_cells hb1; have d0 := hcs.1; have d1 := hcs.2.1; have d3 := hcs.2.2) | (go_at_call 71; refine (HM.out _).mono ?_; rintro e w2 ⟨rfl, hb2⟩; have hcw2 := (bcell hb2).1; have hfw2 := (bcell hb2).2; have hs2 := hb2.size; have hq4 : w.heap.size + 1 + 1 < w2.heap.size := by { simp at hs2; omega }; have hq5 : w.heap.size + 1 < w2.heap.size := by { omega }; have hq6 : w.heap.size < w2.heap.size := by { omega }) | (go_at_call 75; (with_reducible refine (integer_made _ _ _).mono ?_); rintro e w3 ⟨rfl, hb3⟩; have hcw3 := (bcell hb3).1; have hfw3 := (bcell hb3).2; have hs3 := hb3.size; have hq7 : w.heap.size + 1 + 1 < w3.heap.size := by { omega }))
  have F1 := (((((below2 F0.out hb1).setCell (p := ⟨w.heap.size, 0, none⟩) (Nat.le_refl _) (.bool !s)).setCell (p := ⟨w.heap.size, 1, none⟩) (Nat.le_refl _) (.string (B k))).setCell (p := ⟨w.heap.size + 1, 0, none⟩) (by simp) (.bool s)).setCell (p := ⟨w.heap.size + 1, 1, none⟩) (by simp) (.string (B n)))
  exact bodyPost_ret (v := .tuple #[.agg #[.bool (!s && !(B q).toList.isEmpty), .string (B q)], .int .i64 0]) (by simp [results, Tryz.results135, go_sem, hcw3, hcw2, hcw1, hq1, hq4]) rfl ⟨rfl, ((below2 (below2 F1 hb2) hb3).setCell (by simp; omega) _).setCell (by simp; omega) _⟩


end Go.Proofs.YtlppcnjaacbhpaaGreatDoor
