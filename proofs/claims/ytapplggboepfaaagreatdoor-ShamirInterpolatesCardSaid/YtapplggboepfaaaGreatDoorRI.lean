/- The reference's integers (02) with signs, its extended algorithm, and 03.Inverse. -/
import Derived.Test.YtapplggboepfaaaGreatDoorI6
import Derived.Test.YtapplggboepfaaaGreatDoorPQ
import Derived.Test.YtapplggboepfaaaGreatDoorR8
import Derived.Test.YtapplggboepfaaaGreatDoorSE
import Derived.Test.YtapplggboepfaaaGreatDoorSf
import Derived.Deep.RegionHeld3
namespace Go.Proofs.YtapplggboepfaaaGreatDoor
open Go.RowKit
set_option maxRecDepth 100000
set_option linter.unusedVariables false
set_option linter.unusedSimpArgs false
set_option maxHeartbeats 4000000

theorem r02_MakeZ (s : Bool) (a : ByteArray) (w : World) :
    Calls Tryz.prog 160 #[.bool s, .string a] w fun e w' => e = .returned (.agg #[.bool (s && !a.toList.isEmpty), .string a]) ∧ Below w.heap.size w w' := by
  cases s
  · go_enter Tryz.func160, Tryz.ntmps160
    go_wp2_with fail
    exact bodyPost_ret (v := .agg #[.bool false, .string a]) (by simp [results, Tryz.results160, go_sem]) rfl ⟨rfl, (Below.refl _ _).alloc (Nat.le_refl _) _⟩
  · go_enter Tryz.func160, Tryz.ntmps160
    go_wp2_with fail
    exact bodyPost_ret (v := .agg #[.bool (!a.toList.isEmpty), .string a]) (by simp [results, Tryz.results160, go_sem]) rfl ⟨rfl, (Below.refl _ _).alloc (Nat.le_refl _) _⟩
theorem r02_ValidZ (s : Bool) (n : Nat) (w : World) (h : Hid (IntOk s n)) :
    Calls Tryz.prog 149 #[.agg #[.bool s, .string (B n)]] w fun e w' => e = .returned (.bool true) ∧ Below w.heap.size w w' := by
  have hv := valid_B h.out.1
  have hi := h.out.2
  obtain ⟨a, ha⟩ : ∃ a, B n = a := ⟨_, rfl⟩
  rw [ha] at hv hi ⊢
  have F0 := Lib.hid (show Below w.heap.size w (w.alloc (.cells #[.bool s, .string a] 101)) from (Below.refl _ _).alloc (Nat.le_refl _) _)
  clear h ha
  cases s
  · go_enter Tryz.func149, Tryz.ntmps149
    go_wp2_with (go_at_call 32; refine (r01_Valid _ _).mono ?_; rintro e w' ⟨rfl, rfl⟩)
    go_ret
    exact ⟨rfl, F0.out⟩
  · have hi2 : a.toList.isEmpty = false := hi
    clear hi
    go_enter Tryz.func149, Tryz.ntmps149
    go_wp2_with (go_at_call 32; refine (r01_Valid _ _).mono ?_; rintro e w' ⟨rfl, rfl⟩)
    go_ret
    exact ⟨rfl, F0.out⟩
theorem r02_NegZ (s : Bool) (n : Nat) (w : World) (h1 : Hid (IntOk s n)) :
    Calls Tryz.prog 166 #[.agg #[.bool s, .string (B n)]] w fun e w' => e = .returned (.agg #[.bool (!s && !(B n).toList.isEmpty), .string (B n)]) ∧ Below w.heap.size w w' := by
  go_enter Tryz.func166, Tryz.ntmps166
  go_wp2_with (first | (go_at_call 149; (with_reducible refine (r02_ValidZ s n _ h1).mono ?_); rintro e w1 ⟨rfl, hb1⟩; have hcw1 := (bcell hb1).1; have hfw1 := (bcell hb1).2; have hs1 := hb1.size; have hq1 : w.heap.size < w1.heap.size := by { simp at hs1; omega }; have hq2 : w.heap.size + 1 < w1.heap.size := by { simp at hs1; omega }) | (go_at_call 160; (with_reducible refine (r02_MakeZ _ _ _).mono ?_); rintro e w2 ⟨rfl, hb2⟩; have hcw2 := (bcell hb2).1; have hs2 := hb2.size; have hfw2 := (bcell hb2).2; have hq3 : w.heap.size < w2.heap.size := by { omega }; have hq4 : w.heap.size + 1 < w2.heap.size := by { omega }))
  exact bodyPost_ret (v := .agg #[.bool (!s && !(B n).toList.isEmpty), .string (B n)]) (by simp [results, Tryz.results166, go_sem, hcw2, hcw1, hq2]) rfl ⟨rfl, ((below2 (below2 (((Below.refl _ _).alloc (Nat.le_refl _) _).alloc (by simp) _) hb1) hb2).setCell (by simp) _).setCell (by simp) _⟩
theorem r02_Neg' (x : Int) (w : World) (hx : Hid (x.natAbs < lim)) :
    Calls Tryz.prog 166 #[iz x] w fun e w' => e = .returned (iz (-x)) ∧ Below w.heap.size w w' := by
  have := r02_NegZ (decide (x < 0)) x.natAbs w (Lib.hid (iz_ok x hx.out))
  rw [iz_eq] at this
  rw [show (if (!decide (x < 0)) = true then -(x.natAbs : Int) else (x.natAbs : Int)) = -x by
    by_cases h : x < 0
    · rw [if_neg (by simp [h])]; omega
    · rw [if_pos (by simp [h])]; omega] at this
  exact this

theorem r02_Add_same (s : Bool) (n k : Nat) (w : World) (h1 : Hid (IntOk s n)) (h2 : Hid (IntOk s k)) (h3 : n + k < lim) :
    Calls Tryz.prog 148 #[.agg #[.bool s, .string (B n)], .agg #[.bool s, .string (B k)]] w fun e w' => e = .returned (.tuple #[.agg #[.bool (s && !(B (n + k)).toList.isEmpty), .string (B (n + k))], .int .i64 0]) ∧ Below w.heap.size w w' := by
  have HM := Lib.hid (fun w => r01_AddV n k w h1.out.1 h2.out.1 h3)
  have hss : (s == s) = true := by cases s <;> rfl
  generalize n + k = q at *
  have KV := Lib.hid (fun w => r02_ValidZ s n w h1)
  have KW := Lib.hid (fun w => r02_ValidZ s k w h2)
  have F0 := Lib.hid (show Below w.heap.size w (((w.alloc (.cells #[.bool s, .string (B n)] 101)).alloc (.cells #[.bool s, .string (B k)] 101)).alloc (.cells #[.bool false, .string E0] 101)) from (((Below.refl w.heap.size w).alloc (by exact Nat.le_refl _) _).alloc (by simp) _).alloc (by simp; omega) _)
  clear h3 h1 h2
  go_enter Tryz.func148, Tryz.ntmps148
  go_wp2_with (first
    | (go_at_call 149; (with_reducible refine (KV.out _).mono ?_); rintro e w1 ⟨rfl, hb1⟩; have hcw1 := (bcell hb1).1; have hfw1 := (bcell hb1).2; have hs1 := hb1.size; have hz1a : w.heap.size < w1.heap.size := by { first | omega | (simp at hs1; omega) }; have hz1b : w.heap.size + 1 < w1.heap.size := by { first | omega | (simp at hs1; omega) }; have hz1c : w.heap.size + 1 + 1 < w1.heap.size := by { first | omega | (simp at hs1; omega) })
    | (go_at_call 149; (with_reducible refine (KW.out _).mono ?_); rintro e w2 ⟨rfl, hb2⟩; have hcw2 := (bcell hb2).1; have hfw2 := (bcell hb2).2; have hs2 := hb2.size; have hz2a : w.heap.size < w2.heap.size := by { first | omega | (simp at hs2; omega) }; have hz2b : w.heap.size + 1 < w2.heap.size := by { first | omega | (simp at hs2; omega) }; have hz2c : w.heap.size + 1 + 1 < w2.heap.size := by { first | omega | (simp at hs2; omega) })
    | (go_at_call 114; (with_reducible refine (HM.out _).mono ?_); rintro e w3 ⟨rfl, hb3⟩; have hcw3 := (bcell hb3).1; have hfw3 := (bcell hb3).2; have hs3 := hb3.size; have hz3a : w.heap.size < w3.heap.size := by { first | omega | (simp at hs3; omega) }; have hz3b : w.heap.size + 1 < w3.heap.size := by { first | omega | (simp at hs3; omega) }; have hz3c : w.heap.size + 1 + 1 < w3.heap.size := by { first | omega | (simp at hs3; omega) })
    | (go_at_call 160; (with_reducible refine (r02_MakeZ _ _ _).mono ?_); rintro e w4 ⟨rfl, hb4⟩; have hcw4 := (bcell hb4).1; have hfw4 := (bcell hb4).2; have hs4 := hb4.size; have hz4a : w.heap.size < w4.heap.size := by { first | omega | (simp at hs4; omega) }; have hz4b : w.heap.size + 1 < w4.heap.size := by { first | omega | (simp at hs4; omega) }; have hz4c : w.heap.size + 1 + 1 < w4.heap.size := by { first | omega | (simp at hs4; omega) }))
  exact bodyPost_ret (v := .tuple #[.agg #[.bool (s && !(B q).toList.isEmpty), .string (B q)], .int .i64 0]) (by simp [results, Tryz.results148, go_sem, hcw4, hcw3, hcw2, hcw1, hz1a, hz1b, hz1c, hz2a, hz2b, hz2c, hz3a, hz3b, hz3c, hz4a, hz4b, hz4c]) rfl ⟨rfl, ((below2 (below2 (below2 (below2 (F0.out) hb1) hb2) hb3) hb4).setCell (by simp; omega) _).setCell (by simp; omega) _⟩
theorem r02_Add_ge (s : Bool) (n k : Nat) (w : World) (h1 : Hid (IntOk s n)) (h2 : Hid (IntOk (!s) k)) (h3 : k ≤ n) :
    Calls Tryz.prog 148 #[.agg #[.bool s, .string (B n)], .agg #[.bool (!s), .string (B k)]] w fun e w' => e = .returned (.tuple #[.agg #[.bool (s && !(B (n - k)).toList.isEmpty), .string (B (n - k))], .int .i64 0]) ∧ Below w.heap.size w w' := by
  have HM := Lib.hid (fun w => r01_SubV n k w h1.out.1 (by omega))
  have hcc := fun w => r01_Cmp (B n) (B k) w
  obtain ⟨cv, hcv⟩ : ∃ cv, cv = natCmp (B n) (B k) := ⟨_, rfl⟩
  have hcm2 : decide (0 ≤ cv) = true := by rw [hcv, natCmp_BB h1.out.1 h2.out.1]; exact decide_eq_true (by have := @cmpN_neg n k; omega)
  rw [← hcv] at hcc
  have HC := Lib.hid hcc
  have hss : (s == !s) = false := by cases s <;> rfl
  generalize n - k = q at *
  have KV := Lib.hid (fun w => r02_ValidZ s n w h1)
  have KW := Lib.hid (fun w => r02_ValidZ (!s) k w h2)
  have F0 := Lib.hid (show Below w.heap.size w (((w.alloc (.cells #[.bool s, .string (B n)] 101)).alloc (.cells #[.bool (!s), .string (B k)] 101)).alloc (.cells #[.bool false, .string E0] 101)) from (((Below.refl w.heap.size w).alloc (by exact Nat.le_refl _) _).alloc (by simp) _).alloc (by simp; omega) _)
  clear h3 h1 h2 hcc hcv
  go_enter Tryz.func148, Tryz.ntmps148
  go_wp2_with (first
    | (go_at_call 149; (with_reducible refine (KV.out _).mono ?_); rintro e w1 ⟨rfl, hb1⟩; have hcw1 := (bcell hb1).1; have hfw1 := (bcell hb1).2; have hs1 := hb1.size; have hz1a : w.heap.size < w1.heap.size := by { first | omega | (simp at hs1; omega) }; have hz1b : w.heap.size + 1 < w1.heap.size := by { first | omega | (simp at hs1; omega) }; have hz1c : w.heap.size + 1 + 1 < w1.heap.size := by { first | omega | (simp at hs1; omega) })
    | (go_at_call 149; (with_reducible refine (KW.out _).mono ?_); rintro e w2 ⟨rfl, hb2⟩; have hcw2 := (bcell hb2).1; have hfw2 := (bcell hb2).2; have hs2 := hb2.size; have hz2a : w.heap.size < w2.heap.size := by { first | omega | (simp at hs2; omega) }; have hz2b : w.heap.size + 1 < w2.heap.size := by { first | omega | (simp at hs2; omega) }; have hz2c : w.heap.size + 1 + 1 < w2.heap.size := by { first | omega | (simp at hs2; omega) })
    | (go_at_call 78; (with_reducible refine (HC.out _).mono ?_); rintro e w5 ⟨rfl, hb5⟩; have hcw5 := (bcell hb5).1; have hfw5 := (bcell hb5).2; have hs5 := hb5.size; have hz5a : w.heap.size < w5.heap.size := by { first | omega | (simp at hs5; omega) }; have hz5b : w.heap.size + 1 < w5.heap.size := by { first | omega | (simp at hs5; omega) }; have hz5c : w.heap.size + 1 + 1 < w5.heap.size := by { first | omega | (simp at hs5; omega) })
    | (go_at_call 115; (with_reducible refine (HM.out _).mono ?_); rintro e w3 ⟨rfl, hb3⟩; have hcw3 := (bcell hb3).1; have hfw3 := (bcell hb3).2; have hs3 := hb3.size; have hz3a : w.heap.size < w3.heap.size := by { first | omega | (simp at hs3; omega) }; have hz3b : w.heap.size + 1 < w3.heap.size := by { first | omega | (simp at hs3; omega) }; have hz3c : w.heap.size + 1 + 1 < w3.heap.size := by { first | omega | (simp at hs3; omega) })
    | (go_at_call 160; (with_reducible refine (r02_MakeZ _ _ _).mono ?_); rintro e w4 ⟨rfl, hb4⟩; have hcw4 := (bcell hb4).1; have hfw4 := (bcell hb4).2; have hs4 := hb4.size; have hz4a : w.heap.size < w4.heap.size := by { first | omega | (simp at hs4; omega) }; have hz4b : w.heap.size + 1 < w4.heap.size := by { first | omega | (simp at hs4; omega) }; have hz4c : w.heap.size + 1 + 1 < w4.heap.size := by { first | omega | (simp at hs4; omega) }))
  exact bodyPost_ret (v := .tuple #[.agg #[.bool (s && !(B q).toList.isEmpty), .string (B q)], .int .i64 0]) (by simp [results, Tryz.results148, go_sem, hcw4, hcw3, hcw5, hcw2, hcw1, hz1a, hz1b, hz1c, hz2a, hz2b, hz2c, hz5a, hz5b, hz5c, hz3a, hz3b, hz3c, hz4a, hz4b, hz4c]) rfl ⟨rfl, ((below2 (below2 (below2 (below2 (below2 (F0.out) hb1) hb2) hb5) hb3) hb4).setCell (by simp; omega) _).setCell (by simp; omega) _⟩
theorem r02_Add_lt (s : Bool) (n k : Nat) (w : World) (h1 : Hid (IntOk s n)) (h2 : Hid (IntOk (!s) k)) (h3 : n < k) :
    Calls Tryz.prog 148 #[.agg #[.bool s, .string (B n)], .agg #[.bool (!s), .string (B k)]] w fun e w' => e = .returned (.tuple #[.agg #[.bool (!s && !(B (k - n)).toList.isEmpty), .string (B (k - n))], .int .i64 0]) ∧ Below w.heap.size w w' := by
  have HM := Lib.hid (fun w => r01_SubV k n w h2.out.1 (by omega))
  have hcc := fun w => r01_Cmp (B n) (B k) w
  obtain ⟨cv, hcv⟩ : ∃ cv, cv = natCmp (B n) (B k) := ⟨_, rfl⟩
  have hcm2 : decide (0 ≤ cv) = false := by rw [hcv, natCmp_BB h1.out.1 h2.out.1]; exact decide_eq_false (by have := @cmpN_neg n k; omega)
  rw [← hcv] at hcc
  have HC := Lib.hid hcc
  have hss : (s == !s) = false := by cases s <;> rfl
  generalize k - n = q at *
  have KV := Lib.hid (fun w => r02_ValidZ s n w h1)
  have KW := Lib.hid (fun w => r02_ValidZ (!s) k w h2)
  have F0 := Lib.hid (show Below w.heap.size w (((w.alloc (.cells #[.bool s, .string (B n)] 101)).alloc (.cells #[.bool (!s), .string (B k)] 101)).alloc (.cells #[.bool false, .string E0] 101)) from (((Below.refl w.heap.size w).alloc (by exact Nat.le_refl _) _).alloc (by simp) _).alloc (by simp; omega) _)
  clear h3 h1 h2 hcc hcv
  go_enter Tryz.func148, Tryz.ntmps148
  go_wp2_with (first
    | (go_at_call 149; (with_reducible refine (KV.out _).mono ?_); rintro e w1 ⟨rfl, hb1⟩; have hcw1 := (bcell hb1).1; have hfw1 := (bcell hb1).2; have hs1 := hb1.size; have hz1a : w.heap.size < w1.heap.size := by { first | omega | (simp at hs1; omega) }; have hz1b : w.heap.size + 1 < w1.heap.size := by { first | omega | (simp at hs1; omega) }; have hz1c : w.heap.size + 1 + 1 < w1.heap.size := by { first | omega | (simp at hs1; omega) })
    | (go_at_call 149; (with_reducible refine (KW.out _).mono ?_); rintro e w2 ⟨rfl, hb2⟩; have hcw2 := (bcell hb2).1; have hfw2 := (bcell hb2).2; have hs2 := hb2.size; have hz2a : w.heap.size < w2.heap.size := by { first | omega | (simp at hs2; omega) }; have hz2b : w.heap.size + 1 < w2.heap.size := by { first | omega | (simp at hs2; omega) }; have hz2c : w.heap.size + 1 + 1 < w2.heap.size := by { first | omega | (simp at hs2; omega) })
    | (go_at_call 78; (with_reducible refine (HC.out _).mono ?_); rintro e w5 ⟨rfl, hb5⟩; have hcw5 := (bcell hb5).1; have hfw5 := (bcell hb5).2; have hs5 := hb5.size; have hz5a : w.heap.size < w5.heap.size := by { first | omega | (simp at hs5; omega) }; have hz5b : w.heap.size + 1 < w5.heap.size := by { first | omega | (simp at hs5; omega) }; have hz5c : w.heap.size + 1 + 1 < w5.heap.size := by { first | omega | (simp at hs5; omega) })
    | (go_at_call 115; (with_reducible refine (HM.out _).mono ?_); rintro e w3 ⟨rfl, hb3⟩; have hcw3 := (bcell hb3).1; have hfw3 := (bcell hb3).2; have hs3 := hb3.size; have hz3a : w.heap.size < w3.heap.size := by { first | omega | (simp at hs3; omega) }; have hz3b : w.heap.size + 1 < w3.heap.size := by { first | omega | (simp at hs3; omega) }; have hz3c : w.heap.size + 1 + 1 < w3.heap.size := by { first | omega | (simp at hs3; omega) })
    | (go_at_call 160; (with_reducible refine (r02_MakeZ _ _ _).mono ?_); rintro e w4 ⟨rfl, hb4⟩; have hcw4 := (bcell hb4).1; have hfw4 := (bcell hb4).2; have hs4 := hb4.size; have hz4a : w.heap.size < w4.heap.size := by { first | omega | (simp at hs4; omega) }; have hz4b : w.heap.size + 1 < w4.heap.size := by { first | omega | (simp at hs4; omega) }; have hz4c : w.heap.size + 1 + 1 < w4.heap.size := by { first | omega | (simp at hs4; omega) }))
  exact bodyPost_ret (v := .tuple #[.agg #[.bool (!s && !(B q).toList.isEmpty), .string (B q)], .int .i64 0]) (by simp [results, Tryz.results148, go_sem, hcw4, hcw3, hcw5, hcw2, hcw1, hz1a, hz1b, hz1c, hz2a, hz2b, hz2c, hz5a, hz5b, hz5c, hz3a, hz3b, hz3c, hz4a, hz4b, hz4c]) rfl ⟨rfl, ((below2 (below2 (below2 (below2 (below2 (F0.out) hb1) hb2) hb5) hb3) hb4).setCell (by simp; omega) _).setCell (by simp; omega) _⟩
theorem r02_MulZ (s t : Bool) (n k : Nat) (w : World) (h1 : Hid (IntOk s n)) (h2 : Hid (IntOk t k)) (h3 : n * k < lim) :
    Calls Tryz.prog 147 #[.agg #[.bool s, .string (B n)], .agg #[.bool t, .string (B k)]] w fun e w' => e = .returned (.tuple #[.agg #[.bool ((s != t) && !(B (n * k)).toList.isEmpty), .string (B (n * k))], .int .i64 0]) ∧ Below w.heap.size w w' := by
  have HM := Lib.hid (fun w => r01_MulV n k w h1.out.1 h2.out.1 h3)
  generalize n * k = q at *
  have KV := Lib.hid (fun w => r02_ValidZ s n w h1)
  have KW := Lib.hid (fun w => r02_ValidZ t k w h2)
  have F0 := Lib.hid (show Below w.heap.size w (((w.alloc (.cells #[.bool s, .string (B n)] 101)).alloc (.cells #[.bool t, .string (B k)] 101)).alloc (.cells #[.bool false, .string E0] 101)) from (((Below.refl w.heap.size w).alloc (by exact Nat.le_refl _) _).alloc (by simp) _).alloc (by simp; omega) _)
  clear h3 h1 h2
  go_enter Tryz.func147, Tryz.ntmps147
  go_wp2_with (first
    | (go_at_call 149; (with_reducible refine (KV.out _).mono ?_); rintro e w1 ⟨rfl, hb1⟩; have hcw1 := (bcell hb1).1; have hfw1 := (bcell hb1).2; have hs1 := hb1.size; have hz1a : w.heap.size < w1.heap.size := by { first | omega | (simp at hs1; omega) }; have hz1b : w.heap.size + 1 < w1.heap.size := by { first | omega | (simp at hs1; omega) }; have hz1c : w.heap.size + 1 + 1 < w1.heap.size := by { first | omega | (simp at hs1; omega) })
    | (go_at_call 149; (with_reducible refine (KW.out _).mono ?_); rintro e w2 ⟨rfl, hb2⟩; have hcw2 := (bcell hb2).1; have hfw2 := (bcell hb2).2; have hs2 := hb2.size; have hz2a : w.heap.size < w2.heap.size := by { first | omega | (simp at hs2; omega) }; have hz2b : w.heap.size + 1 < w2.heap.size := by { first | omega | (simp at hs2; omega) }; have hz2c : w.heap.size + 1 + 1 < w2.heap.size := by { first | omega | (simp at hs2; omega) })
    | (go_at_call 142; (with_reducible refine (HM.out _).mono ?_); rintro e w3 ⟨rfl, hb3⟩; have hcw3 := (bcell hb3).1; have hfw3 := (bcell hb3).2; have hs3 := hb3.size; have hz3a : w.heap.size < w3.heap.size := by { first | omega | (simp at hs3; omega) }; have hz3b : w.heap.size + 1 < w3.heap.size := by { first | omega | (simp at hs3; omega) }; have hz3c : w.heap.size + 1 + 1 < w3.heap.size := by { first | omega | (simp at hs3; omega) })
    | (go_at_call 160; (with_reducible refine (r02_MakeZ _ _ _).mono ?_); rintro e w4 ⟨rfl, hb4⟩; have hcw4 := (bcell hb4).1; have hfw4 := (bcell hb4).2; have hs4 := hb4.size; have hz4a : w.heap.size < w4.heap.size := by { first | omega | (simp at hs4; omega) }; have hz4b : w.heap.size + 1 < w4.heap.size := by { first | omega | (simp at hs4; omega) }; have hz4c : w.heap.size + 1 + 1 < w4.heap.size := by { first | omega | (simp at hs4; omega) }))
  exact bodyPost_ret (v := .tuple #[.agg #[.bool (!(s == t) && !(B q).toList.isEmpty), .string (B q)], .int .i64 0]) (by simp [results, Tryz.results147, go_sem, hcw4, hcw3, hcw2, hcw1, hz1a, hz1b, hz1c, hz2a, hz2b, hz2c, hz3a, hz3b, hz3c, hz4a, hz4b, hz4c]) rfl ⟨rfl, ((below2 (below2 (below2 (below2 (F0.out) hb1) hb2) hb3) hb4).setCell (by simp; omega) _).setCell (by simp; omega) _⟩

theorem r02_DivMod_pos (n m : Nat) (w : World) (hn : n < 18446744073709551616) (hm : m < 18446744073709551616) (h0 : 0 < m)  :
    Calls Tryz.prog 145 #[.agg #[.bool false, .string (B n)], .agg #[.bool false, .string (B m)]] w fun e w' => e = .returned (.tuple #[.agg #[.bool (false && !(B (n / m)).toList.isEmpty), .string (B (n / m))], .string (B (n % m)), .int .i64 0]) ∧ Below w.heap.size w w' := by
  have e0 : (B m).toList.isEmpty = false := B_isEmpty_false (by omega)
  have KV := Lib.hid (fun w => r02_ValidZ false n w (Lib.hid ⟨u64_lt_lim hn, rfl⟩))
  have KW := Lib.hid (fun w => r02_ValidZ false m w (Lib.hid ⟨u64_lt_lim hm, rfl⟩))
  have KD := Lib.hid (fun w => r01_DivMod8 n m w hn hm h0)
  obtain ⟨Q, hQ⟩ : ∃ Q, Q = n / m := ⟨_, rfl⟩
  obtain ⟨R, hR⟩ : ∃ R, R = n % m := ⟨_, rfl⟩
  rw [← hQ, ← hR] at KD
  rw [← hQ, ← hR]
  clear hQ hR
  have F0 := Lib.hid (show Below w.heap.size w (((w.alloc (.cells #[.bool false, .string (B n)] 101)).alloc (.cells #[.bool false, .string (B m)] 101)).alloc (.cells #[.bool false, .string E0] 101)) from (((Below.refl w.heap.size w).alloc (by exact Nat.le_refl _) _).alloc (by simp) _).alloc (by simp; omega) _)
  clear hn hm h0
  go_enter Tryz.func145, Tryz.ntmps145
  go_wp2_with (first
    | (go_at_call 149; (with_reducible refine (KV.out _).mono ?_); rintro e w1 ⟨rfl, hb1⟩; have hcw1 := (bcell hb1).1; have hfw1 := (bcell hb1).2; have hs1 := hb1.size; have hz1a : w.heap.size < w1.heap.size := by { first | omega | (simp at hs1; omega) }; have hz1b : w.heap.size + 1 < w1.heap.size := by { first | omega | (simp at hs1; omega) }; have hz1c : w.heap.size + 1 + 1 < w1.heap.size := by { first | omega | (simp at hs1; omega) })
    | (go_at_call 149; (with_reducible refine (KW.out _).mono ?_); rintro e w2 ⟨rfl, hb2⟩; have hcw2 := (bcell hb2).1; have hfw2 := (bcell hb2).2; have hs2 := hb2.size; have hz2a : w.heap.size < w2.heap.size := by { first | omega | (simp at hs2; omega) }; have hz2b : w.heap.size + 1 < w2.heap.size := by { first | omega | (simp at hs2; omega) }; have hz2c : w.heap.size + 1 + 1 < w2.heap.size := by { first | omega | (simp at hs2; omega) })
    | (go_at_call 79; (with_reducible refine (KD.out _).mono ?_); rintro e w3 ⟨rfl, hb3⟩; have hcw3 := (bcell hb3).1; have hfw3 := (bcell hb3).2; have hs3 := hb3.size; have hz3a : w.heap.size < w3.heap.size := by { first | omega | (simp at hs3; omega) }; have hz3b : w.heap.size + 1 < w3.heap.size := by { first | omega | (simp at hs3; omega) }; have hz3c : w.heap.size + 1 + 1 < w3.heap.size := by { first | omega | (simp at hs3; omega) })
    | (go_at_call 160; (with_reducible refine (r02_MakeZ _ _ _).mono ?_); rintro e w4 ⟨rfl, hb4⟩; have hcw4 := (bcell hb4).1; have hfw4 := (bcell hb4).2; have hs4 := hb4.size; have hz4a : w.heap.size < w4.heap.size := by { first | omega | (simp at hs4; omega) }; have hz4b : w.heap.size + 1 < w4.heap.size := by { first | omega | (simp at hs4; omega) }; have hz4c : w.heap.size + 1 + 1 < w4.heap.size := by { first | omega | (simp at hs4; omega) }))
  exact bodyPost_ret (v := .tuple #[.agg #[.bool (false), .string (B Q)], .string (B R), .int .i64 0]) (by simp [results, Tryz.results145, go_sem, hcw4, hcw3, hcw2, hcw1, hz1a, hz1b, hz1c, hz2a, hz2b, hz2c, hz3a, hz3b, hz3c, hz4a, hz4b, hz4c]) rfl ⟨rfl, ((below2 (below2 (below2 (below2 (F0.out) hb1) hb2) hb3) hb4).setCell (by simp; omega) _).setCell (by simp; omega) _⟩
theorem r02_DivMod_neg0 (n m : Nat) (w : World) (hn : n < 18446744073709551616) (hm : m < 18446744073709551616) (h0 : 0 < m) (hnz : n ≠ 0) (hr : n % m = 0) :
    Calls Tryz.prog 145 #[.agg #[.bool true, .string (B n)], .agg #[.bool false, .string (B m)]] w fun e w' => e = .returned (.tuple #[.agg #[.bool (true && !(B (n / m)).toList.isEmpty), .string (B (n / m))], .string (B (n % m)), .int .i64 0]) ∧ Below w.heap.size w w' := by
  have e0 : (B m).toList.isEmpty = false := B_isEmpty_false (by omega)
  have KV := Lib.hid (fun w => r02_ValidZ true n w (Lib.hid ⟨u64_lt_lim hn, by rw [B_isEmpty_false hnz]; rfl⟩))
  have KW := Lib.hid (fun w => r02_ValidZ false m w (Lib.hid ⟨u64_lt_lim hm, rfl⟩))
  have KD := Lib.hid (fun w => r01_DivMod8 n m w hn hm h0)
  obtain ⟨Q, hQ⟩ : ∃ Q, Q = n / m := ⟨_, rfl⟩
  obtain ⟨R, hR⟩ : ∃ R, R = n % m := ⟨_, rfl⟩
  rw [← hQ, ← hR] at KD
  rw [← hQ, ← hR]
  have e1 : (B R).toList.isEmpty = true := by rw [hR, hr, B_isEmpty]; rfl
  clear hQ hR hr hnz
  have F0 := Lib.hid (show Below w.heap.size w (((w.alloc (.cells #[.bool true, .string (B n)] 101)).alloc (.cells #[.bool false, .string (B m)] 101)).alloc (.cells #[.bool false, .string E0] 101)) from (((Below.refl w.heap.size w).alloc (by exact Nat.le_refl _) _).alloc (by simp) _).alloc (by simp; omega) _)
  clear hn hm h0
  go_enter Tryz.func145, Tryz.ntmps145
  go_wp2_with (first
    | (go_at_call 149; (with_reducible refine (KV.out _).mono ?_); rintro e w1 ⟨rfl, hb1⟩; have hcw1 := (bcell hb1).1; have hfw1 := (bcell hb1).2; have hs1 := hb1.size; have hz1a : w.heap.size < w1.heap.size := by { first | omega | (simp at hs1; omega) }; have hz1b : w.heap.size + 1 < w1.heap.size := by { first | omega | (simp at hs1; omega) }; have hz1c : w.heap.size + 1 + 1 < w1.heap.size := by { first | omega | (simp at hs1; omega) })
    | (go_at_call 149; (with_reducible refine (KW.out _).mono ?_); rintro e w2 ⟨rfl, hb2⟩; have hcw2 := (bcell hb2).1; have hfw2 := (bcell hb2).2; have hs2 := hb2.size; have hz2a : w.heap.size < w2.heap.size := by { first | omega | (simp at hs2; omega) }; have hz2b : w.heap.size + 1 < w2.heap.size := by { first | omega | (simp at hs2; omega) }; have hz2c : w.heap.size + 1 + 1 < w2.heap.size := by { first | omega | (simp at hs2; omega) })
    | (go_at_call 79; (with_reducible refine (KD.out _).mono ?_); rintro e w3 ⟨rfl, hb3⟩; have hcw3 := (bcell hb3).1; have hfw3 := (bcell hb3).2; have hs3 := hb3.size; have hz3a : w.heap.size < w3.heap.size := by { first | omega | (simp at hs3; omega) }; have hz3b : w.heap.size + 1 < w3.heap.size := by { first | omega | (simp at hs3; omega) }; have hz3c : w.heap.size + 1 + 1 < w3.heap.size := by { first | omega | (simp at hs3; omega) })
    | (go_at_call 160; (with_reducible refine (r02_MakeZ _ _ _).mono ?_); rintro e w4 ⟨rfl, hb4⟩; have hcw4 := (bcell hb4).1; have hfw4 := (bcell hb4).2; have hs4 := hb4.size; have hz4a : w.heap.size < w4.heap.size := by { first | omega | (simp at hs4; omega) }; have hz4b : w.heap.size + 1 < w4.heap.size := by { first | omega | (simp at hs4; omega) }; have hz4c : w.heap.size + 1 + 1 < w4.heap.size := by { first | omega | (simp at hs4; omega) }))
  exact bodyPost_ret (v := .tuple #[.agg #[.bool (!(B Q).toList.isEmpty), .string (B Q)], .string (B R), .int .i64 0]) (by simp [results, Tryz.results145, go_sem, hcw4, hcw3, hcw2, hcw1, hz1a, hz1b, hz1c, hz2a, hz2b, hz2c, hz3a, hz3b, hz3c, hz4a, hz4b, hz4c]) rfl ⟨rfl, ((below2 (below2 (below2 (below2 (F0.out) hb1) hb2) hb3) hb4).setCell (by simp; omega) _).setCell (by simp; omega) _⟩
theorem r02_DivMod_neg1 (n m : Nat) (w : World) (hn : n < 18446744073709551616) (hm : m < 18446744073709551616) (h0 : 0 < m) (hnz : n ≠ 0) (hr : n % m ≠ 0) :
    Calls Tryz.prog 145 #[.agg #[.bool true, .string (B n)], .agg #[.bool false, .string (B m)]] w fun e w' => e = .returned (.tuple #[.agg #[.bool (true && !(B (n / m + 1)).toList.isEmpty), .string (B (n / m + 1))], .string (B (m - n % m)), .int .i64 0]) ∧ Below w.heap.size w w' := by
  have e0 : (B m).toList.isEmpty = false := B_isEmpty_false (by omega)
  have KV := Lib.hid (fun w => r02_ValidZ true n w (Lib.hid ⟨u64_lt_lim hn, by rw [B_isEmpty_false hnz]; rfl⟩))
  have KW := Lib.hid (fun w => r02_ValidZ false m w (Lib.hid ⟨u64_lt_lim hm, rfl⟩))
  have KD := Lib.hid (fun w => r01_DivMod8 n m w hn hm h0)
  obtain ⟨q, hq⟩ : ∃ q, q = n / m := ⟨_, rfl⟩
  obtain ⟨r, hr'⟩ : ∃ r, r = n % m := ⟨_, rfl⟩
  rw [← hq, ← hr'] at KD
  rw [← hr'] at hr
  rw [← hq, ← hr']
  have hql : q + 1 < lim := k_lim (by rw [hq]; have := Nat.div_le_self n m; omega)
  have hrm : r < m := by rw [hr']; exact Nat.mod_lt _ h0
  have e1 : (B r).toList.isEmpty = false := B_isEmpty_false hr
  have KO := Lib.hid (fun w => r01_Of' 1 1 w rfl (by decide))
  have KA := Lib.hid (fun w => r01_AddV q 1 w (by omega) (k_lim (by decide)) hql)
  have KS := Lib.hid (fun w => r01_SubV m r w (u64_lt_lim hm) (Nat.le_of_lt hrm))
  obtain ⟨Q, hQ⟩ : ∃ Q, Q = q + 1 := ⟨_, rfl⟩
  obtain ⟨R, hR⟩ : ∃ R, R = m - r := ⟨_, rfl⟩
  rw [← hQ] at KA
  rw [← hR] at KS
  rw [← hQ, ← hR]
  clear hQ hR hr hnz hq hr' hql hrm
  have F0 := Lib.hid (show Below w.heap.size w (((w.alloc (.cells #[.bool true, .string (B n)] 101)).alloc (.cells #[.bool false, .string (B m)] 101)).alloc (.cells #[.bool false, .string E0] 101)) from (((Below.refl w.heap.size w).alloc (by exact Nat.le_refl _) _).alloc (by simp) _).alloc (by simp; omega) _)
  clear hn hm h0
  go_enter Tryz.func145, Tryz.ntmps145
  go_wp2_with (first
    | (go_at_call 149; (with_reducible refine (KV.out _).mono ?_); rintro e w1 ⟨rfl, hb1⟩; have hcw1 := (bcell hb1).1; have hfw1 := (bcell hb1).2; have hs1 := hb1.size; have hz1a : w.heap.size < w1.heap.size := by { first | omega | (simp at hs1; omega) }; have hz1b : w.heap.size + 1 < w1.heap.size := by { first | omega | (simp at hs1; omega) }; have hz1c : w.heap.size + 1 + 1 < w1.heap.size := by { first | omega | (simp at hs1; omega) })
    | (go_at_call 149; (with_reducible refine (KW.out _).mono ?_); rintro e w2 ⟨rfl, hb2⟩; have hcw2 := (bcell hb2).1; have hfw2 := (bcell hb2).2; have hs2 := hb2.size; have hz2a : w.heap.size < w2.heap.size := by { first | omega | (simp at hs2; omega) }; have hz2b : w.heap.size + 1 < w2.heap.size := by { first | omega | (simp at hs2; omega) }; have hz2c : w.heap.size + 1 + 1 < w2.heap.size := by { first | omega | (simp at hs2; omega) })
    | (go_at_call 79; (with_reducible refine (KD.out _).mono ?_); rintro e w3 ⟨rfl, hb3⟩; have hcw3 := (bcell hb3).1; have hfw3 := (bcell hb3).2; have hs3 := hb3.size; have hz3a : w.heap.size < w3.heap.size := by { first | omega | (simp at hs3; omega) }; have hz3b : w.heap.size + 1 < w3.heap.size := by { first | omega | (simp at hs3; omega) }; have hz3c : w.heap.size + 1 + 1 < w3.heap.size := by { first | omega | (simp at hs3; omega) })
    | (go_at_call 24; (with_reducible refine (KO.out _).mono ?_); rintro e w6 ⟨rfl, hb6⟩; have hcw6 := (bcell hb6).1; have hfw6 := (bcell hb6).2; have hs6 := hb6.size; have hz6a : w.heap.size < w6.heap.size := by { first | omega | (simp at hs6; omega) }; have hz6b : w.heap.size + 1 < w6.heap.size := by { first | omega | (simp at hs6; omega) }; have hz6c : w.heap.size + 1 + 1 < w6.heap.size := by { first | omega | (simp at hs6; omega) })
    | (go_at_call 114; (with_reducible refine (KA.out _).mono ?_); rintro e w7 ⟨rfl, hb7⟩; have hcw7 := (bcell hb7).1; have hfw7 := (bcell hb7).2; have hs7 := hb7.size; have hz7a : w.heap.size < w7.heap.size := by { first | omega | (simp at hs7; omega) }; have hz7b : w.heap.size + 1 < w7.heap.size := by { first | omega | (simp at hs7; omega) }; have hz7c : w.heap.size + 1 + 1 < w7.heap.size := by { first | omega | (simp at hs7; omega) })
    | (go_at_call 115; (with_reducible refine (KS.out _).mono ?_); rintro e w8 ⟨rfl, hb8⟩; have hcw8 := (bcell hb8).1; have hfw8 := (bcell hb8).2; have hs8 := hb8.size; have hz8a : w.heap.size < w8.heap.size := by { first | omega | (simp at hs8; omega) }; have hz8b : w.heap.size + 1 < w8.heap.size := by { first | omega | (simp at hs8; omega) }; have hz8c : w.heap.size + 1 + 1 < w8.heap.size := by { first | omega | (simp at hs8; omega) })
    | (go_at_call 160; (with_reducible refine (r02_MakeZ _ _ _).mono ?_); rintro e w4 ⟨rfl, hb4⟩; have hcw4 := (bcell hb4).1; have hfw4 := (bcell hb4).2; have hs4 := hb4.size; have hz4a : w.heap.size < w4.heap.size := by { first | omega | (simp at hs4; omega) }; have hz4b : w.heap.size + 1 < w4.heap.size := by { first | omega | (simp at hs4; omega) }; have hz4c : w.heap.size + 1 + 1 < w4.heap.size := by { first | omega | (simp at hs4; omega) }))
  exact bodyPost_ret (v := .tuple #[.agg #[.bool (!(B Q).toList.isEmpty), .string (B Q)], .string (B R), .int .i64 0]) (by simp [results, Tryz.results145, go_sem, hcw4, hcw8, hcw7, hcw6, hcw3, hcw2, hcw1, hz1a, hz1b, hz1c, hz2a, hz2b, hz2c, hz3a, hz3b, hz3c, hz6a, hz6b, hz6c, hz7a, hz7b, hz7c, hz8a, hz8b, hz8c, hz4a, hz4b, hz4c]) rfl ⟨rfl, ((below2 (below2 (below2 (below2 (below2 (below2 (below2 (F0.out) hb1) hb2) hb3) hb6) hb7) hb8) hb4).setCell (by simp; omega) _).setCell (by simp; omega) _⟩
theorem bez_next {a b g : Nat} {X Y : Int} (hb : b ≠ 0) (hE : (b : Int) * X + ((a % b : Nat) : Int) * Y = g) (h0 : a % b = 0 → X = 1 ∧ Y = 0) (h1 : a % b ≠ 0 → X.natAbs ≤ a % b ∧ Y.natAbs ≤ max 1 b) :
    (a : Int) * Y + b * (X - ((a / b : Nat) : Int) * Y) = g ∧ Y.natAbs ≤ b ∧ (X - ((a / b : Nat) : Int) * Y).natAbs ≤ max 1 a := by
  have hd : b * (a / b) + a % b = a := Nat.div_add_mod a b
  obtain ⟨q, hq⟩ : ∃ q, q = a / b := ⟨_, rfl⟩
  obtain ⟨r, hr⟩ : ∃ r, r = a % b := ⟨_, rfl⟩
  rw [← hq, ← hr] at hd
  rw [← hr] at hE h0 h1
  rw [← hq]
  have hdi : (b : Int) * (q : Int) + (r : Int) = (a : Int) := by rw [← Int.natCast_mul, ← Int.natCast_add, hd]
  refine ⟨?_, ?_, ?_⟩
  · rw [← hE, ← hdi, Int.add_mul, Int.mul_sub, Int.mul_assoc]; omega
  · by_cases h : r = 0
    · rw [(h0 h).2]; simp
    · have := (h1 h).2; omega
  · by_cases h : r = 0
    · rw [(h0 h).1, (h0 h).2]; simp; omega
    · have h2 := h1 h
      have hY : Y.natAbs ≤ b := by omega
      have hm : ((q : Int) * Y).natAbs ≤ b * q := by
        rw [Int.natAbs_mul, Int.natAbs_natCast, Nat.mul_comm]
        exact Nat.mul_le_mul_right q hY
      omega
theorem big_lim {n : Nat} (h : n < 1361129467683753853853498429727072845824) : n < lim := Nat.lt_trans h (by decide)
theorem mul_lim {q : Nat} {Y : Int} (h1 : q < 18446744073709551616) (h2 : Y.natAbs ≤ 18446744073709551616) : ((q : Int) * Y).natAbs < 340282366920938463463374607431768211457 := by
  rw [Int.natAbs_mul, Int.natAbs_natCast]
  have := Nat.mul_le_mul (Nat.le_of_lt h1) h2
  exact Nat.lt_of_le_of_lt this (by decide)
/-- An integer as its sign and its size. -/
def IsI (z : Int) (s : Bool) (n : Nat) : Prop := s = decide (z < 0) ∧ n = z.natAbs
theorem IsI.ok {z : Int} {s : Bool} {n : Nat} (h : IsI z s n) (hz : z.natAbs < lim) : IntOk s n := by rw [h.1, h.2]; exact iz_ok z hz
theorem isI_of (s : Bool) (n : Nat) (z : Int) (h : (if s then -(n : Int) else n) = z) : IsI z (s && !(B n).toList.isEmpty) n := by
  unfold IsI
  rw [B_isEmpty, ← h]
  cases s
  · exact ⟨by first | (simp; done) | (simp; omega), by first | (simp; done) | (simp; omega)⟩
  · by_cases h0 : n = 0
    · subst h0; exact ⟨rfl, rfl⟩
    · exact ⟨by first | (simp [h0]; done) | (simp [h0]; omega), by first | (simp; done) | (simp; omega)⟩
theorem isI_nat (n : Nat) : IsI (n : Int) false n := ⟨(decide_eq_false (by omega)).symm, rfl⟩
theorem IsI.neg {x : Int} {s : Bool} {n : Nat} (h : IsI x s n) : IsI (-x) (!s && !(B n).toList.isEmpty) n :=
  isI_of _ _ _ (by
    rw [h.1, h.2]
    by_cases hx : x < 0
    · rw [if_neg (by simp [hx])]; omega
    · rw [if_pos (by simp [hx])]; omega)
theorem r02_AddI {x y : Int} {s t : Bool} {n k : Nat} (hx : IsI x s n) (hy : IsI y t k) (bx : n < lim) (by_ : k < lim) (hb : n + k < lim) :
    ∃ u j, IsI (x + y) u j ∧ ∀ w, Calls Tryz.prog 148 #[.agg #[.bool s, .string (B n)], .agg #[.bool t, .string (B k)]] w fun e w' => e = .returned (.tuple #[.agg #[.bool u, .string (B j)], .int .i64 0]) ∧ Below w.heap.size w w' := by
  have ox := Lib.hid (hx.ok (by rw [← hx.2]; exact bx))
  have oy := Lib.hid (hy.ok (by rw [← hy.2]; exact by_))
  by_cases hs : s = t
  · subst hs
    refine ⟨_, _, isI_of s (n + k) (x + y) ?_, fun w => r02_Add_same s n k w ox oy hb⟩
    obtain ⟨h1, h2⟩ := hx
    obtain ⟨h3, h4⟩ := hy
    by_cases h : x < 0
    · have e1 : s = true := by rw [h1]; exact decide_eq_true h
      rw [e1] at h3 ⊢
      have : y < 0 := of_decide_eq_true h3.symm
      rw [if_pos (by decide)]; omega
    · have e1 : s = false := by rw [h1]; exact decide_eq_false h
      rw [e1] at h3 ⊢
      have : ¬ y < 0 := of_decide_eq_false h3.symm
      rw [if_neg (by decide)]; omega
  · have ht : t = !s := by cases s <;> cases t <;> simp_all
    subst ht
    obtain ⟨h1, h2⟩ := hx
    obtain ⟨h3, h4⟩ := hy
    by_cases hl : n < k
    · refine ⟨_, _, isI_of (!s) (k - n) (x + y) ?_, fun w => r02_Add_lt s n k w ox oy hl⟩
      by_cases h : x < 0
      · have e1 : s = true := by rw [h1]; exact decide_eq_true h
        rw [e1] at h3 ⊢
        have : ¬ y < 0 := of_decide_eq_false h3.symm
        rw [if_neg (by decide)]; omega
      · have e1 : s = false := by rw [h1]; exact decide_eq_false h
        rw [e1] at h3 ⊢
        have : y < 0 := of_decide_eq_true h3.symm
        rw [if_pos (by decide)]; omega
    · refine ⟨_, _, isI_of s (n - k) (x + y) ?_, fun w => r02_Add_ge s n k w ox oy (by omega)⟩
      by_cases h : x < 0
      · have e1 : s = true := by rw [h1]; exact decide_eq_true h
        rw [e1] at h3 ⊢
        have : ¬ y < 0 := of_decide_eq_false h3.symm
        rw [if_pos (by decide)]; omega
      · have e1 : s = false := by rw [h1]; exact decide_eq_false h
        rw [e1] at h3 ⊢
        have : y < 0 := of_decide_eq_true h3.symm
        rw [if_neg (by decide)]; omega
theorem r02_MulI {x y : Int} {s t : Bool} {n k : Nat} (hx : IsI x s n) (hy : IsI y t k) (bx : n < lim) (by_ : k < lim) (hb : n * k < lim) :
    ∃ u j, IsI (x * y) u j ∧ j = n * k ∧ ∀ w, Calls Tryz.prog 147 #[.agg #[.bool s, .string (B n)], .agg #[.bool t, .string (B k)]] w fun e w' => e = .returned (.tuple #[.agg #[.bool u, .string (B j)], .int .i64 0]) ∧ Below w.heap.size w w' := by
  have ox := Lib.hid (hx.ok (by rw [← hx.2]; exact bx))
  have oy := Lib.hid (hy.ok (by rw [← hy.2]; exact by_))
  refine ⟨_, _, isI_of (s != t) (n * k) (x * y) ?_, rfl, fun w => r02_MulZ s t n k w ox oy hb⟩
  obtain ⟨h1, h2⟩ := hx
  obtain ⟨h3, h4⟩ := hy
  have hm : (x * y).natAbs = n * k := by rw [Int.natAbs_mul, h2, h4]
  rw [h1, h3, ← hm]
  by_cases h : x < 0
  · by_cases k : y < 0
    · rw [if_neg (by simp [h, k])]; have := Int.mul_pos_of_neg_of_neg h k; omega
    · rw [if_pos (by simp [h, k])]; have := Int.mul_nonpos_of_nonpos_of_nonneg (Int.le_of_lt h) (Int.not_lt.1 k); omega
  · by_cases k : y < 0
    · rw [if_pos (by simp [h, k])]; have := Int.mul_nonpos_of_nonneg_of_nonpos (Int.not_lt.1 h) (Int.le_of_lt k); omega
    · rw [if_neg (by simp [h, k])]; have := Int.mul_nonneg (Int.not_lt.1 h) (Int.not_lt.1 k); omega
theorem r02_DivModI {x : Int} {s : Bool} {n : Nat} (m : Nat) (hx : IsI x s n) (hn : n < 18446744073709551616) (hm : m < 18446744073709551616) (h0 : 0 < m) :
    ∃ u j, IsI (x / m) u j ∧ j ≤ n + 1 ∧ ∀ w, Calls Tryz.prog 145 #[.agg #[.bool s, .string (B n)], .agg #[.bool false, .string (B m)]] w fun e w' => e = .returned (.tuple #[.agg #[.bool u, .string (B j)], .string (B (x % m).toNat), .int .i64 0]) ∧ Below w.heap.size w w' := by
  obtain ⟨h1, h2⟩ := hx
  have hdm := Nat.div_add_mod n m
  have hml := Nat.mod_lt n h0
  have hdl := Nat.div_le_self n m
  have hdi : (m : Int) * ((n / m : Nat) : Int) + ((n % m : Nat) : Int) = (n : Int) := by rw [← Int.natCast_mul, ← Int.natCast_add, hdm]
  by_cases h : x < 0
  · have e1 : s = true := by rw [h1]; exact decide_eq_true h
    subst e1
    by_cases hr : n % m = 0
    · have hq : x / (m : Int) = -((n / m : Nat) : Int) ∧ x % (m : Int) = 0 := (Int.ediv_emod_unique (by omega)).2 ⟨by rw [Int.mul_neg]; omega, by omega, by omega⟩
      rw [hq.1, hq.2]
      refine ⟨_, _, isI_of true (n / m) _ (by rw [if_pos rfl]), by omega, fun w => ?_⟩
      have := r02_DivMod_neg0 n m w hn hm h0 (by omega) hr
      rw [hr] at this
      exact this
    · have hq : x / (m : Int) = -(((n / m + 1 : Nat)) : Int) ∧ x % (m : Int) = ((m - n % m : Nat) : Int) := (Int.ediv_emod_unique (by omega)).2 ⟨by
        rw [Int.mul_neg, Int.natCast_add, Int.mul_add, Int.natCast_one, Int.mul_one]; omega, by omega, by omega⟩
      rw [hq.1, hq.2]
      exact ⟨_, _, isI_of true (n / m + 1) _ (by rw [if_pos rfl]), by omega, fun w => r02_DivMod_neg1 n m w hn hm h0 (by omega) hr⟩
  · have e1 : s = false := by rw [h1]; exact decide_eq_false h
    subst e1
    have hq : x / (m : Int) = ((n / m : Nat) : Int) ∧ x % (m : Int) = ((n % m : Nat) : Int) := (Int.ediv_emod_unique (by omega)).2 ⟨by omega, by omega, by omega⟩
    rw [hq.1, hq.2]
    exact ⟨_, _, isI_of false (n / m) _ (by rw [if_neg (by decide)]), by omega, fun w => r02_DivMod_pos n m w hn hm h0⟩
theorem r02_SubI {x y : Int} {s t : Bool} {n k : Nat} (hx : IsI x s n) (hy : IsI y t k) (bx : n < lim) (by_ : k < lim) (hb : n + k < lim) :
    ∃ u j, IsI (x - y) u j ∧ ∀ w, Calls Tryz.prog 161 #[.agg #[.bool s, .string (B n)], .agg #[.bool t, .string (B k)]] w fun e w' => e = .returned (.tuple #[.agg #[.bool u, .string (B j)], .int .i64 0]) ∧ Below w.heap.size w w' := by
  have ox := Lib.hid (hx.ok (by rw [← hx.2]; exact bx))
  have oy := Lib.hid (hy.ok (by rw [← hy.2]; exact by_))
  obtain ⟨u, j, hu, hA⟩ := r02_AddI hx hy.neg bx by_ hb
  refine ⟨u, j, by rw [Int.sub_eq_add_neg]; exact hu, fun w => ?_⟩
  have HN := Lib.hid (fun w => r02_NegZ t k w oy)
  generalize (!t && !(B k).toList.isEmpty) = t' at HN hA
  have HA := Lib.hid hA
  have KV := Lib.hid (fun w => r02_ValidZ s n w ox)
  have KW := Lib.hid (fun w => r02_ValidZ t k w oy)
  have F0 := Lib.hid (show Below w.heap.size w (((w.alloc (.cells #[.bool s, .string (B n)] 101)).alloc (.cells #[.bool t, .string (B k)] 101)).alloc (.cells #[.bool false, .string E0] 101)) from (((Below.refl _ _).alloc (Nat.le_refl _) _).alloc (by simp) _).alloc (by simp; omega) _)
  clear hx hy bx by_ hb hu hA ox oy
  go_enter Tryz.func161, Tryz.ntmps161
  go_wp2_with (first
    | (go_at_call 149; (with_reducible refine (KV.out _).mono ?_); rintro e w1 ⟨rfl, hb1⟩; have hcw1 := (bcell hb1).1; have hfw1 := (bcell hb1).2; have hs1 := hb1.size; have hz1a : w.heap.size < w1.heap.size := by { first | omega | (simp at hs1; omega) }; have hz1b : w.heap.size + 1 < w1.heap.size := by { first | omega | (simp at hs1; omega) }; have hz1c : w.heap.size + 1 + 1 < w1.heap.size := by { first | omega | (simp at hs1; omega) })
    | (go_at_call 149; (with_reducible refine (KW.out _).mono ?_); rintro e w2 ⟨rfl, hb2⟩; have hcw2 := (bcell hb2).1; have hfw2 := (bcell hb2).2; have hs2 := hb2.size; have hz2a : w.heap.size < w2.heap.size := by { first | omega | (simp at hs2; omega) }; have hz2b : w.heap.size + 1 < w2.heap.size := by { first | omega | (simp at hs2; omega) }; have hz2c : w.heap.size + 1 + 1 < w2.heap.size := by { first | omega | (simp at hs2; omega) }))
  go_region_with (first
    | (go_at_call 166; (with_reducible refine (HN.out _).mono ?_); rintro e w3 ⟨rfl, hb3⟩; have hb23 : Below w2.heap.size w2 w3 := by { first | exact hb3 | exact ((Below.refl _ w2).drew).trans hb3 }; have hcw3 := (bcell hb23).1; have hfw3 := (bcell hb23).2; have hs3 := hb23.size; have hz3a : w.heap.size < w3.heap.size := by { omega }; have hz3b : w.heap.size + 1 < w3.heap.size := by { omega }; have hz3c : w.heap.size + 1 + 1 < w3.heap.size := by { omega })
    | (go_at_call 148; (with_reducible refine (HA.out _).mono ?_); rintro e w4 ⟨rfl, hb4⟩; have hb24 : Below w2.heap.size w2 w4 := by { first | exact below2 hb23 hb4 | exact below2 hb23 (((Below.refl _ _).drew).trans hb4) }; have hcw4 := (bcell hb24).1; have hfw4 := (bcell hb24).2; have hs4 := hb24.size; have hz4a : w.heap.size < w4.heap.size := by { omega }; have hz4b : w.heap.size + 1 < w4.heap.size := by { omega }; have hz4c : w.heap.size + 1 + 1 < w4.heap.size := by { omega }))
  all_goals
    go_wp2_with fail
    exact bodyPost_ret (v := .tuple #[.agg #[.bool u, .string (B j)], .int .i64 0]) (by simp [results, Tryz.results161, go_sem, hcw4, hcw2, hcw1, hz1a, hz1b, hz1c, hz2a, hz2b, hz2c]) rfl ⟨rfl, by
      have b1 := below2 (below2 (below2 F0.out hb1) hb2) hb24
      refine Below.trans b1 ?_
      exact ((Below.refl _ _).setCell (by simp; omega) _).setCell (by simp; omega) _⟩
theorem r02_Of0' (w : World) : Calls Tryz.prog 143 #[.int .i64 0] w fun e w' => e = .returned (.agg #[.bool false, .string (B 0)]) ∧ Below w.heap.size w w' := by
  have KO := Lib.hid (fun w => r01_Of' 0 0 w rfl (by decide))
  have hcv : IntKind.u64.wrap 0 = 0 := by decide
  have KM := Lib.hid (fun w => r02_MakeZ false (B 0) w)
  go_enter Tryz.func143, Tryz.ntmps143
  go_wp2_with (first
    | (go_at_call 24; (with_reducible refine (KO.out _).mono ?_); rintro e w1 ⟨rfl, hb1⟩; have hcw1 := (bcell hb1).1; have hfw1 := (bcell hb1).2; have hs1 := hb1.size; have hz1a : w.heap.size < w1.heap.size := by { first | omega | (simp at hs1; omega) })
    | (go_at_call 160; (with_reducible refine (KM.out _).mono ?_); rintro e w2 ⟨rfl, hb2⟩; have hcw2 := (bcell hb2).1; have hfw2 := (bcell hb2).2; have hs2 := hb2.size; have hz2a : w.heap.size < w2.heap.size := by { first | omega | (simp at hs2; omega) }))
  exact bodyPost_ret (v := .agg #[.bool false, .string (B 0)]) (by simp [results, Tryz.results143, go_sem, hcw2, hcw1, hz1a]) rfl ⟨rfl, ((below2 (below2 ((Below.refl _ _).alloc (Nat.le_refl _) _) hb1) hb2).setCell (by simp) _).setCell (by simp) _⟩
theorem r02_Of1' (w : World) : Calls Tryz.prog 143 #[.int .i64 1] w fun e w' => e = .returned (.agg #[.bool false, .string (B 1)]) ∧ Below w.heap.size w w' := by
  have KO := Lib.hid (fun w => r01_Of' 1 1 w rfl (by decide))
  have KM := Lib.hid (fun w => r02_MakeZ false (B 1) w)
  go_enter Tryz.func143, Tryz.ntmps143
  go_wp2_with (first
    | (go_at_call 24; (with_reducible refine (KO.out _).mono ?_); rintro e w1 ⟨rfl, hb1⟩; have hcw1 := (bcell hb1).1; have hfw1 := (bcell hb1).2; have hs1 := hb1.size; have hz1a : w.heap.size < w1.heap.size := by { first | omega | (simp at hs1; omega) })
    | (go_at_call 160; (with_reducible refine (KM.out _).mono ?_); rintro e w2 ⟨rfl, hb2⟩; have hcw2 := (bcell hb2).1; have hfw2 := (bcell hb2).2; have hs2 := hb2.size; have hz2a : w.heap.size < w2.heap.size := by { first | omega | (simp at hs2; omega) }))
  exact bodyPost_ret (v := .agg #[.bool false, .string (B 1)]) (by simp [results, Tryz.results143, go_sem, hcw2, hcw1, hz1a]) rfl ⟨rfl, ((below2 (below2 ((Below.refl _ _).alloc (Nat.le_refl _) _) hb1) hb2).setCell (by simp) _).setCell (by simp) _⟩
/-- An integer's box. -/
structure ZI (w : World) (g : Nat) (s : Bool) (n : Nat) : Prop where
  c0 : w.cell? ⟨g, 0, none⟩ = some (.bool s)
  c1 : w.cell? ⟨g, 1, none⟩ = some (.string (B n))
  f0 : w.frozen? ⟨g, 0, none⟩ = false
  f1 : w.frozen? ⟨g, 1, none⟩ = false
section
variable {w w' : World} {g : Nat} {s t : Bool} {n k : Nat}
theorem ZI.lt (h : ZI w g s n) : g < w.heap.size := cell_in' (a := ⟨g, 0, none⟩) h.c0
theorem ZI.of {b : Nat} (hb : Below b w w') (hg : g < b) (h : ZI w g s n) : ZI w' g s n :=
  ⟨(hb.cell (p := ⟨g, 0, none⟩) hg).trans h.c0, (hb.cell (p := ⟨g, 1, none⟩) hg).trans h.c1, (hb.frozen (p := ⟨g, 0, none⟩) hg).trans h.f0, (hb.frozen (p := ⟨g, 1, none⟩) hg).trans h.f1⟩
theorem ZI.next (h : ZI w g s n) (hb : Below w.heap.size w w') : ZI w' g s n := ZI.of hb h.lt h
theorem ZI.drew (h : ZI w g s n) : ZI w.drew g s n := h.next (Below.refl _ _).drew
theorem ZI.alloc (h : ZI w g s n) (o : Obj) : ZI (w.alloc o) g s n := h.next ((Below.refl _ _).alloc (Nat.le_refl _) _)
theorem ZI.new (w : World) (s : Bool) (n : Nat) (T : TypeId) : ZI (w.alloc (.cells #[.bool s, .string (B n)] T)) w.heap.size s n :=
  ⟨by simp [go_sem], by simp [go_sem], by simp [go_sem], by simp [go_sem]⟩
theorem ZI.set (h : ZI w g s n) : ZI ((w.setCell ⟨g, 0, none⟩ (.bool t)).setCell ⟨g, 1, none⟩ (.string (B k))) g t k :=
  ⟨(World.cell?_setCell_other _ _ _ _ (by simp)).trans (World.cell?_setCell_same _ _ _ h.c0), World.cell?_setCell_same _ _ _ ((World.cell?_setCell_other _ _ _ _ (by simp)).trans h.c1),
    (World.frozen?_setCell _ _ _ _).trans ((World.frozen?_setCell _ _ _ _).trans h.f0), (World.frozen?_setCell _ _ _ _).trans ((World.frozen?_setCell _ _ _ _).trans h.f1)⟩
theorem ZI.far {p : Addr} {v : Value} (h : ZI w g s n) (hp : p.block ≠ g) : ZI (w.setCell p v) g s n :=
  ⟨(World.cell?_setCell_other _ _ _ _ (fun e => hp (by rw [e]))).trans h.c0, (World.cell?_setCell_other _ _ _ _ (fun e => hp (by rw [e]))).trans h.c1,
    (World.frozen?_setCell _ _ _ _).trans h.f0, (World.frozen?_setCell _ _ _ _).trans h.f1⟩
theorem ZI.far2 {b : Nat} {v u : Value} (h : ZI w g s n) (hp : b ≠ g) : ZI ((w.setCell ⟨b, 0, none⟩ v).setCell ⟨b, 1, none⟩ u) g s n := (h.far (p := ⟨b, 0, none⟩) hp).far (p := ⟨b, 1, none⟩) hp
end
theorem zero_str : (ByteArray.mk #[]) = B 0 := by decide
theorem ZI.zero (w : World) (T : TypeId) : ZI (w.alloc (.cells #[.bool false, .string ⟨#[]⟩] T)) w.heap.size false 0 := by
  rw [zero_str]; exact ZI.new w false 0 T
/-- The boxes of integers that a call holds. -/
structure HZ (w : World) (l : List (Nat × Bool × Nat)) (wx : World) : Prop where
  z : ∀ p ∈ l, ZI wx p.1 p.2.1 p.2.2
  bel : Below w.heap.size w wx
  low : ∀ p ∈ l, w.heap.size ≤ p.1
section
variable {w wx wy : World} {l : List (Nat × Bool × Nat)} {g : Nat} {s t : Bool} {n k : Nat}
theorem HZ.next (h : HZ w l wx) (hb : Below wx.heap.size wx wy) : HZ w l wy := ⟨fun p hp => (h.z p hp).next hb, below2 h.bel hb, h.low⟩
theorem HZ.drew (h : HZ w l wx) : HZ w l wx.drew := h.next (Below.refl _ _).drew
theorem HZ.start (w : World) (T : TypeId) : HZ w [(w.heap.size + 1, false, 0), (w.heap.size, false, 0)] ((w.alloc (.cells #[.bool false, .string ⟨#[]⟩] T)).alloc (.cells #[.bool false, .string ⟨#[]⟩] T)) := by
  have h1 := ZI.zero (w.alloc (.cells #[.bool false, .string ⟨#[]⟩] T)) T
  rw [World.size_alloc] at h1
  have h2 := (ZI.zero w T).alloc (.cells #[.bool false, .string ⟨#[]⟩] T)
  refine ⟨fun p hp => ?_, ((Below.refl _ _).alloc (Nat.le_refl _) _).alloc (by simp) _, fun p hp => ?_⟩
  · rcases List.mem_cons.1 hp with rfl | hp
    · exact h1
    · rcases List.mem_cons.1 hp with rfl | hp
      · exact h2
      · cases hp
  · rcases List.mem_cons.1 hp with rfl | hp
    · exact Nat.le_succ _
    · rcases List.mem_cons.1 hp with rfl | hp
      · exact Nat.le_refl _
      · cases hp
theorem HZ.new (h : HZ w l wx) (hb : Below wx.heap.size wx wy) (T : TypeId) : HZ w ((wy.heap.size, t, k) :: l) (wy.alloc (.cells #[.bool t, .string (B k)] T)) := by
  have h2 := h.next hb
  refine ⟨fun p hp => ?_, h2.bel.alloc h2.bel.size _, fun p hp => ?_⟩
  · rcases List.mem_cons.1 hp with rfl | hp
    · exact ZI.new wy t k T
    · exact (h2.z p hp).alloc _
  · rcases List.mem_cons.1 hp with rfl | hp
    · exact h2.bel.size
    · exact h.low p hp
theorem HZ.put (h : HZ w l wx) (hb : Below wx.heap.size wx wy) (hn : ZI wy g s n) (hg : wx.heap.size ≤ g) : HZ w ((g, t, k) :: l) ((wy.setCell ⟨g, 0, none⟩ (.bool t)).setCell ⟨g, 1, none⟩ (.string (B k))) := by
  have h2 := h.next hb
  have hw : w.heap.size ≤ g := Nat.le_trans h.bel.size hg
  refine ⟨fun p hp => ?_, (h2.bel.setCell (p := ⟨g, 0, none⟩) hw _).setCell (p := ⟨g, 1, none⟩) hw _, fun p hp => ?_⟩
  · rcases List.mem_cons.1 hp with rfl | hp
    · exact hn.set
    · have := (h.z p hp).lt
      exact (h2.z p hp).far2 (by omega)
  · rcases List.mem_cons.1 hp with rfl | hp
    · exact hw
    · exact h.low p hp
theorem HZ.hd {p : Nat × Bool × Nat} (h : HZ w (p :: l) wx) : ZI wx p.1 p.2.1 p.2.2 := h.z p (List.mem_cons_self ..)
theorem HZ.tl {p : Nat × Bool × Nat} (h : HZ w (p :: l) wx) : HZ w l wx := ⟨fun q hq => h.z q (List.mem_cons_of_mem _ hq), h.bel, fun q hq => h.low q (List.mem_cons_of_mem _ hq)⟩
end
theorem far2c {W : World} {g b k : Nat} {v u : Value} {x : Option Value} (h : W.cell? ⟨b, k, none⟩ = x) (hp : g ≠ b) : ((W.setCell ⟨g, 0, none⟩ v).setCell ⟨g, 1, none⟩ u).cell? ⟨b, k, none⟩ = x :=
  (World.cell?_setCell_other _ _ _ _ (by intro e; injection e with e1; exact hp e1)).trans ((World.cell?_setCell_other _ _ _ _ (by intro e; injection e with e1; exact hp e1)).trans h)
/-- What the extended algorithm by recursion says of its two numbers. -/
def BezP (a b : Nat) (X Y : Int) (sX sY : Bool) (nX nY : Nat) : Prop :=
  IsI X sX nX ∧ IsI Y sY nY ∧ (a : Int) * X + b * Y = (Nat.gcd a b : Nat) ∧ (b = 0 → X = 1 ∧ Y = 0) ∧ (b ≠ 0 → nX ≤ b ∧ nY ≤ max 1 a)
theorem r02_bezout : ∀ (b a : Nat) (w : World), a < 18446744073709551616 → b < 18446744073709551616 →
    Calls Tryz.prog 144 #[.string (B a), .string (B b)] w fun e w' => (∃ (X Y : Int) (sX sY : Bool) (nX nY : Nat), e = .returned (.tuple #[.string (B (Nat.gcd a b)), .agg #[.bool sX, .string (B nX)], .agg #[.bool sY, .string (B nY)]]) ∧ BezP a b X Y sX sY nX nY) ∧ Below w.heap.size w w' := by
  intro b
  induction b using Nat.strongRecOn with
  | _ b ih =>
  intro a w ha hb
  by_cases hz : b = 0
  · subst hz
    have e0 : (B 0).toList.isEmpty = true := by rw [B_isEmpty]; rfl
    rw [Nat.gcd_zero_right]
    have HB : Hid (BezP a 0 1 0 false false 1 0) := Lib.hid ⟨isI_nat 1, isI_nat 0, by simp, fun _ => ⟨rfl, rfl⟩, fun h => absurd rfl h⟩
    have HS := Lib.hid (HZ.start w 101)
    clear ih ha hb
    go_enter Tryz.func144, Tryz.ntmps144
    go_wp2_with (first
      | (go_at_call 143; (with_reducible refine (r02_Of1' _).mono ?_); rintro e w1 ⟨rfl, hb1⟩; have HS1 := Lib.hid (HS.out.next hb1); clear hb1)
      | (go_at_call 143; (with_reducible refine (r02_Of0' _).mono ?_); rintro e w2 ⟨rfl, hb2⟩; have HS2 := Lib.hid (HS1.out.next hb2); clear hb2; have hz := HS2.out; obtain ⟨a0, a1, a2, a3⟩ := hz.hd; obtain ⟨d0, d1, d2, d3⟩ := hz.tl.hd))
    have hz1 := (HS2.out.tl.hd.set (t := false) (k := 1)).far2 (b := w.heap.size + 1) (v := .bool false) (u := .string (B 0)) (by simp)
    have hz2 := (HS2.out.hd.far2 (b := w.heap.size) (v := .bool false) (u := .string (B 1)) (by simp)).set (t := false) (k := 0)
    obtain ⟨x0, x1, _, _⟩ := hz1
    obtain ⟨y0, y1, _, _⟩ := hz2
    exact bodyPost_ret (v := .tuple #[.string (B a), .agg #[.bool false, .string (B 1)], .agg #[.bool false, .string (B 0)]]) (by simp [results, Tryz.results144, go_sem, x0, x1, y0, y1]) rfl ⟨⟨1, 0, false, false, 1, 0, rfl, HB.out⟩, (((HS2.out.bel.setCell (by simp) _).setCell (by simp) _).setCell (by simp) _).setCell (by simp) _⟩
  · have e0 : (B b).toList.isEmpty = false := B_isEmpty_false hz
    have hb0 : 0 < b := by omega
    have hg : Nat.gcd a b = Nat.gcd b (a % b) := by rw [Nat.gcd_comm a b, Nat.gcd_rec b a, Nat.gcd_comm]
    have hrl := Nat.mod_lt a hb0
    have hql : a / b ≤ a := Nat.div_le_self a b
    have hN := fun (X Y : Int) hE h0 h1 => @bez_next a b (Nat.gcd b (a % b)) X Y hz hE h0 h1
    rw [hg]
    have KD := Lib.hid (fun w => r01_DivMod8 a b w ha hb hb0)
    have KZ := Lib.hid (fun w => ih (a % b) hrl b w hb (by omega))
    unfold BezP at KZ ⊢
    rw [hg]
    obtain ⟨q, hq⟩ : ∃ q, q = a / b := ⟨_, rfl⟩
    obtain ⟨r, hr⟩ : ∃ r, r = a % b := ⟨_, rfl⟩
    rw [← hq] at KD hN hql
    rw [← hr] at KD KZ hN hrl ⊢
    obtain ⟨G, hG⟩ : ∃ G, G = Nat.gcd b r := ⟨_, rfl⟩
    rw [← hG] at KZ hN ⊢
    have HN := Lib.hid hN
    have HL := Lib.hid (And.intro ha (And.intro hb (And.intro hz (And.intro hrl hql))))
    have HS := Lib.hid (HZ.start w 101)
    have KF := Lib.hid (fun w => r02_From q w (Lib.hid (u64_lt_lim (by omega))))
    clear ih ha hb hz hb0 hg hrl hql hN hq hr hG
    go_enter Tryz.func144, Tryz.ntmps144
    go_upto_region 4 with (first
      | (go_at_call 79; (with_reducible refine (KD.out _).mono ?_); rintro e w1 ⟨rfl, hb1⟩; have HS1 := Lib.hid (HS.out.next hb1); clear hb1))
    go_cut [10, 11, 12] (fun a10 a11 a12 wx => a10 = .string (B G) ∧
      ∃ (P : Nat) (X Y : Int) (sX sY : Bool) (nX nY : Nat), w.heap.size + 1 < P ∧ a11 = .pointer (some ⟨P, 0, none⟩) ∧ a12 = .pointer (some ⟨P + 1, 0, none⟩) ∧ HZ w [(P + 1, sY, nY), (P, sX, nX), (w.heap.size + 1, false, 0), (w.heap.size, false, 0)] wx ∧
        (IsI X sX nX ∧ IsI Y sY nY ∧ (b : Int) * X + r * Y = (G : Nat) ∧ (r = 0 → X = 1 ∧ Y = 0) ∧ (r ≠ 0 → nX ≤ r ∧ nY ≤ max 1 b)))
    case first =>
      go_wp2_with (first
        | (go_at_call 144; (with_reducible refine (KZ.out _).mono ?_); rintro e w2 ⟨⟨X, Y, sX, sY, nX, nY, rfl, hbz⟩, hb2⟩; have HBZ := Lib.hid hbz; have HS2 := Lib.hid (HS1.out.next hb2); clear hb2 hbz))
      go_meet
      refine ⟨rfl, w2.heap.size, X, Y, sX, sY, nX, nY, HS2.out.hd.lt, rfl, rfl, ?_, HBZ.out⟩
      have h1 := HS2.out.new (t := sX) (k := nX) (Below.refl _ _) 101
      have h2 := h1.new (t := sY) (k := nY) (Below.refl _ _) 101
      rw [World.size_alloc] at h2
      exact h2
    case rest =>
    obtain ⟨rfl, P, X, Y, sX, sY, nX, nY, hPl, rfl, rfl, hzz, hX, hY, hE, h0, h1⟩ := hcut
    have hn := HN.out X Y hE h0 (fun e => by rw [← hX.2, ← hY.2]; exact h1 e)
    have hxb : nX ≤ max 1 r := by
      by_cases e : r = 0
      · rw [hX.2, (h0 e).1]; simp; omega
      · have := h1 e; omega
    have hyb : nY ≤ b := by rw [hY.2]; exact hn.2.1
    have hl := HL.out
    obtain ⟨sP, nP, hP, hPn, KM⟩ := r02_MulI (isI_nat q) hY (u64_lt_lim (by omega)) (u64_lt_lim (by omega)) (big_lim (Nat.lt_of_le_of_lt (Nat.mul_le_mul (Nat.le_trans hl.2.2.2.2 (Nat.le_of_lt hl.1)) (Nat.le_trans hyb (Nat.le_of_lt hl.2.1))) (by decide)))
    have hPb : nP < 1000000000000000000000000000000000000000 := by rw [hPn]; exact Nat.lt_of_le_of_lt (Nat.mul_le_mul (Nat.le_trans hl.2.2.2.2 (Nat.le_of_lt hl.1)) (Nat.le_trans hyb (Nat.le_of_lt hl.2.1))) (by decide)
    obtain ⟨sZ, nZ, hZ, KS⟩ := r02_SubI hX hP (u64_lt_lim (by omega)) (big_lim (by omega)) (big_lim (by omega))
    have HPL := Lib.hid hPl
    have HE : Hid (IsI Y sY nY ∧ IsI (X - (q : Int) * Y) sZ nZ ∧ (a : Int) * Y + b * (X - (q : Int) * Y) = (G : Nat) ∧ (b = 0 → Y = 1 ∧ X - (q : Int) * Y = 0) ∧ (b ≠ 0 → nY ≤ b ∧ nZ ≤ max 1 a)) :=
      Lib.hid ⟨hY, hZ, hn.1, fun e => absurd e hl.2.2.1, fun _ => ⟨hyb, by rw [hZ.2]; exact hn.2.2⟩⟩
    have KM := Lib.hid KM
    have KS := Lib.hid KS
    have HZZ := Lib.hid hzz
    obtain ⟨c0, c1, _, _⟩ : ZI wc (P + 1) sY nY := hzz.hd
    clear hzz hX hY hE h0 h1 hn hxb hyb hl hP hPn hPb hZ HN hPl
    have ne0 : wc.heap.size ≠ P + 1 := Nat.ne_of_gt HZZ.out.hd.lt
    go_upto_region 5 with fail
    go_cut [13] (fun a13 wx => ∃ g, a13 = .pointer (some ⟨g, 0, none⟩) ∧ HZ w [(g, sP, nP), (P + 1, sY, nY), (P, sX, nX), (w.heap.size + 1, false, 0), (w.heap.size, false, 0)] wx)
    case first =>
      go_region_held3 (fun w' => w'.cell? ⟨P + 1, 0, none⟩ = some (.bool sY) ∧ w'.cell? ⟨P + 1, 1, none⟩ = some (.string (B nY))) (first | go_keep | exact ⟨far2c c0 ne0, far2c c1 ne0⟩ | exact ⟨far2c c0 ne3, far2c c1 ne3⟩ | exact ⟨far2c c0 ne4, far2c c1 ne4⟩) (first
        | (go_at_call 146; (with_reducible refine (KF.out _).mono ?_); rintro e w3 ⟨rfl, hb3⟩
           have HB3 : Hid (Below wc.heap.size wc w3) := by first | exact Lib.hid hb3 | exact Lib.hid (((Below.refl _ wc).drew).trans hb3) | exact Lib.hid (below2 ((Below.refl _ wc).alloc (Nat.le_refl _) _) hb3) | exact Lib.hid (below2 (((Below.refl _ wc).alloc (Nat.le_refl _) _).drew) hb3) | exact Lib.hid (below2 (((Below.refl _ wc).drew).alloc (Nat.le_refl _) _) hb3)
           have c0 := (HB3.out.cell (p := ⟨P + 1, 0, none⟩) HZZ.out.hd.lt).trans HZZ.out.hd.c0
           have c1 := (HB3.out.cell (p := ⟨P + 1, 1, none⟩) HZZ.out.hd.lt).trans HZZ.out.hd.c1
           have ne3 : w3.heap.size ≠ P + 1 := Nat.ne_of_gt (Nat.lt_of_lt_of_le HZZ.out.hd.lt HB3.out.size)
           first | (have HN3 := Lib.hid ((ZI.zero wc 101).next hb3)) | (have HN3 := Lib.hid ((ZI.zero wc 101).drew.next hb3)) | skip
           clear hb3)
        | (go_at_call 147; (with_reducible refine (KM.out _).mono ?_); rintro e w4 ⟨rfl, hb4⟩
           have HB4 : Hid (Below wc.heap.size wc w4) := by first | exact Lib.hid (below2 HB3.out hb4) | exact Lib.hid (below2 HB3.out (((Below.refl _ w3).drew).trans hb4)) | exact Lib.hid (below2 HB3.out (below2 ((Below.refl _ w3).alloc (Nat.le_refl _) _) hb4)) | exact Lib.hid (below2 HB3.out (below2 (((Below.refl _ w3).alloc (Nat.le_refl _) _).drew) hb4))
           have c0 := (HB4.out.cell (p := ⟨P + 1, 0, none⟩) HZZ.out.hd.lt).trans HZZ.out.hd.c0
           have c1 := (HB4.out.cell (p := ⟨P + 1, 1, none⟩) HZZ.out.hd.lt).trans HZZ.out.hd.c1
           have ne4 : w4.heap.size ≠ P + 1 := Nat.ne_of_gt (Nat.lt_of_lt_of_le HZZ.out.hd.lt HB4.out.size)
           first | (have HN4 := Lib.hid (HN3.out.next hb4); obtain ⟨m0, m1, m2, m3⟩ := HN4.out) | (have HN4 := Lib.hid (HN3.out.drew.next hb4); obtain ⟨m0, m1, m2, m3⟩ := HN4.out) | (have HN4 := Lib.hid ((ZI.zero w3 101).next hb4); obtain ⟨m0, m1, m2, m3⟩ := HN4.out) | (have HN4 := Lib.hid ((ZI.zero w3 101).drew.next hb4); obtain ⟨m0, m1, m2, m3⟩ := HN4.out) | skip
           clear hb4))
      all_goals
        go_wp2_with fail
        go_meet
        first
          | exact ⟨_, rfl, HZZ.out.new HB4.out _⟩
          | exact ⟨_, rfl, HZZ.out.put HB4.out HN4.out (Nat.le_refl _)⟩
          | exact ⟨_, rfl, HZZ.out.put HB4.out HN4.out HB3.out.size⟩
    case rest =>
    obtain ⟨g, rfl, hz2⟩ := hcut
    have HZ2 := Lib.hid hz2
    obtain ⟨p0, p1, _, _⟩ : ZI wc g sP nP := hz2.hd
    obtain ⟨x0, x1, _, _⟩ : ZI wc P sX nX := hz2.tl.tl.hd
    clear hz2 c0 c1 ne0 HZZ
    go_upto_region 6 with fail
    go_cut [15] (fun a15 wx => ∃ g2, w.heap.size + 1 < g2 ∧ a15 = .pointer (some ⟨g2, 0, none⟩) ∧ HZ w [(g2, sZ, nZ), (g, sP, nP), (P + 1, sY, nY), (P, sX, nX), (w.heap.size + 1, false, 0), (w.heap.size, false, 0)] wx)
    case first =>
      go_wp2_with (first
        | (go_at_call 161; (with_reducible refine (KS.out _).mono ?_); rintro e w5 ⟨rfl, hb5⟩; have HB5 := Lib.hid hb5; clear hb5))
      go_meet
      exact ⟨_, Nat.lt_of_lt_of_le HZ2.out.tl.tl.tl.hd.lt HB5.out.size, rfl, HZ2.out.new HB5.out _⟩
    case rest =>
    obtain ⟨g2, hg2, rfl, hz3⟩ := hcut
    have HZ3 := Lib.hid hz3
    obtain ⟨z0, z1, _, _⟩ : ZI wc g2 sZ nZ := hz3.hd
    obtain ⟨y0, y1, _, _⟩ : ZI wc (P + 1) sY nY := hz3.tl.tl.hd
    obtain ⟨s0, s1, s2, s3⟩ : ZI wc (w.heap.size + 1) false 0 := hz3.tl.tl.tl.tl.hd
    obtain ⟨r0, r1, r2, r3⟩ : ZI wc w.heap.size false 0 := hz3.tl.tl.tl.tl.tl.hd
    clear hz3 p0 p1 x0 x1 HZ2
    go_upto_region 7 with fail
    have N1 := Lib.hid (show w.heap.size ≠ P + 1 by have := HPL.out; omega)
    have N2 := Lib.hid (show w.heap.size + 1 ≠ P + 1 by have := HPL.out; omega)
    have N3 := Lib.hid (show w.heap.size ≠ g2 by omega)
    have N4 := Lib.hid (show w.heap.size + 1 ≠ g2 by omega)
    clear hg2
    go_region_held3 (fun w' => (w'.cell? ⟨P + 1, 0, none⟩ = some (.bool sY) ∧ w'.cell? ⟨P + 1, 1, none⟩ = some (.string (B nY))) ∧ (w'.cell? ⟨g2, 0, none⟩ = some (.bool sZ) ∧ w'.cell? ⟨g2, 1, none⟩ = some (.string (B nZ))))
      (first | ((refine ⟨⟨?_, ?_⟩, ?_, ?_⟩) <;> ((repeat (first | (rw [World.cell?_drew]) | (refine far2c ?_ N1.out) | (refine far2c ?_ N2.out) | (refine far2c ?_ N3.out) | (refine far2c ?_ N4.out))) <;> assumption)) | go_keep) (fail)
    all_goals
      go_wp2_with fail
      have hz3 := HZ3.out
      have R0 : ZI wc w.heap.size false 0 := hz3.tl.tl.tl.tl.tl.hd
      have S0 : ZI wc (w.heap.size + 1) false 0 := hz3.tl.tl.tl.tl.hd
      obtain ⟨a0, a1, _, _⟩ := (R0.set (t := sY) (k := nY)).far2 (b := w.heap.size + 1) (v := .bool sZ) (u := .string (B nZ)) (by simp)
      obtain ⟨b0, b1, _, _⟩ := (S0.far2 (b := w.heap.size) (v := .bool sY) (u := .string (B nY)) (by simp)).set (t := sZ) (k := nZ)
      have hbel := (((hz3.bel.setCell (p := ⟨w.heap.size, 0, none⟩) (Nat.le_refl _) (.bool sY)).setCell (p := ⟨w.heap.size, 1, none⟩) (Nat.le_refl _) (.string (B nY))).setCell (p := ⟨w.heap.size + 1, 0, none⟩) (Nat.le_succ _) (.bool sZ)).setCell (p := ⟨w.heap.size + 1, 1, none⟩) (Nat.le_succ _) (.string (B nZ))
      exact bodyPost_ret (v := .tuple #[.string (B G), .agg #[.bool sY, .string (B nY)], .agg #[.bool sZ, .string (B nZ)]]) (by simp [results, Tryz.results144, go_sem, a0, a1, b0, b1]) rfl ⟨⟨Y, X - (q : Int) * Y, sY, sZ, nY, nZ, rfl, HE.out⟩, by first | exact hbel | exact hbel.drew⟩

end Go.Proofs.YtapplggboepfaaaGreatDoor

