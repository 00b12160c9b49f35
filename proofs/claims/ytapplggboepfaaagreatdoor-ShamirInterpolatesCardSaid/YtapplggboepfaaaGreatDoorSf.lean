/- The reference's shamir (19): valid, field, below, add, sub, mul, Value, Eval; 03.Add, 03.Sub; 01.Sub. -/
import Derived.Test.YtapplggboepfaaaGreatDoorSe
import Derived.Test.YtapplggboepfaaaGreatDoorPQ
import Derived.Test.YtapplggboepfaaaGreatDoorR8
import Derived.Test.YtapplggboepfaaaGreatDoorSE
namespace Go.Proofs.YtapplggboepfaaaGreatDoor
open Go.RowKit
set_option maxRecDepth 100000
set_option linter.unusedVariables false
set_option maxHeartbeats 4000000

theorem r01_SubV (x y : Nat) (w : World) (hx : x < lim) (hle : y ≤ x) :
    Calls Tryz.prog 115 #[.string (B x), .string (B y)] w fun e w' => e = .returned (.tuple #[.string (B (x - y)), .int .i64 0]) ∧ Below w.heap.size w w' := by
  have hy : y < lim := Nat.lt_of_le_of_lt hle hx
  have KV := Lib.hid (fun w => r01_Valid (B x) w)
  have KW := Lib.hid (fun w => r01_Valid (B y) w)
  rw [valid_B hx] at KV
  rw [valid_B hy] at KW
  have sx : (B x).size ≤ 200 := Nat.le_trans (valid_size (valid_B hx)) (by decide)
  have sy : (B y).size ≤ 200 := Nat.le_trans (valid_size (valid_B hy)) (by decide)
  have KO := fun w => r01_Order x y w (by omega) (by omega)
  have KM := Lib.hid (fun w => r01_Minus x y w sx sy hle)
  obtain ⟨r, hr⟩ : ∃ r, r = x - y := ⟨_, rfl⟩
  rw [← hr] at KM ⊢
  rcases Nat.lt_or_ge y x with h | h
  · rw [cmpN_gt h] at KO
    have KO := Lib.hid KO
    clear hx hle hy hr sx sy h
    go_enter Tryz.func115, Tryz.ntmps115
    go_wp2_with (first
      | (go_at_call 32; (with_reducible refine (KV.out _).mono ?_); rintro e w1 ⟨rfl, rfl⟩)
      | (go_at_call 32; (with_reducible refine (KW.out _).mono ?_); rintro e w1 ⟨rfl, rfl⟩)
      | (go_at_call 111; (with_reducible refine (KO.out _).mono ?_); rintro e w2 ⟨rfl, hb2⟩; have HB2 := Lib.hid hb2; clear hb2)
      | (go_at_call 140; (with_reducible refine (KM.out _).mono ?_); rintro e w3 ⟨rfl, hb3⟩; have HB3 := Lib.hid hb3; clear hb3))
    go_ret2
    exact ⟨rfl, below2 HB2.out HB3.out⟩
  · rw [show cmpN x y = 0 by unfold cmpN; rw [if_neg (by omega), if_pos (by omega)]] at KO
    have KO := Lib.hid KO
    clear hx hle hy hr sx sy h
    go_enter Tryz.func115, Tryz.ntmps115
    go_wp2_with (first
      | (go_at_call 32; (with_reducible refine (KV.out _).mono ?_); rintro e w1 ⟨rfl, rfl⟩)
      | (go_at_call 32; (with_reducible refine (KW.out _).mono ?_); rintro e w1 ⟨rfl, rfl⟩)
      | (go_at_call 111; (with_reducible refine (KO.out _).mono ?_); rintro e w2 ⟨rfl, hb2⟩; have HB2 := Lib.hid hb2; clear hb2)
      | (go_at_call 140; (with_reducible refine (KM.out _).mono ?_); rintro e w3 ⟨rfl, hb3⟩; have HB3 := Lib.hid hb3; clear hb3))
    go_ret2
    exact ⟨rfl, below2 HB2.out HB3.out⟩
theorem r03_check3 (a b m : Nat) (T : TypeId) (w : World) (ha : a < lim) (hb : b < lim) (hm : m < lim) (h0 : m ≠ 0) :
    Calls Tryz.prog 113 #[.slice (some ⟨w.heap.size, 0, none⟩) 3 3] (w.alloc (.cells #[.string (B a), .string (B b), .string (B m)] T)) fun e w' => e = .returned (.int .i64 0) ∧ (w.alloc (.cells #[.string (B a), .string (B b), .string (B m)] T)) = w' :=
  r03_check [B a, B b, B m] 3 w.heap.size _ rfl (by decide) (by decide) (SRow.new w T [B a, B b, B m]) (fun j hj => by
    match j, hj with
    | 0, _ => exact valid_B ha
    | 1, _ => exact valid_B hb
    | 2, _ => exact valid_B hm) (B_isEmpty_false h0)
theorem r03_Add (x y m : Nat) (w : World) (hx : x < 18446744073709551616) (hy : y < 18446744073709551616) (hm : m < 18446744073709551616) (h0 : 0 < m) :
    Calls Tryz.prog 82 #[.string (B x), .string (B y), .string (B m)] w fun e w' => e = .returned (.tuple #[.string (B ((x + y) % m)), .int .i64 0]) ∧ Below w.heap.size w w' := by
  have HCK := Lib.hid (fun T => r03_check3 x y m T w (u64_lt_lim hx) (u64_lt_lim hy) (u64_lt_lim hm) (by omega))
  have K1 := Lib.hid (fun w => r03_Mod x m w (u64_lt_lim hx) (u64_lt_lim hm) h0)
  have K2 := Lib.hid (fun w => r03_Mod y m w (u64_lt_lim hy) (u64_lt_lim hm) h0)
  have ha := Nat.mod_lt x h0
  have hb := Nat.mod_lt y h0
  have hs := Nat.add_mod x y m
  generalize x % m = a at K1 ha hs
  generalize y % m = b at K2 hb hs
  have K3 := Lib.hid (fun w => r01_AddV a b w (u64_lt_lim (by omega)) (u64_lt_lim (by omega)) (k_lim (by omega)))
  have K4 := Lib.hid (fun w => r03_Mod (a + b) m w (k_lim (by omega)) (u64_lt_lim hm) h0)
  rw [← hs] at K4
  generalize (x + y) % m = r at K4 ⊢
  generalize a + b = s at K3 K4
  clear hx hy hm h0 ha hb hs
  go_enter Tryz.func82, Tryz.ntmps82
  go_wp2_with (first
    | (go_at_call 113; (with_reducible refine (HCK.out _).mono ?_); rintro e w1 ⟨rfl, rfl⟩)
    | (go_at_call 57; (with_reducible refine (K1.out _).mono ?_); rintro e w2 ⟨rfl, hb2⟩; have HB2 := Lib.hid (below2 ((Below.refl _ _).alloc (Nat.le_refl _) _) hb2); clear hb2)
    | (go_at_call 57; (with_reducible refine (K2.out _).mono ?_); rintro e w3 ⟨rfl, hb3⟩; have HB3 := Lib.hid (below2 HB2.out hb3); clear hb3)
    | (go_at_call 114; (with_reducible refine (K3.out _).mono ?_); rintro e w4 ⟨rfl, hb4⟩; have HB4 := Lib.hid (below2 HB3.out hb4); clear hb4)
    | (go_at_call 57; (with_reducible refine (K4.out _).mono ?_); rintro e w5 ⟨rfl, hb5⟩; have HB5 := Lib.hid (below2 HB4.out hb5); clear hb5))
  go_ret2
  exact ⟨rfl, HB5.out⟩
theorem r03_Sub (x y m : Nat) (w : World) (hx : x < 18446744073709551616) (hy : y < 18446744073709551616) (hm : m < 18446744073709551616) (h0 : 0 < m) :
    Calls Tryz.prog 80 #[.string (B x), .string (B y), .string (B m)] w fun e w' => e = .returned (.tuple #[.string (B ((x % m + (m - y % m)) % m)), .int .i64 0]) ∧ Below w.heap.size w w' := by
  have HCK := Lib.hid (fun T => r03_check3 x y m T w (u64_lt_lim hx) (u64_lt_lim hy) (u64_lt_lim hm) (by omega))
  have K1 := Lib.hid (fun w => r03_Mod x m w (u64_lt_lim hx) (u64_lt_lim hm) h0)
  have K2 := Lib.hid (fun w => r03_Mod y m w (u64_lt_lim hy) (u64_lt_lim hm) h0)
  have ha := Nat.mod_lt x h0
  have hb := Nat.mod_lt y h0
  generalize x % m = a at K1 ha ⊢
  generalize y % m = b at K2 hb ⊢
  have K3 := Lib.hid (fun w => r01_AddV a m w (u64_lt_lim (by omega)) (u64_lt_lim hm) (k_lim (by omega)))
  have K4 := Lib.hid (fun w => r01_SubV (a + m) b w (k_lim (by omega)) (by omega))
  have K5 := Lib.hid (fun w => r03_Mod (a + m - b) m w (k_lim (by omega)) (u64_lt_lim hm) h0)
  have e : a + (m - b) = a + m - b := by omega
  rw [e]
  generalize (a + m - b) % m = r at K5 ⊢
  generalize a + m - b = t at K4 K5
  generalize a + m = s at K3 K4
  clear hx hy hm h0 ha hb e
  go_enter Tryz.func80, Tryz.ntmps80
  go_wp2_with (first
    | (go_at_call 113; (with_reducible refine (HCK.out _).mono ?_); rintro e w1 ⟨rfl, rfl⟩)
    | (go_at_call 57; (with_reducible refine (K1.out _).mono ?_); rintro e w2 ⟨rfl, hb2⟩; have HB2 := Lib.hid (below2 ((Below.refl _ _).alloc (Nat.le_refl _) _) hb2); clear hb2)
    | (go_at_call 114; (with_reducible refine (K3.out _).mono ?_); rintro e w4 ⟨rfl, hb4⟩; have HB4 := Lib.hid (below2 HB2.out hb4); clear hb4)
    | (go_at_call 57; (with_reducible refine (K2.out _).mono ?_); rintro e w3 ⟨rfl, hb3⟩; have HB3 := Lib.hid (below2 HB4.out hb3); clear hb3)
    | (go_at_call 115; (with_reducible refine (K4.out _).mono ?_); rintro e w6 ⟨rfl, hb6⟩; have HB6 := Lib.hid (below2 HB3.out hb6); clear hb6)
    | (go_at_call 57; (with_reducible refine (K5.out _).mono ?_); rintro e w5 ⟨rfl, hb5⟩; have HB5 := Lib.hid (below2 HB6.out hb5); clear hb5))
  go_ret2
  exact ⟨rfl, HB5.out⟩
theorem r19_add (q x y : Nat) (w : World) (hx : x < q) (hy : y < q) (hm : q < 18446744073709551616) :
    Calls Tryz.prog 60 #[.string (B q), .string (B x), .string (B y)] w fun e w' => e = .returned (.string (B ((x + y) % q))) ∧ Below w.heap.size w w' := by
  have K := Lib.hid (fun w => r03_Add x y q w (by omega) (by omega) hm (by omega))
  generalize (x + y) % q = r at K ⊢
  clear hx hy hm
  go_enter Tryz.func60, Tryz.ntmps60
  go_wp2_with (go_at_call 82; (with_reducible refine (K.out _).mono ?_); rintro e w2 ⟨rfl, hb2⟩)
  go_ret
  exact ⟨rfl, hb2⟩
theorem r19_sub (q x y : Nat) (w : World) (hx : x < q) (hy : y < q) (hm : q < 18446744073709551616) :
    Calls Tryz.prog 58 #[.string (B q), .string (B x), .string (B y)] w fun e w' => e = .returned (.string (B ((x % q + (q - y % q)) % q))) ∧ Below w.heap.size w w' := by
  have K := Lib.hid (fun w => r03_Sub x y q w (by omega) (by omega) hm (by omega))
  generalize (x % q + (q - y % q)) % q = r at K ⊢
  clear hx hy hm
  go_enter Tryz.func58, Tryz.ntmps58
  go_wp2_with (go_at_call 80; (with_reducible refine (K.out _).mono ?_); rintro e w2 ⟨rfl, hb2⟩)
  go_ret
  exact ⟨rfl, hb2⟩
theorem r19_mul (q x y : Nat) (w : World) (hx : x < q) (hy : y < q) (hm : q < 18446744073709551616) :
    Calls Tryz.prog 59 #[.string (B q), .string (B x), .string (B y)] w fun e w' => e = .returned (.string (B (x * y % q))) ∧ Below w.heap.size w w' := by
  have K := Lib.hid (fun w => r03_Mul x y q w hx hy hm)
  generalize x * y % q = r at K ⊢
  clear hx hy hm
  go_enter Tryz.func59, Tryz.ntmps59
  go_wp2_with (go_at_call 81; (with_reducible refine (K.out _).mono ?_); rintro e w2 ⟨rfl, hb2⟩)
  go_ret
  exact ⟨rfl, hb2⟩
theorem r19_valid (vals : List ByteArray) (A : Option Addr) (n c : Nat) (w : World) (hn : vals.length = n) (hm : n ≤ 1000) (h : SLs w w.heap.size A vals) :
    Calls Tryz.prog 36 #[.slice A n c] w fun e w' => e = .returned (.bool (vals.all valid)) ∧ w = w' := by
  have HS := Lib.hid h
  have HN := Lib.hid hn
  clear h hn
  go_enter Tryz.func36, Tryz.ntmps36
  go_wp2_with fail
  go_loop [3] (fun v => ∃ j : Nat, v = .int .i64 j ∧ j ≤ n ∧ ∀ i, i < j → valid (vals.getD i ByteArray.empty) = true) (fun v => n - (intOf v).toNat)
  case atStart => exact ⟨0, rfl, Nat.zero_le _, fun i h => absurd h (Nat.not_lt_zero _)⟩
  case round =>
    obtain ⟨j, rfl, hj, hvl⟩ := hrel
    have HVL := Lib.hid hvl
    clear hvl
    by_cases hlt : j < n
    · obtain ⟨ad, rfl, hcx⟩ := HS.out.at_ (k := j) (by rw [HN.out]; exact hlt)
      obtain ⟨x, hx⟩ : ∃ x, vals.getD j ByteArray.empty = x := ⟨_, rfl⟩
      rw [hx] at hcx
      have j1 : decide (j < n) = true := decide_eq_true hlt
      have KV := fun w => r01_Valid x w
      have HX := Lib.hid hx
      have HJ := Lib.hid hlt
      clear hx hlt
      cases hv : valid x
      · rw [hv] at KV
        have KV := Lib.hid KV
        have HV := Lib.hid hv
        clear hv
        go_wp2_with (go_at_call 32; (with_reducible refine (KV.out _).mono ?_); rintro e w1 ⟨rfl, rfl⟩)
        go_ret
        refine ⟨ret_bool ?_, rfl⟩
        exact (all_not' (k := j) (by rw [HN.out]; exact HJ.out) (by rw [HX.out]; exact HV.out)).symm
      · rw [hv] at KV
        have KV := Lib.hid KV
        have HV := Lib.hid hv
        clear hv
        go_wp2_with (go_at_call 32; (with_reducible refine (KV.out _).mono ?_); rintro e w1 ⟨rfl, rfl⟩)
        go_round
        case rel => exact ⟨j + 1, by go_num, HJ.out, fun i hi => by
          by_cases e : i = j
          · subst e; rw [HX.out]; exact HV.out
          · exact HVL.out i (by omega)⟩
        case measure => have := HJ.out; simp [intOf]; omega
    · obtain rfl : j = n := by omega
      have j1 : decide (j < j) = false := decide_eq_false (Nat.lt_irrefl _)
      clear hlt hj
      go_wp2_with fail
      go_ret
      refine ⟨ret_bool ?_, rfl⟩
      exact (all_of' (fun i hi => HVL.out i (by rw [← HN.out]; exact hi))).symm
theorem r19_field (q : ByteArray) (w : World) :
    Calls Tryz.prog 37 #[.string q] w fun e w' => e = .returned (.int .i64 (isE q)) ∧ Below w.heap.size w w' := by
  have hie : isE q = if (isPS q).2 = 0 then (if (isPS q).1 = true then 0 else 12) else (isPS q).2 := rfl
  have KI := fun w => r04_Is q w
  obtain ⟨b, hb⟩ : ∃ b, b = (isPS q).1 := ⟨_, rfl⟩
  obtain ⟨er, her⟩ : ∃ er, er = (isPS q).2 := ⟨_, rfl⟩
  rw [← hb, ← her] at hie
  simp only [← hb, ← her] at KI
  have KI := Lib.hid KI
  rw [hie]
  clear hie hb her
  by_cases h0 : er = 0
  · subst h0
    cases b
    all_goals
      go_enter Tryz.func37, Tryz.ntmps37
      go_wp2_with (go_at_call 54; (with_reducible refine (KI.out _).mono ?_); rintro e w2 ⟨rfl, hb2⟩)
      go_ret
      exact ⟨rfl, hb2⟩
  · have k0 : (er == 0) = false := by rw [beq_eq_false_iff_ne]; exact h0
    have H0 := Lib.hid h0
    clear h0
    go_enter Tryz.func37, Tryz.ntmps37
    go_wp2_with (go_at_call 54; (with_reducible refine (KI.out _).mono ?_); rintro e w2 ⟨rfl, hb2⟩)
    go_ret
    exact ⟨ret_int (by first | rfl | rw [if_neg H0.out]), hb2⟩
theorem r19_below (q : ByteArray) (vals : List ByteArray) (A : Option Addr) (n c : Nat) (w : World) (hn : vals.length = n) (hm : n ≤ 1000) (h : SLs w w.heap.size A vals) :
    Calls Tryz.prog 56 #[.string q, .slice A n c] w fun e w' => e = .returned (.bool (blwS q vals)) ∧ Below w.heap.size w w' := by
  have HS := Lib.hid h
  have HN := Lib.hid hn
  clear h hn
  go_enter Tryz.func56, Tryz.ntmps56
  go_wp2_with fail
  go_loopw [5] (fun v wr => ∃ j : Nat, v = .int .i64 j ∧ j ≤ n ∧ (∀ i, i < j → decide (natCmp (vals.getD i ByteArray.empty) q < 0) = true) ∧ Below w.heap.size w wr) (fun v _ => n - (intOf v).toNat)
  case atStart => exact ⟨0, rfl, Nat.zero_le _, fun i h => absurd h (Nat.not_lt_zero _), Below.refl _ _⟩
  case round =>
    obtain ⟨j, rfl, hj, hvl, hb⟩ := hrel
    have HVL := Lib.hid hvl
    have HB := Lib.hid hb
    clear hvl
    by_cases hlt : j < n
    · obtain ⟨ad, rfl, hcx⟩ := (HS.out.to hb).at_ (k := j) (by rw [HN.out]; exact hlt)
      obtain ⟨x, hx⟩ : ∃ x, vals.getD j ByteArray.empty = x := ⟨_, rfl⟩
      rw [hx] at hcx
      have j1 : decide ((j : Int) < (n : Int)) = true := decide_eq_true (by omega)
      have j2 : (j : Int) < (n : Int) := by omega
      have KC := fun w => r01_Cmp x q w
      obtain ⟨cv, hcv⟩ : ∃ cv, cv = natCmp x q := ⟨_, rfl⟩
      simp only [← hcv] at KC
      have KC := Lib.hid KC
      have HX := Lib.hid hx
      have HJ := Lib.hid hlt
      have HCV := Lib.hid hcv
      have HW := Lib.hid (show wrap64 ((j : Int) + 1) = (j : Int) + 1 from IntWalk.wrap64_in _ (by omega))
      clear hx hlt hcv hb
      by_cases h0 : cv < 0
      · have c1 : decide (0 ≤ cv) = false := decide_eq_false (by omega)
        have H0 := Lib.hid h0
        clear h0
        go_wp2_with (go_at_call 78; (with_reducible refine (KC.out _).mono ?_); rintro e w1 ⟨rfl, hb1⟩; have HB1 := Lib.hid (HB.out.trans (hb1.mono HB.out.size)); clear hb1)
        go_roundw
        case rel => exact ⟨j + 1, by first | rfl | (rw [HW.out]; rfl), HJ.out, fun i hi => (by
          by_cases e : i = j
          · subst e; rw [HX.out, ← HCV.out]; exact decide_eq_true H0.out
          · exact HVL.out i (by omega)), HB1.out⟩
        case measure => have := HJ.out; (try rw [HW.out]); simp only [intOf]; omega
      · have c1 : decide (0 ≤ cv) = true := decide_eq_true (by omega)
        have H0 := Lib.hid h0
        clear h0
        go_wp2_with (go_at_call 78; (with_reducible refine (KC.out _).mono ?_); rintro e w1 ⟨rfl, hb1⟩; have HB1 := Lib.hid (HB.out.trans (hb1.mono HB.out.size)); clear hb1)
        go_ret
        refine ⟨ret_bool ?_, HB1.out⟩
        unfold blwS
        exact (all_not' (p := fun x => decide (natCmp x q < 0)) (k := j) (by rw [HN.out]; exact HJ.out) (by rw [HX.out, ← HCV.out]; exact decide_eq_false (by have := H0.out; omega))).symm
    · obtain rfl : j = n := by omega
      have j1 : decide ((j : Int) < (j : Int)) = false := decide_eq_false (by omega)
      clear hlt hj hb
      go_wp2_with fail
      go_ret
      refine ⟨ret_bool ?_, HB.out⟩
      unfold blwS
      exact (all_of' (p := fun x => decide (natCmp x q < 0)) (fun i hi => HVL.out i (by rw [← HN.out]; exact hi))).symm
theorem r19_Value (Q x : Nat) (cs : List Nat) (A : Option Addr) (n c : Nat) (w : World) (hQ : Q < 18446744073709551616) (hx : x < Q) (hc : ∀ a ∈ cs, a < Q) (hn : cs.length = n) (hm : n ≤ 1000) (h : SLs w w.heap.size A (cs.map B)) :
    Calls Tryz.prog 41 #[.string (B Q), .slice A n c, .string (B x)] w fun e w' => e = .returned (.string (B (valL Q x cs))) ∧ Below w.heap.size w w' := by
  have h2 : 0 < Q := by omega
  have HS := Lib.hid h
  have HN := Lib.hid hn
  have HQ := Lib.hid (And.intro hQ (And.intro h2 hx))
  have HC := Lib.hid hc
  have wn : wrap64 ((n : Int) - 1) = (n : Int) - 1 := IntWalk.wrap64_in _ (by omega)
  clear h hn hQ h2 hx hc
  go_enter Tryz.func41, Tryz.ntmps41
  go_wp2_with fail
  clear wn
  go_loopw [8, 7] (fun v y wr => ∃ i : Nat, v = .int .i64 ((i : Int) - 1) ∧ i ≤ n ∧ y = .string (B (valL Q x (cs.drop i))) ∧ Below w.heap.size w wr) (fun v _ _ => (intOf v + 1).toNat)
  case atStart => exact ⟨n, rfl, Nat.le_refl _, by rw [List.drop_of_length_le (by rw [HN.out]; exact Nat.le_refl _)]; rfl, Below.refl _ _⟩
  case round =>
    obtain ⟨i, rfl, hi, rfl, hb⟩ := hrel
    have HB := Lib.hid hb
    by_cases h0 : i = 0
    · subst h0
      have k1 : decide ((0 : Int) ≤ ((0 : Nat) : Int) - 1) = false := by decide
      clear hb hi
      go_wp2_with fail
      go_ret
      exact ⟨rfl, HB.out⟩
    · obtain ⟨k, rfl⟩ : ∃ k, i = k + 1 := ⟨i - 1, by omega⟩
      have hk : k < cs.length := by rw [HN.out]; omega
      obtain ⟨ad, rfl, hcx⟩ := (HS.out.to hb).at_ (k := k) (by rw [List.length_map]; exact hk)
      rw [map_B_getD cs hk] at hcx
      have hv := valL_drop (q := Q) (x := x) hk
      obtain ⟨d, hd⟩ : ∃ d, d = cs.getD k 0 := ⟨_, rfl⟩
      have hdQ : d < Q := by rw [hd, ← List.getElem_eq_getD (h := hk)]; exact HC.out _ (List.getElem_mem hk)
      obtain ⟨y, hy⟩ : ∃ y, y = valL Q x (cs.drop (k + 1)) := ⟨_, rfl⟩
      have hyQ : y < Q := by rw [hy]; exact valL_lt HQ.out.2.1 _
      rw [← hd] at hcx hv
      rw [← hy] at hv ⊢
      obtain ⟨m, hm2⟩ : ∃ m, m = y * x % Q := ⟨_, rfl⟩
      have hQ := HQ.out
      have hmQ : m < Q := by rw [hm2]; exact Nat.mod_lt _ hQ.2.1
      have KM := Lib.hid (fun w => r19_mul Q y x w hyQ hQ.2.2 hQ.1)
      have KA := Lib.hid (fun w => r19_add Q m d w hmQ hdQ hQ.1)
      rw [← hm2] at KM hv
      rw [← hv] at KA
      have e1 : (((k + 1 : Nat) : Int) - 1) = (k : Int) := by omega
      have HLK := Lib.hid hi
      rw [e1]
      have wk : wrap64 ((k : Int) - 1) = (k : Int) - 1 := IntWalk.wrap64_in _ (by omega)
      have HWK := Lib.hid wk
      clear hb hi h0 hk hv hd hdQ hy hyQ hm2 hQ hmQ e1 wk
      have k1 : decide ((0 : Int) ≤ (k : Int)) = true := decide_eq_true (by omega)
      have k2 : (k : Int) < (n : Int) := by have := HLK.out; omega
      have k3 : (0 : Int) ≤ (k : Int) := by omega
      go_wp2_with fail
      go_region_held3 (fun w' => w'.cell? (ad.add k) = some (.string (B d))) (first | go_keep) (first
        | (go_at_call 59; (with_reducible refine (KM.out _).mono ?_); rintro e w2 ⟨rfl, hb2⟩
           have HX2 : Hid (Below wr.heap.size wr w2) := by first | exact Lib.hid hb2 | exact Lib.hid (((Below.refl _ wr).drew).trans hb2)
           have hcx2 : w2.cell? (ad.add k) = some (.string (B d)) := (HX2.out.cell (p := ad.add k) (cell_in hcx)).trans hcx
           have HB2 := Lib.hid (HB.out.trans (HX2.out.mono HB.out.size))
           clear hb2)
        | (go_at_call 60; (with_reducible refine (KA.out _).mono ?_); rintro e w3 ⟨rfl, hb3⟩
           have HX3 : Hid (Below w2.heap.size w2 w3) := by first | exact Lib.hid hb3 | exact Lib.hid (((Below.refl _ w2).drew).trans hb3)
           have hcx3 : w3.cell? (ad.add k) = some (.string (B d)) := (HX3.out.cell (p := ad.add k) (cell_in hcx2)).trans hcx2
           have HB3 := Lib.hid (HB2.out.trans (HX3.out.mono HB2.out.size))
           clear hb3))
      all_goals
        go_wp2_with fail
        go_roundw
        case rel => exact ⟨k, by first | rfl | rw [HWK.out], by have := HLK.out; omega, rfl, by first | exact HB3.out | exact HB3.out.drew⟩
        case measure => (try rw [HWK.out]); simp only [intOf]; omega

end Go.Proofs.YtapplggboepfaaaGreatDoor
