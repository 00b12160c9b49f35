/- The walks of package natural, second part. -/
import Derived.Test.YtfggpgiinihflaaDoorW1
namespace Go.Proofs.YtfggpgiinihflaaDoor
open Go.RowKit
set_option maxRecDepth 100000
set_option linter.unusedVariables false
set_option maxHeartbeats 400000

theorem natural_less (a b : ByteArray) (w : World) (sa : a.size ≤ 128) (sb : b.size ≤ 128) (hle : num b ≤ num a) :
    Calls Tryd.prog 68 #[.string a, .string b] w fun e w' => e = .returned (.string (B (num a - num b))) ∧ Below w.heap.size w w' := by
  have la := Lib.hid (num_lt a)
  have hmk := make_bytes a.size (by omega)
  have HLE := Lib.hid hle
  clear hle
  go_enter Tryd.func68, Tryd.ntmps68
  go_wp2
  go_loopw [7, 15] (fun c k wr => ∃ i : Nat, i ≤ a.size ∧ k = .int .i64 i ∧ c = .int .i64 (borrowAt (num a) (num b) i : Nat) ∧ Bk wr w.heap.size 5 (fill a.size i (num a - num b)) ∧ Below w.heap.size w wr) (fun _ k _ => a.size - (intOf k).toNat)
  case atStart => exact ⟨0, by omega, rfl, by rw [borrowAt_zero]; rfl, by rw [fill_zero]; exact Bk.new w 5 (List.replicate a.size 0), (Below.refl _ _).alloc (Nat.le_refl _) _⟩
  case round =>
    obtain ⟨i, hi, rfl, rfl, hbk, hbel⟩ := hrel
    by_cases hlt : i < a.size
    · have HB := Lib.hid hbk
      have hc := hbk.cell (k := a.size - 1 - i) (by rw [fill_length _ hi]; omega)
      have hf := hbk.free (a.size - 1 - i)
      have hcl := borrowAt_le (num a) (num b) i
      have h1 := borrowAt_digit (num a) (num b) i HLE.out
      have h2 := borrowAt_next (num a) (num b) i
      generalize borrowAt (num a) (num b) i = c at *
      obtain ⟨da, hda⟩ : ∃ d, num a / 256 ^ i % 256 = d := ⟨_, rfl⟩
      obtain ⟨db, hdb⟩ : ∃ d, num b / 256 ^ i % 256 = d := ⟨_, rfl⟩
      have da1 : da ≤ 255 := by omega
      have db1 : db ≤ 255 := by omega
      rw [hda, hdb] at h1 h2
      have H1 := Lib.hid h1
      have H2 := Lib.hid h2
      have HA := Lib.hid hda
      have HD := Lib.hid hdb
      clear hbk h1 h2 hda hdb
      have fin : ∀ z : Int, (((num a - num b) / 256 ^ i % 256 : Nat) : Int) = z → Bk (wr.setCell ⟨w.heap.size, a.size - 1 - i, none⟩ (.int .u8 z)) w.heap.size 5 (fill a.size (i + 1) (num a - num b)) := by
        intro z hz
        have := HB.out.set (a.size - 1 - i) (UInt8.ofNat ((num a - num b) / 256 ^ i))
        rw [fill_set _ hlt, toNat_ofNat8, hz] at this
        exact this
      have FIN := Lib.hid fin
      clear fin
      by_cases hneg : da < db + c
      all_goals
        go_wp2_with (first | (go_at_call 63; (with_reducible refine (natural_digit' a _ _ _ (by omega) (by omega) HA).mono ?_); rintro e w' ⟨rfl, rfl⟩) | (go_at_call 63; (with_reducible refine (natural_digit' b _ _ _ (by omega) (by omega) HD).mono ?_); rintro e w' ⟨rfl, rfl⟩))
        go_roundw
        case rel =>
          refine ⟨i + 1, by omega, by go_num, ?_, FIN.out _ ?_, hbel.setCell (by simp) _⟩
          · rw [H2.out]; first | rw [if_pos hneg] | rw [if_neg hneg]
            rfl
          · rw [H1.out]; first | rw [if_pos hneg] | rw [if_neg hneg]
        case measure => simp [intOf]; omega
    · obtain rfl : i = a.size := by omega
      rw [fill_full] at hbk
      have HB := Lib.hid hbk
      have HT := Lib.hid (trimL_be (Nat.lt_of_le_of_lt (Nat.sub_le (num a) (num b)) la.out))
      clear hbk
      go_wp2_with (first | (go_at_call 53; (refine (natural_trimmed' w.heap.size (be a.size (num a - num b)) a.size a.size _ _ (be_length _ _) (by omega) HB.out.row HT.out).mono ?_); rintro e w' ⟨rfl, rfl⟩))
      go_ret
      exact ⟨rfl, hbel⟩

theorem natural_less' (x y : Nat) (w : World) (hx : x < lim) (hy : y < lim) (hle : y ≤ x) :
    Calls Tryd.prog 68 #[.string (B x), .string (B y)] w fun e w' => e = .returned (.string (B (x - y))) ∧ Below w.heap.size w w' := by
  have := natural_less (B x) (B y) w (B_size_le.2 hx) (B_size_le.2 hy) (by rw [num_B, num_B]; exact hle)
  rw [num_B, num_B] at this
  exact this
theorem cmpN_neg {x y : Nat} : (cmpN x y < 0) ↔ x < y := by
  unfold cmpN
  split
  · simp [*]
  · split <;> simp [*]
theorem valid_num_lt {s : ByteArray} (h : valid s = true) : num s < lim := by
  obtain ⟨n, hn, rfl⟩ := (valid_iff s).1 h
  rw [num_B]; exact hn
theorem natural_Sub (a b : ByteArray) (w : World) :
    Calls Tryd.prog 56 #[.string a, .string b] w fun e w' => e = .returned (.tuple #[.string (natSub a b).1, .int .i64 (natSub a b).2]) ∧ Below w.heap.size w w' := by
  by_cases hv : valid a = true ∧ valid b = true
  · obtain ⟨ha, hb⟩ := hv
    have hr : natSub a b = if num a < num b then (E0, 2) else (B (num a - num b), 0) := by unfold natSub; rw [ha, hb]; rfl
    have HR := Lib.hid hr
    clear hr
    have la := Lib.hid (valid_num_lt ha)
    have lb := Lib.hid (valid_num_lt hb)
    have ea := B_num ha
    have eb := B_num hb
    generalize num a = x at *
    generalize num b = y at *
    subst ea; subst eb
    by_cases hlt : x < y
    · have hc := cmpN_neg.2 hlt
      have HL := Lib.hid hlt
      clear hlt
      go_enter Tryd.func56, Tryd.ntmps56
      go_wp2_with (first | (go_at_call 33; refine (natural_Valid _ _).mono ?_; rintro e w' ⟨rfl, rfl⟩) | (go_at_call 60; refine (natural_compare _ _ _).mono ?_; rintro e w' ⟨rfl, rfl⟩))
      go_ret2
      exact ⟨ret_se (by rw [HR.out, if_pos HL.out]; rfl) (by rw [HR.out, if_pos HL.out]), Below.refl _ _⟩
    · have hc : ¬ cmpN x y < 0 := fun h => hlt (cmpN_neg.1 h)
      have HL := Lib.hid hlt
      clear hlt
      go_enter Tryd.func56, Tryd.ntmps56
      go_wp2_with (first | (go_at_call 33; refine (natural_Valid _ _).mono ?_; rintro e w' ⟨rfl, rfl⟩) | (go_at_call 60; refine (natural_compare _ _ _).mono ?_; rintro e w' ⟨rfl, rfl⟩) | (go_at_call 68; (refine (natural_less' x y _ la.out lb.out (Nat.le_of_not_lt HL.out)).mono ?_); rintro e w' ⟨rfl, hb1⟩))
      go_ret2
      exact ⟨ret_se (by rw [HR.out, if_neg HL.out]) (by rw [HR.out, if_neg HL.out]), hb1⟩
  · have hr : natSub a b = (E0, 3) := by unfold natSub; rw [if_neg (by rw [Bool.and_eq_true]; exact hv)]
    have HR := Lib.hid hr
    clear hr
    by_cases ha : valid a = true
    · have hb : valid b = false := by cases h : valid b with | false => rfl | true => exact absurd ⟨ha, h⟩ hv
      clear hv
      go_enter Tryd.func56, Tryd.ntmps56
      go_wp2_with (first | (go_at_call 33; refine (natural_Valid _ _).mono ?_; rintro e w' ⟨rfl, rfl⟩))
      go_ret2
      exact ⟨ret_se (by rw [HR.out]; rfl) (by rw [HR.out]), Below.refl _ _⟩
    · have ha' : valid a = false := by simpa using ha
      clear hv ha
      go_enter Tryd.func56, Tryd.ntmps56
      go_wp2_with (first | (go_at_call 33; refine (natural_Valid _ _).mono ?_; rintro e w' ⟨rfl, rfl⟩))
      go_ret2
      exact ⟨ret_se (by rw [HR.out]; rfl) (by rw [HR.out]), Below.refl _ _⟩

theorem natural_Of' (z : Int) (n : Nat) (w : World) (hz : z = n) (hn : n < 18446744073709551616) :
    Calls Tryd.prog 37 #[.int .u64 z] w fun e w' => e = .returned (.string (B n)) ∧ Below w.heap.size w w' := by
  subst hz
  exact natural_Of n w hn
theorem natSmall_B {x : Nat} (h : x < 18446744073709551616) : natSmall (B x) = (x, true) := by
  have h1 : (B x).size ≤ 8 := B_size_le'.2 h
  have h2 : valid (B x) = true := valid_B (Nat.lt_trans h (by decide))
  unfold natSmall
  rw [h2, num_B]
  simp [h1]
theorem natural_Small' (x : Nat) (w : World) (h : x < 18446744073709551616) :
    Calls Tryd.prog 36 #[.string (B x)] w fun e w' => e = .returned (.tuple #[.int .u64 (x : Nat), .bool true]) ∧ w = w' := by
  have := natural_Small (B x) w
  rw [natSmall_B h] at this
  exact this
theorem natural_divided_lt (x y : Nat) (w : World) (h : x < y) :
    Calls Tryd.prog 69 #[.string (B x), .string (B y)] w fun e w' => e = .returned (.tuple #[.string E0, .string (B x)]) ∧ w = w' := by
  have hc := cmpN_neg.2 h
  have H := Lib.hid h
  clear h
  go_enter Tryd.func69, Tryd.ntmps69
  go_wp2_with (first | (go_at_call 60; refine (natural_compare _ _ _).mono ?_; rintro e w' ⟨rfl, rfl⟩))
  go_ret2
  exact ⟨rfl, rfl⟩
theorem natural_divided_small (x y : Nat) (w : World) (hx : x < 18446744073709551616) (hy : 0 < y) (h : y ≤ x) :
    Calls Tryd.prog 69 #[.string (B x), .string (B y)] w fun e w' => e = .returned (.tuple #[.string (B (x / y)), .string (B (x % y))]) ∧ Below w.heap.size w w' := by
  have hc : ¬ cmpN x y < 0 := fun h' => by have := cmpN_neg.1 h'; omega
  have hs : (B x).size ≤ 8 := B_size_le'.2 hx
  have HX := Lib.hid hx
  clear hx
  go_enter Tryd.func69, Tryd.ntmps69
  go_wp2_with (first | (go_at_call 60; refine (natural_compare _ _ _).mono ?_; rintro e w' ⟨rfl, rfl⟩) | (go_at_call 36; (with_reducible refine (natural_Small' x _ HX.out).mono ?_); rintro e w' ⟨rfl, rfl⟩) | (go_at_call 36; (with_reducible refine (natural_Small' y _ (Nat.lt_of_le_of_lt h HX.out)).mono ?_); rintro e w' ⟨rfl, rfl⟩))
  have hq : IntKind.u64.wrap ((x : Int) / (y : Int)) = ((x / y : Nat) : Int) := by
    have h1 : x / y < 18446744073709551616 := Nat.lt_of_le_of_lt (Nat.div_le_self x y) HX.out
    have h2 : ((x : Int) / (y : Int)) = ((x / y : Nat) : Int) := by simp
    rw [h2, IntKind.wrap_u64]
    generalize x / y = q at *
    omega
  have hm : ((x : Int).tmod (y : Int)) = ((x % y : Nat) : Int) := by rw [Int.tmod_eq_emod_of_nonneg (by omega)]; simp
  have hql : x / y < 18446744073709551616 := Nat.lt_of_le_of_lt (Nat.div_le_self x y) HX.out
  have hml : x % y < 18446744073709551616 := Nat.lt_of_le_of_lt (Nat.mod_le x y) HX.out
  have hq2 : ((x : Int) / (y : Int)) = ((x / y : Nat) : Int) := by simp
  have hm2 : ((x : Int) % (y : Int)) = ((x % y : Nat) : Int) := by simp
  have HQ := Lib.hid hq
  have HM := Lib.hid hm
  have HQ2 := Lib.hid hq2
  have HM2 := Lib.hid hm2
  have HQL := Lib.hid hql
  have HML := Lib.hid hml
  clear hq hm hq2 hm2 hql hml
  go_region_with (first | (go_at_call 37; (with_reducible refine (natural_Of' _ _ _ HQ.out HQL.out).mono ?_); rintro e w' ⟨rfl, hb1⟩) | (go_at_call 37; (with_reducible refine (natural_Of' _ _ _ HQ2.out HQL.out).mono ?_); rintro e w' ⟨rfl, hb1⟩) | (go_at_call 37; (with_reducible refine (natural_Of' _ _ _ HM.out HML.out).mono ?_); rintro e w' ⟨rfl, hb2⟩) | (go_at_call 37; (with_reducible refine (natural_Of' _ _ _ HM2.out HML.out).mono ?_); rintro e w' ⟨rfl, hb2⟩))
  all_goals
    go_wp2
    go_ret2
    exact ⟨rfl, ((Below.refl _ _).drew.trans hb1).trans (hb2.mono hb1.size)⟩

theorem natural_divided8 (x y : Nat) (w : World) (hx : x < 18446744073709551616 ∨ x < y) (hy : 0 < y) :
    Calls Tryd.prog 69 #[.string (B x), .string (B y)] w fun e w' => e = .returned (.tuple #[.string (B (x / y)), .string (B (x % y))]) ∧ Below w.heap.size w w' := by
  by_cases h : x < y
  · refine (natural_divided_lt x y w h).mono ?_
    rintro e w' ⟨rfl, rfl⟩
    rw [Nat.div_eq_of_lt h, Nat.mod_eq_of_lt h]
    exact ⟨rfl, Below.refl _ _⟩
  · exact natural_divided_small x y w (by omega) hy (by omega)
theorem B_isEmpty (n : Nat) : (B n).toList.isEmpty = decide (n = 0) := by
  rw [ByteArray.toList_eq]
  show (enc n).isEmpty = _
  rw [Bool.eq_iff_iff, List.isEmpty_iff, decide_eq_true_eq]
  exact ⟨enc_eq_nil, fun h => by subst h; rfl⟩
theorem B_isEmpty_true : (B 0).toList.isEmpty = true := by rw [B_isEmpty]; rfl
theorem B_isEmpty_false {n : Nat} (h : n ≠ 0) : (B n).toList.isEmpty = false := by rw [B_isEmpty]; simpa using h
def strNum : Value → Nat
  | .string s => num s
  | _ => 0
theorem natural_DivMod (a b : ByteArray) (w : World) (h : valid a = true → num a < 18446744073709551616 ∨ num a < num b) :
    Calls Tryd.prog 57 #[.string a, .string b] w fun e w' => e = .returned (.tuple #[.string (natDivMod a b).1, .string (natDivMod a b).2.1, .int .i64 (natDivMod a b).2.2]) ∧ Below w.heap.size w w' := by
  by_cases hv : valid a = true ∧ valid b = true
  · obtain ⟨ha, hb⟩ := hv
    replace h := h ha
    have hr : natDivMod a b = if num b = 0 then (E0, E0, 11) else (B (num a / num b), B (num a % num b), 0) := by unfold natDivMod; rw [ha, hb]; rfl
    have HR := Lib.hid hr
    clear hr
    have ea := B_num ha
    have eb := B_num hb
    generalize num a = x at *
    generalize num b = y at *
    subst ea; subst eb
    by_cases hz : y = 0
    · subst hz
      have he := B_isEmpty_true
      clear h
      go_enter Tryd.func57, Tryd.ntmps57
      go_wp2_with (first | (go_at_call 33; refine (natural_Valid _ _).mono ?_; rintro e w' ⟨rfl, rfl⟩))
      go_ret3
      exact ⟨ret_ssi (by rw [HR.out]; rfl) (by rw [HR.out]; rfl) (by rw [HR.out]; rfl), Below.refl _ _⟩
    · have he := B_isEmpty_false hz
      have HZ := Lib.hid hz
      have H := Lib.hid h
      clear h hz
      go_enter Tryd.func57, Tryd.ntmps57
      go_wp2_with (first | (go_at_call 33; refine (natural_Valid _ _).mono ?_; rintro e w' ⟨rfl, rfl⟩) | (go_at_call 69; (with_reducible refine (natural_divided8 x y _ H.out (Nat.pos_of_ne_zero HZ.out)).mono ?_); rintro e w' ⟨rfl, hb1⟩))
      go_ret3
      exact ⟨ret_ssi (by rw [HR.out, if_neg HZ.out]) (by rw [HR.out, if_neg HZ.out]) (by rw [HR.out, if_neg HZ.out]), hb1⟩
  · have hr : natDivMod a b = (E0, E0, 3) := by unfold natDivMod; rw [if_neg (by rw [Bool.and_eq_true]; exact hv)]
    have HR := Lib.hid hr
    clear hr h
    by_cases ha : valid a = true
    · have hb : valid b = false := by cases h : valid b with | false => rfl | true => exact absurd ⟨ha, h⟩ hv
      clear hv
      go_enter Tryd.func57, Tryd.ntmps57
      go_wp2_with (first | (go_at_call 33; refine (natural_Valid _ _).mono ?_; rintro e w' ⟨rfl, rfl⟩))
      go_ret3
      exact ⟨ret_ssi (by rw [HR.out]; rfl) (by rw [HR.out]; rfl) (by rw [HR.out]), Below.refl _ _⟩
    · have ha' : valid a = false := by simpa using ha
      clear hv ha
      go_enter Tryd.func57, Tryd.ntmps57
      go_wp2_with (first | (go_at_call 33; refine (natural_Valid _ _).mono ?_; rintro e w' ⟨rfl, rfl⟩))
      go_ret3
      exact ⟨ret_ssi (by rw [HR.out]; rfl) (by rw [HR.out]; rfl) (by rw [HR.out]), Below.refl _ _⟩
theorem i64_and_nat (a b : Nat) (ha : a < 9223372036854775808) (hb : b < 9223372036854775808) : bits .and .i64 (a : Int) (b : Int) = ((a &&& b : Nat) : Int) := by
  have hx : a &&& b < 2 ^ 63 := Nat.and_lt_two_pow _ (by omega)
  show IntKind.i64.wrap ((BitVec.ofInt 64 (a : Int) &&& BitVec.ofInt 64 (b : Int)).toNat : Int) = _
  rw [BitVec.toNat_and, ofInt_u64 a (by omega), ofInt_u64 b (by omega)]
  simp only [IntKind.wrap, IntKind.bits, IntKind.signed]
  generalize a &&& b = c at hx
  simp
  omega
theorem i64_or_nat (a b : Nat) (ha : a < 9223372036854775808) (hb : b < 9223372036854775808) : bits .or .i64 (a : Int) (b : Int) = ((a ||| b : Nat) : Int) := by
  have hx : a ||| b < 2 ^ 63 := Nat.or_lt_two_pow (by omega) (by omega)
  show IntKind.i64.wrap ((BitVec.ofInt 64 (a : Int) ||| BitVec.ofInt 64 (b : Int)).toNat : Int) = _
  rw [BitVec.toNat_or, ofInt_u64 a (by omega), ofInt_u64 b (by omega)]
  simp only [IntKind.wrap, IntKind.bits, IntKind.signed]
  generalize a ||| b = c at hx
  simp
  omega
theorem bit_test (d k : Nat) (hd : d < 256) : (bits .and .i64 ((d : Int) / 2 ^ k) 1 == 1) = (d / 2 ^ k % 2 == 1) := by
  have e : ((d : Int) / 2 ^ k) = ((d / 2 ^ k : Nat) : Int) := by simp
  have hl : d / 2 ^ k ≤ d := Nat.div_le_self _ _
  have := i64_and_nat (d / 2 ^ k) 1 (by omega) (by omega)
  rw [e]
  rw [show ((1 : Nat) : Int) = 1 from rfl] at this
  rw [this, nat_mask1]
  generalize d / 2 ^ k % 2 = r
  rw [Bool.eq_iff_iff, beq_iff_eq, beq_iff_eq]
  omega
theorem natural_digit_int (s : ByteArray) (z : Int) (i : Nat) (w : World) (hz : z = i) (hi : i ≤ 1000000) (hs : s.size ≤ 1000000) :
    Calls Tryd.prog 63 #[.string s, .int .i64 z] w fun e w' => e = .returned (.int .i64 ((num s / 256 ^ i % 256 : Nat) : Int)) ∧ w = w' := by
  subst hz
  exact natural_digit s i w hi hs
theorem natBit_digit (n i : Nat) : n / 256 ^ (i / 8) % 256 / 2 ^ (i % 8) % 2 = n / 2 ^ i % 2 := by
  have e : 2 ^ i = 256 ^ (i / 8) * 2 ^ (i % 8) := by
    rw [← pow_256, ← Nat.pow_add, Nat.div_add_mod]
  rw [e, ← Nat.div_div_eq_div_mul]
  generalize n / 256 ^ (i / 8) = m
  have h8 : i % 8 < 8 := Nat.mod_lt _ (by omega)
  generalize i % 8 = k at h8
  match k, h8 with
  | 0, _ => omega
  | 1, _ => omega
  | 2, _ => omega
  | 3, _ => omega
  | 4, _ => omega
  | 5, _ => omega
  | 6, _ => omega
  | 7, _ => omega
theorem natBit_high (a : ByteArray) (i : Nat) (h : a.size ≤ i / 8) : num a / 2 ^ i % 2 = 0 := by
  have h1 := num_lt a
  have h2 : 256 ^ a.size ≤ 2 ^ i := by
    rw [← pow_256]
    exact Nat.pow_le_pow_right (by omega) (by omega)
  rw [Nat.div_eq_of_lt (by omega)]
theorem natural_Bit (a : ByteArray) (z : Int) (i : Nat) (w : World) (hz : z = i) (hi : i ≤ 100000) (sa : a.size ≤ 100000) :
    Calls Tryd.prog 50 #[.string a, .int .i64 z] w fun e w' => e = .returned (.bool (natBit a i)) ∧ w = w' := by
  subst hz
  by_cases hv : valid a = true
  · by_cases hlt : i / 8 < a.size
    · have hr : natBit a i = (((num a / 256 ^ (i / 8) % 256 / 2 ^ (i % 8) % 2 : Nat)) == 1) := by unfold natBit; rw [hv, natBit_digit]; rfl
      have HR := Lib.hid hr
      clear hr
      obtain ⟨d, hd⟩ : ∃ d, num a / 256 ^ (i / 8) % 256 = d := ⟨_, rfl⟩
      have d1 : d < 256 := by omega
      have HD := Lib.hid hd
      clear hd
      have hz : ((i : Int) / 8) = ((i / 8 : Nat) : Int) := by simp
      have HZ := Lib.hid hz
      clear hz
      go_enter Tryd.func50, Tryd.ntmps50
      go_wp2_with (first | (go_at_call 33; refine (natural_Valid _ _).mono ?_; rintro e w' ⟨rfl, rfl⟩) | (go_at_call 63; (with_reducible refine (natural_digit_int a _ (i / 8) _ HZ.out (by omega) (by omega)).mono ?_); rintro e w' ⟨rfl, rfl⟩; rw [HD.out]))
      go_ret
      exact ⟨ret_bool (by rw [HR.out, HD.out, ← bit_test _ _ d1]), rfl⟩
    · have hr : natBit a i = false := by unfold natBit; rw [natBit_high a i (by omega)]; simp
      have HR := Lib.hid hr
      clear hr
      go_enter Tryd.func50, Tryd.ntmps50
      go_wp2_with (first | (go_at_call 33; refine (natural_Valid _ _).mono ?_; rintro e w' ⟨rfl, rfl⟩))
      go_ret
      exact ⟨ret_bool HR.out.symm, rfl⟩
  · have hv' : valid a = false := by simpa using hv
    have hr : natBit a i = false := by unfold natBit; rw [hv']; rfl
    have HR := Lib.hid hr
    clear hr hv
    go_enter Tryd.func50, Tryd.ntmps50
    go_wp2_with (first | (go_at_call 33; refine (natural_Valid _ _).mono ?_; rintro e w' ⟨rfl, rfl⟩))
    go_ret
    exact ⟨ret_bool HR.out.symm, rfl⟩

end Go.Proofs.YtfggpgiinihflaaDoor
