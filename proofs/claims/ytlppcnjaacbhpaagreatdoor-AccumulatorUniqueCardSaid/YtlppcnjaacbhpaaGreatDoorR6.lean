/- The walks of the reference of layer 1: sums and differences of any length. -/
import Derived.Test.YtlppcnjaacbhpaaGreatDoorR3
namespace Go.Proofs.YtlppcnjaacbhpaaGreatDoor
open Go.RowKit
set_option maxRecDepth 100000
set_option linter.unusedVariables false
set_option maxHeartbeats 400000

theorem r01_Plus_b (a b : ByteArray) (w : World) (sa : a.size ≤ 200) (sb : b.size ≤ 200) :
    Calls Tryz.prog 92 #[.string a, .string b] w fun e w' => e = .returned (.string (B (num a + num b))) ∧ Below w.heap.size w w' := by
  have la := Lib.hid (num_lt a)
  have lb := Lib.hid (num_lt b)
  obtain ⟨m, hm⟩ : ∃ m : Nat, max a.size b.size = m := ⟨_, rfl⟩
  have ma : a.size ≤ m := by omega
  have mb : b.size ≤ m := by omega
  have mm : m ≤ 200 := by omega
  have hmx : max (a.size : Int) (b.size : Int) = (m : Int) := by omega
  clear hm
  have hmk := make_bytes (m + 1) (by omega)
  rw [show ((m + 1 : Nat) : Int) = (m : Int) + 1 by omega] at hmk
  go_enter Tryz.func92, Tryz.ntmps92
  go_wp2_with fail
  go_loopw [7, 8, 9] (fun c k _ wr => ∃ i : Nat, i ≤ m + 1 ∧ k = .int .i64 i ∧ c = .int .i64 (carryAt (num a) (num b) i : Nat) ∧ Bk wr w.heap.size 5 (fill (m + 1) i (num a + num b)) ∧ Below w.heap.size w wr) (fun _ k _ _ => m + 1 - (intOf k).toNat)
  case atStart => exact ⟨0, by omega, rfl, by rw [carryAt_zero]; rfl, by rw [fill_zero]; exact Bk.new w 5 (List.replicate (m + 1) 0), (Below.refl _ _).alloc (Nat.le_refl _) _⟩
  case round =>
    obtain ⟨i, hi, rfl, rfl, hbk, hbel⟩ := hrel
    by_cases hlt : i < m + 1
    · have HB := Lib.hid hbk
      have hc := hbk.cell (k := m - i) (by rw [fill_length _ hi]; omega)
      have hf := hbk.free (m - i)
      have hcl := carryAt_le (num a) (num b) i
      have h1 := carryAt_digit (num a) (num b) i
      have h2 := carryAt_next (num a) (num b) i
      generalize carryAt (num a) (num b) i = c at *
      obtain ⟨da, hda⟩ : ∃ d, num a / 256 ^ i % 256 = d := ⟨_, rfl⟩
      obtain ⟨db, hdb⟩ : ∃ d, num b / 256 ^ i % 256 = d := ⟨_, rfl⟩
      have da1 : da ≤ 255 := by omega
      have db1 : db ≤ 255 := by omega
      rw [hda, hdb] at h1 h2
      have H1 := Lib.hid h1
      have H2 := Lib.hid h2
      have HA := Lib.hid hda
      have HD := Lib.hid hdb
      clear hbk h1 h2 hda hdb
      go_wp2_with (first | (go_at_call 90; (with_reducible refine (r01_at' a _ _ _ (by omega) (by omega) HA).mono ?_); rintro e w' ⟨rfl, rfl⟩) | (go_at_call 90; (with_reducible refine (r01_at' b _ _ _ (by omega) (by omega) HD).mono ?_); rintro e w' ⟨rfl, rfl⟩))
      go_roundw
      case rel =>
        refine ⟨i + 1, by omega, by go_num, ?_, ?_, hbel.setCell (by simp) _⟩
        · rw [← H2.out, show ((da : Int) + (db : Int) + (c : Int)) = ((c + (da + db) : Nat) : Int) by omega]; congr 1
        · rw [show ((da : Int) + (db : Int) + (c : Int)) = ((c + (da + db) : Nat) : Int) by omega, u8_wrap_nat]
          have := HB.out.set (m - i) (UInt8.ofNat (c + (da + db)))
          rw [show UInt8.ofNat (c + (da + db)) = UInt8.ofNat ((num a + num b) / 256 ^ i) from UInt8.toNat_inj.mp (by rw [toNat_ofNat8, toNat_ofNat8, H1.out])] at this ⊢
          rw [show m - i = m + 1 - 1 - i by omega, fill_set _ hlt] at this
          exact this
      case measure => simp [intOf]; omega
    · obtain rfl : i = m + 1 := by omega
      rw [fill_full] at hbk
      have HB := Lib.hid hbk
      have HT := Lib.hid (trimL_be (num_add_lt la.out lb.out ma mb))
      clear hbk
      go_wp2_with (first | (go_at_call 59; (refine (r01_trim' w.heap.size (be (m + 1) (num a + num b)) (m + 1) (m + 1) _ _ (be_length _ _) (by omega) (by omega) HB.out.row HT.out).mono ?_); rintro e w' ⟨rfl, rfl⟩))
      go_ret
      exact ⟨rfl, hbel⟩
theorem r01_Plus (x y : Nat) (w : World) (sa : (B x).size ≤ 200) (sb : (B y).size ≤ 200) :
    Calls Tryz.prog 92 #[.string (B x), .string (B y)] w fun e w' => e = .returned (.string (B (x + y))) ∧ Below w.heap.size w w' := by
  have := r01_Plus_b (B x) (B y) w sa sb
  rwa [num_B, num_B] at this
theorem r01_Minus_b (a b : ByteArray) (w : World) (sa : a.size ≤ 200) (sb : b.size ≤ 200) (hle : num b ≤ num a) :
    Calls Tryz.prog 77 #[.string a, .string b] w fun e w' => e = .returned (.string (B (num a - num b))) ∧ Below w.heap.size w w' := by
  have la := Lib.hid (num_lt a)
  have hmk := make_bytes a.size (by omega)
  have HLE := Lib.hid hle
  clear hle
  go_enter Tryz.func77, Tryz.ntmps77
  go_wp2_with fail
  go_loopw [7, 8, 9] (fun c k _ wr => ∃ i : Nat, i ≤ a.size ∧ k = .int .i64 i ∧ c = .int .i64 (borrowAt (num a) (num b) i : Nat) ∧ Bk wr w.heap.size 5 (fill a.size i (num a - num b)) ∧ Below w.heap.size w wr) (fun _ k _ _ => a.size - (intOf k).toNat)
  case atStart => exact ⟨0, by omega, rfl, by rw [borrowAt_zero]; rfl, by rw [fill_zero]; exact Bk.new w 5 (List.replicate a.size 0), (Below.refl _ _).alloc (Nat.le_refl _) _⟩
  case round =>
    obtain ⟨i, hi, rfl, rfl, hbk, hbel⟩ := hrel
    by_cases hlt : i < a.size
    · have HB := Lib.hid hbk
      have hc := hbk.cell (k := a.size - 1 - i) (by rw [fill_length _ hi]; omega)
      have hf := hbk.free (a.size - 1 - i)
      have hcl := borrowAt_le (num a) (num b) i
      have h1 := borrowAt_digit (num a) (num b) i HLE.out
      have h2 := borrowAt_next (num a) (num b) i
      generalize borrowAt (num a) (num b) i = c at *
      obtain ⟨da, hda⟩ : ∃ d, num a / 256 ^ i % 256 = d := ⟨_, rfl⟩
      obtain ⟨db, hdb⟩ : ∃ d, num b / 256 ^ i % 256 = d := ⟨_, rfl⟩
      have da1 : da ≤ 255 := by omega
      have db1 : db ≤ 255 := by omega
      rw [hda, hdb] at h1 h2
      have H1 := Lib.hid h1
      have H2 := Lib.hid h2
      have HA := Lib.hid hda
      have HD := Lib.hid hdb
      clear hbk h1 h2 hda hdb
      have fin : ∀ z : Int, (((num a - num b) / 256 ^ i % 256 : Nat) : Int) = z → Bk (wr.setCell ⟨w.heap.size, a.size - 1 - i, none⟩ (.int .u8 z)) w.heap.size 5 (fill a.size (i + 1) (num a - num b)) := by
        intro z hz
        have := HB.out.set (a.size - 1 - i) (UInt8.ofNat ((num a - num b) / 256 ^ i))
        rw [fill_set _ hlt, toNat_ofNat8, hz] at this
        exact this
      have FIN := Lib.hid fin
      clear fin
      by_cases hneg : da < db + c
      all_goals
        go_wp2_with (first | (go_at_call 90; (with_reducible refine (r01_at' a _ _ _ (by omega) (by omega) HA).mono ?_); rintro e w' ⟨rfl, rfl⟩) | (go_at_call 90; (with_reducible refine (r01_at' b _ _ _ (by omega) (by omega) HD).mono ?_); rintro e w' ⟨rfl, rfl⟩))
        go_roundw
        case rel =>
          refine ⟨i + 1, by omega, by go_num, ?_, FIN.out _ ?_, hbel.setCell (by simp) _⟩
          · rw [H2.out]; first | rw [if_pos hneg] | rw [if_neg hneg]
            rfl
          · rw [H1.out]; first | rw [if_pos hneg] | rw [if_neg hneg]
        case measure => simp [intOf]; omega
    · obtain rfl : i = a.size := by omega
      rw [fill_full] at hbk
      have HB := Lib.hid hbk
      have HT := Lib.hid (trimL_be (Nat.lt_of_le_of_lt (Nat.sub_le (num a) (num b)) la.out))
      clear hbk
      go_wp2_with (first | (go_at_call 59; (refine (r01_trim' w.heap.size (be a.size (num a - num b)) a.size a.size _ _ (be_length _ _) (by omega) (by omega) HB.out.row HT.out).mono ?_); rintro e w' ⟨rfl, rfl⟩))
      go_ret
      exact ⟨rfl, hbel⟩

theorem r01_Minus (x y : Nat) (w : World) (sa : (B x).size ≤ 200) (sb : (B y).size ≤ 200) (hle : y ≤ x) :
    Calls Tryz.prog 77 #[.string (B x), .string (B y)] w fun e w' => e = .returned (.string (B (x - y))) ∧ Below w.heap.size w w' := by
  have := r01_Minus_b (B x) (B y) w sa sb (by rw [num_B, num_B]; exact hle)
  rwa [num_B, num_B] at this

end Go.Proofs.YtlppcnjaacbhpaaGreatDoor
