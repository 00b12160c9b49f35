/- The walks of the reference of layer 1 (natural). -/
import Derived.Test.YtlppcnjaacbhpaaGreatDoorW4
namespace Go.Proofs.YtlppcnjaacbhpaaGreatDoor
open Go.RowKit
set_option maxRecDepth 100000
set_option linter.unusedVariables false
set_option maxHeartbeats 400000

theorem below_drewNr {B : Nat} {a w : World} (h : Below B a w) (n : Nat) : Below B a (w.drewN n) := ⟨h.os, h.tape, h.output, h.size, h.block⟩
theorem valid_pos' {s : ByteArray} (h : 0 < s.size) : valid s = (decide ((s.size : Int) ≤ 128) && ((s[0].toNat : Int) != 0)) := by
  have h1 : ((s.size : Int) == 0) = false := by rw [beq_eq_false_iff_ne]; omega
  rw [valid_pos h, h1, Bool.false_or]
theorem isEmpty_size {s : ByteArray} (h : 0 < s.size) : s.toList.isEmpty = false := by
  rw [ByteArray.toList_eq]
  obtain ⟨⟨l⟩⟩ := s
  cases l with
  | nil => simp [ByteArray.size] at h
  | cons b l => rfl
theorem r01_Valid (s : ByteArray) (w : World) :
    Calls Tryz.prog 31 #[.string s] w fun e w' => e = .returned (.bool (valid s)) ∧ w = w' := by
  by_cases h0 : 0 < s.size
  · have hv := Lib.hid (valid_pos' h0)
    have he := isEmpty_size h0
    go_enter Tryz.func31, Tryz.ntmps31
    go_wp2
    all_goals
      go_ret
      exact ⟨ret_bool (by rw [hv.out]; first | (simp [*]; done) | (simp; intros; omega)), rfl⟩
  · obtain rfl : s = ByteArray.empty := by
      apply ByteArray.ext
      apply Array.eq_empty_of_size_eq_zero
      show s.size = 0
      omega
    go_enter Tryz.func31, Tryz.ntmps31
    go_wp2
    go_ret
    exact ⟨rfl, rfl⟩

theorem r01_trim (g o : Nat) (L : List UInt8) (n cap : Nat) (w : World) (hn : L.length = n) (hnc : n ≤ cap) (hm : n ≤ 1000000) (hrow : Row w g o L) :
    Calls Tryz.prog 59 #[.slice (some ⟨g, o, none⟩) n cap] w fun e w' => e = .returned (.string ⟨(trimL L).toArray⟩) ∧ w = w' := by
  have HN := Lib.hid hn
  have HR := Lib.hid hrow
  clear hn hrow
  go_enter Tryz.func59, Tryz.ntmps59
  go_wp2
  go_loop [3] (fun v => ∃ k : Nat, k ≤ n ∧ trimL (L.drop k) = trimL L ∧ v = .int .i64 k) (fun v => n - (intOf v).toNat)
  case atStart => exact ⟨0, Nat.zero_le _, rfl, rfl⟩
  case round =>
    obtain ⟨k, hk, ht, rfl⟩ := hrel
    have HT := Lib.hid ht
    clear ht
    by_cases hlt : k < n
    · have hc := HR.out k (by have := HN.out; omega)
      by_cases h0 : L.getD k 0 = 0
      · have H0 := Lib.hid h0
        have hc0 : w.cell? ⟨g, o + k, none⟩ = some (.int .u8 0) := by rw [hc, h0]; rfl
        clear h0 hc
        go_wp2
        go_round
        case rel =>
          exact ⟨k + 1, by omega, by rw [← trimL_drop_zero (by have := HN.out; omega) H0.out, HT.out], by go_num⟩
        case measure => simp [intOf]; omega
      · obtain ⟨z, hz⟩ : ∃ z : Int, ((L.getD k 0).toNat : Int) = z := ⟨_, rfl⟩
        have hb : (z == 0) = false := by
          rw [beq_eq_false_iff_ne]; intro e; exact h0 (UInt8.toNat_inj.mp (by rw [e] at hz; simpa using hz))
        rw [hz] at hc
        have H0 := Lib.hid h0
        clear h0 hz
        have hcv := conv_row (HR.out.drop k) (n - k) (cap - k) (by have := HN.out; simp; omega)
        generalize hS : (⟨(List.drop k L).toArray⟩ : ByteArray) = S at hcv
        have HS := Lib.hid hS
        clear hS
        go_wp2
        go_ret
        exact ⟨ret_string (by rw [← HS.out, ← HT.out, trimL_drop_stop (by have := HN.out; omega) H0.out]), rfl⟩
    · obtain rfl : k = n := by omega
      have hcv := fun A => conv_row_zero w g A (cap - k)
      by_cases hcap : cap = k
      · subst hcap
        have hcv := fun A => conv_row_zero w g A 0
        go_wp2
        go_ret
        refine ⟨ret_string ?_, rfl⟩
        rw [← HT.out, List.drop_eq_nil_of_le (by have := HN.out; omega)]
        rfl
      · go_wp2
        go_ret
        refine ⟨ret_string ?_, rfl⟩
        rw [← HT.out, List.drop_eq_nil_of_le (by have := HN.out; omega)]
        rfl

theorem r01_Of (n : Nat) (w : World) (hn : n < 18446744073709551616) :
    Calls Tryz.prog 39 #[.int .u64 n] w fun e w' => e = .returned (.string (B n)) ∧ Below w.heap.size w w' := by
  have hmk : ∀ w, (Instr.makeSlice 101 (.int .i64 8) (.int .i64 8)).run Tryz.prog w = .ok (.slice (some ⟨w.heap.size, 0, none⟩) 8 8) (w.alloc (.cells (cellsOf (List.replicate 8 0)) 5)) := make_bytes 8 (by omega)
  go_enter Tryz.func39, Tryz.ntmps39
  go_wp2
  go_loopw [0, 4] (fun c k wr => ∃ i : Nat, i ≤ 8 ∧ k = .int .i64 (7 - (i : Int)) ∧ c = .int .u64 (n / 256 ^ i : Nat) ∧ Bk wr w.heap.size 5 (fill 8 i n) ∧ Below w.heap.size w wr) (fun _ k _ => (intOf k + 1).toNat)
  case atStart => exact ⟨0, by omega, rfl, by rw [Nat.pow_zero, Nat.div_one], by rw [fill_zero]; exact Bk.new w 5 (List.replicate 8 0), (Below.refl _ _).alloc (Nat.le_refl _) _⟩
  case round =>
    obtain ⟨i, hi, rfl, rfl, hb, hbel⟩ := hrel
    by_cases hlt : i < 8
    · have HB := Lib.hid hb
      have hc := hb.cell (k := 7 - i) (by rw [fill_length _ hi]; omega)
      have hf := hb.free (7 - i)
      obtain ⟨z, hz⟩ : ∃ z : Int, 7 - (i : Int) = z := ⟨_, rfl⟩
      have hzz : z.toNat = 7 - i := by omega
      have z0 : 0 ≤ z := by omega
      have z1 : z ≤ 7 := by omega
      have HZ := Lib.hid hz
      have hnn : n / 256 ^ i < 18446744073709551616 := Nat.lt_of_le_of_lt (Nat.div_le_self _ _) hn
      have hnx : n / 256 ^ i / 256 = n / 256 ^ (i + 1) := by rw [Nat.div_div_eq_div_mul, ← Nat.pow_succ]
      have hset := fill_set (N := 8) n hlt
      have HSET := Lib.hid hset
      clear hset
      generalize n / 256 ^ i = m at *
      rw [hz]
      have HNX := Lib.hid hnx
      clear hb hz hnx
      go_wp2
      go_roundw
      case rel =>
        refine ⟨i + 1, by omega, by have := HZ.out; rw [show z - 1 = 7 - ((i + 1 : Nat) : Int) by omega], by rw [← HNX.out]; rfl, ?_, hbel.setCell (by simp) _⟩
        rw [u8_wrap_nat]
        have := HB.out.set (7 - i) (UInt8.ofNat m)
        rw [show 7 - i = 8 - 1 - i by omega, HSET.out] at this
        rw [show 7 - i = 8 - 1 - i by omega]
        exact this
      case measure => simp [intOf]; omega
    · obtain rfl : i = 8 := by omega
      rw [fill_full] at hb
      have HB := Lib.hid hb
      clear hb
      go_wp2_with (go_at_call 59; refine (r01_trim w.heap.size 0 (be 8 n) 8 8 _ (be_length _ _) (by omega) (by omega) HB.out.row).mono ?_; rintro e w' ⟨rfl, rfl⟩)
      go_ret
      exact ⟨ret_string (by rw [trimL_be (by omega)]; rfl), hbel⟩

/-- Any bytes' number, cut to 64 bits. -/
theorem r01_U64 (s : ByteArray) (w : World) (h : s.size ≤ 8) :
    Calls Tryz.prog 32 #[.string s] w fun e w' => e = .returned (.int .u64 (num s : Nat)) ∧ w = w' := by
  have HE := Lib.hid (show num s = val (s.data.toList.take s.size) by rw [size_eq, List.take_length]; rfl)
  go_enter Tryz.func32, Tryz.ntmps32
  go_wp2
  go_loop [3, 4] (fun n c => ∃ i : Nat, i ≤ s.size ∧ c = .int .i64 i ∧ n = .int .u64 (val (s.data.toList.take i) : Nat)) (fun _ c => s.size - (intOf c).toNat)
  case atStart => exact ⟨0, by omega, rfl, rfl⟩
  case round =>
    obtain ⟨i, hi, rfl, rfl⟩ := hrel
    by_cases hlt : i < s.size
    · have h1 := val_take_lt s.data.toList (i + 1)
      have h2 : 256 ^ (i + 1) ≤ 256 ^ 8 := Nat.pow_le_pow_right (by omega) (by omega)
      have h3 : (s.data.toList)[i]'(by rw [← size_eq]; exact hlt) = s[i] := rfl
      have h4 := val_take_succ s.data.toList i (by rw [← size_eq]; exact hlt)
      rw [h3] at h4
      have h5 : val (s.data.toList.take i) * 256 + s[i].toNat < 18446744073709551616 := by rw [← h4]; omega
      have H4 := Lib.hid h4
      have h6 := s[i].toNat_lt
      clear h1 h2 h3 h4
      generalize val (s.data.toList.take i) = v at *
      go_wp2
      go_round
      case rel => exact ⟨i + 1, by omega, by go_num, by rw [H4.out]; go_num⟩
      case measure => simp [intOf]; omega
    · obtain rfl : i = s.size := by omega
      go_wp2
      go_ret
      exact ⟨ret_int (by rw [HE.out]), rfl⟩
theorem r01_Small (s : ByteArray) (w : World) :
    Calls Tryz.prog 14 #[.string s] w fun e w' => e = .returned (.tuple #[.int .u64 (natSmall s).1, .bool (natSmall s).2]) ∧ w = w' := by
  cases hv : valid s
  · have HR := Lib.hid (show natSmall s = (0, false) by unfold natSmall; simp [hv])
    go_enter Tryz.func14, Tryz.ntmps14
    go_wp2_with (go_at_call 31; refine (r01_Valid _ _).mono ?_; rintro e w' ⟨rfl, rfl⟩)
    go_ret2
    exact ⟨ret_ib (by rw [HR.out]; rfl) (by rw [HR.out]), rfl⟩
  · by_cases h8 : s.size ≤ 8
    · have HR := Lib.hid (show natSmall s = (num s, true) by unfold natSmall; rw [hv]; simp [h8])
      go_enter Tryz.func14, Tryz.ntmps14
      go_wp2_with (first | (go_at_call 31; refine (r01_Valid _ _).mono ?_; rintro e w' ⟨rfl, rfl⟩) | (go_at_call 32; refine (r01_U64 _ _ h8).mono ?_; rintro e w' ⟨rfl, rfl⟩))
      go_ret2
      exact ⟨ret_ib (by rw [HR.out]) (by rw [HR.out]), rfl⟩
    · have HR := Lib.hid (show natSmall s = (0, false) by unfold natSmall; simp [h8])
      go_enter Tryz.func14, Tryz.ntmps14
      go_wp2_with (first | (go_at_call 31; refine (r01_Valid _ _).mono ?_; rintro e w' ⟨rfl, rfl⟩))
      go_ret2
      exact ⟨ret_ib (by rw [HR.out]; rfl) (by rw [HR.out]), rfl⟩
theorem r01_at (s : ByteArray) (i : Nat) (w : World) (hi : i ≤ 1000000) (hs : s.size ≤ 1000000) :
    Calls Tryz.prog 90 #[.string s, .int .i64 i] w fun e w' => e = .returned (.int .i64 ((num s / 256 ^ i % 256 : Nat) : Int)) ∧ w = w' := by
  by_cases h : i < s.size
  · have hd := Lib.hid (num_digit s i h)
    go_enter Tryz.func90, Tryz.ntmps90
    go_wp2
    go_ret
    refine ⟨ret_int ?_, rfl⟩
    rw [wrap64_byte, hd.out]
  · have hd := Lib.hid (num_digit_high s i (by omega))
    go_enter Tryz.func90, Tryz.ntmps90
    go_wp2
    go_ret
    exact ⟨ret_int (by rw [hd.out]; rfl), rfl⟩
theorem val_first_lt {l m : List UInt8} {k : Nat} (hl : l.length = m.length) (hk : k < l.length) (ht : l.take k = m.take k) (h : l[k].toNat < (m[k]'(by omega)).toNat) : val l < val m := by
  have e1 : l = l.take k ++ l[k] :: l.drop (k + 1) := by
    conv => lhs; rw [← List.take_append_drop k l]
    rw [List.drop_eq_getElem_cons hk]
  have hk' : k < m.length := by omega
  have e2 : m = m.take k ++ m[k] :: m.drop (k + 1) := by
    conv => lhs; rw [← List.take_append_drop k m]
    rw [List.drop_eq_getElem_cons hk']
  rw [e1, e2, ht, val_append, val_append, val_cons, val_cons]
  have d : (l.drop (k + 1)).length = (m.drop (k + 1)).length := by simp; omega
  have h1 := val_lt (l.drop (k + 1))
  simp only [List.length_cons, d] at *
  generalize 256 ^ (m.drop (k + 1)).length = p at *
  have h2 := Nat.mul_le_mul_right p (show l[k].toNat + 1 ≤ m[k].toNat by omega)
  rw [Nat.add_mul, Nat.one_mul] at h2
  omega
theorem r01_Order (x y : Nat) (w : World) (sx : (B x).size ≤ 1000000) (sy : (B y).size ≤ 1000000) :
    Calls Tryz.prog 76 #[.string (B x), .string (B y)] w fun e w' => e = .returned (.int .i64 (cmpN x y)) ∧ Below w.heap.size w w' := by
  have ex := num_B x
  have ey := num_B y
  have hsx := fun h => length_lt_of_val (l := enc x) (m := enc y) (lead_enc y) h
  have hsy := fun h => length_lt_of_val (l := enc y) (m := enc x) (lead_enc x) h
  rw [val_enc, val_enc, ← B_size, ← B_size] at hsx hsy
  generalize B x = a at *
  generalize B y = b at *
  have HX := Lib.hid ex
  have HY := Lib.hid ey
  have HSX := Lib.hid hsx
  have HSY := Lib.hid hsy
  clear ex ey hsx hsy
  by_cases hs : a.size = b.size
  · have HS := Lib.hid hs
    have hb : ((a.size : Int) != (b.size : Int)) = false := by rw [hs]; simp
    clear hs
    go_enter Tryz.func76, Tryz.ntmps76
    go_wp2
    go_loopw [5] (fun c wr => ∃ i : Nat, i ≤ a.size ∧ c = .int .i64 i ∧ a.data.toList.take i = b.data.toList.take i ∧ Below w.heap.size w wr) (fun c _ => a.size - (intOf c).toNat)
    case atStart => exact ⟨0, by omega, rfl, rfl, Below.refl _ _⟩
    case round =>
      obtain ⟨i, hi, rfl, ht, hbel⟩ := hrel
      have HT := Lib.hid ht
      clear ht
      by_cases hlt : i < a.size
      · have hlt2 : i < b.size := by rw [← HS.out]; exact hlt
        have ga : (a.data.toList)[i]'(by rw [← size_eq]; exact hlt) = a[i] := rfl
        have gb : (b.data.toList)[i]'(by rw [← size_eq]; exact hlt2) = b[i] := rfl
        have hts : a.data.toList.take (i + 1) = b.data.toList.take (i + 1) ↔ a[i] = b[i] := by
          rw [List.take_succ_eq_append_getElem (by rw [← size_eq]; exact hlt), List.take_succ_eq_append_getElem (by rw [← size_eq]; exact hlt2), HT.out, ga, gb]
          simp
        have HTS := Lib.hid hts
        have h255a := a[i].toNat_lt
        have h255b := b[i].toNat_lt
        clear hts ga gb
        by_cases heq : a[i] = b[i]
        · have hb1 : ((a[i].toNat : Int) != (b[i].toNat : Int)) = false := by rw [heq]; simp
          have HEQ := Lib.hid heq
          clear heq
          go_wp2
          go_quiet (fail)
          all_goals
            go_wp2
            go_roundw
            case rel => exact ⟨i + 1, by omega, by go_num, HTS.out.2 HEQ.out, below_drewNr hbel _⟩
            case measure => simp [intOf]; omega
        · have hne : a[i].toNat ≠ b[i].toNat := fun h => heq (UInt8.toNat_inj.mp h)
          have hb1 : ((a[i].toNat : Int) != (b[i].toNat : Int)) = true := by rw [bne_iff_ne]; omega
          clear heq
          by_cases hl : a[i].toNat < b[i].toNat
          · have hb2 : decide (a[i].toNat < b[i].toNat) = true := by simpa using hl
            have HC := Lib.hid (cmpN_lt (show x < y by
              rw [← HX.out, ← HY.out]
              exact val_first_lt (k := i) (by rw [← size_eq, ← size_eq]; exact HS.out) (by rw [← size_eq]; exact hlt) HT.out hl))
            clear hl hne
            go_wp2
            go_quiet (fail)
            all_goals
              go_wp2
              go_quiet (fail)
              all_goals
                go_wp2
                go_ret
                exact ⟨ret_int (by rw [HC.out]), below_drewNr (below_drewNr hbel _) _⟩
          · have hb2 : decide (a[i].toNat < b[i].toNat) = false := by simp; omega
            have HC := Lib.hid (cmpN_gt (show y < x by
              rw [← HX.out, ← HY.out]
              exact val_first_lt (k := i) (by rw [← size_eq, ← size_eq]; exact HS.out.symm) (by rw [← size_eq]; exact hlt2) HT.out.symm (show b[i].toNat < a[i].toNat by omega)))
            clear hl hne
            go_wp2
            go_quiet (fail)
            all_goals
              go_wp2
              go_quiet (fail)
              all_goals
                go_wp2
                go_ret
                exact ⟨ret_int (by rw [HC.out]), below_drewNr (below_drewNr hbel _) _⟩
      · obtain rfl : i = a.size := by omega
        have HC : Hid (cmpN x y = 0) := by
          apply Lib.hid
          have h1 := HT.out
          have h2 : b.data.toList.take a.size = b.data.toList := by rw [HS.out, size_eq, List.take_length]
          rw [h2, size_eq, List.take_length] at h1
          have : x = y := by rw [← HX.out, ← HY.out]; unfold num; rw [h1]
          subst this
          unfold cmpN; simp
        go_wp2
        go_ret
        exact ⟨ret_int (by rw [HC.out]), hbel⟩
  · have hb : ((a.size : Int) != (b.size : Int)) = true := by rw [bne_iff_ne]; omega
    by_cases hl : a.size < b.size
    · have HC := Lib.hid (cmpN_lt (HSX.out hl))
      have hb2 : decide ((a.size : Int) < (b.size : Int)) = true := by simpa using hl
      go_enter Tryz.func76, Tryz.ntmps76
      go_wp2
      go_ret
      exact ⟨ret_int (by rw [HC.out]), Below.refl _ _⟩
    · have HC := Lib.hid (cmpN_gt (HSY.out (by omega)))
      have hb2 : decide ((a.size : Int) < (b.size : Int)) = false := by simp; omega
      go_enter Tryz.func76, Tryz.ntmps76
      go_wp2
      go_ret
      exact ⟨ret_int (by rw [HC.out]), Below.refl _ _⟩

end Go.Proofs.YtlppcnjaacbhpaaGreatDoor
