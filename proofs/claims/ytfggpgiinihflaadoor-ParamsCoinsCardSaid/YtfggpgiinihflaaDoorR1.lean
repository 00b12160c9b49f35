/- The walks of the reference of layer 1 (natural). -/
import Derived.Test.YtfggpgiinihflaaDoorW4
namespace Go.Proofs.YtfggpgiinihflaaDoor
open Go.RowKit
set_option maxRecDepth 100000
set_option linter.unusedVariables false
set_option maxHeartbeats 400000

theorem below_drewNr {B : Nat} {a w : World} (h : Below B a w) (n : Nat) : Below B a (w.drewN n) := ⟨h.os, h.tape, h.output, h.size, h.block⟩
theorem valid_pos' {s : ByteArray} (h : 0 < s.size) : valid s = (decide ((s.size : Int) ≤ 128) && ((s[0].toNat : Int) != 0)) := by
  have h1 : ((s.size : Int) == 0) = false := by rw [beq_eq_false_iff_ne]; omega
  rw [valid_pos h, h1, Bool.false_or]
theorem isEmpty_size {s : ByteArray} (h : 0 < s.size) : s.toList.isEmpty = false := by
  rw [ByteArray.toList_eq]
  obtain ⟨⟨l⟩⟩ := s
  cases l with
  | nil => simp [ByteArray.size] at h
  | cons b l => rfl
theorem r01_Valid (s : ByteArray) (w : World) :
    Calls Tryd.prog 26 #[.string s] w fun e w' => e = .returned (.bool (valid s)) ∧ w = w' := by
  by_cases h0 : 0 < s.size
  · have hv := Lib.hid (valid_pos' h0)
    have he := isEmpty_size h0
    go_enter Tryd.func26, Tryd.ntmps26
    go_wp2
    all_goals
      go_ret
      exact ⟨ret_bool (by rw [hv.out]; first | (simp [*]; done) | (simp; intros; omega)), rfl⟩
  · obtain rfl : s = ByteArray.empty := by
      apply ByteArray.ext
      apply Array.eq_empty_of_size_eq_zero
      show s.size = 0
      omega
    go_enter Tryd.func26, Tryd.ntmps26
    go_wp2
    go_ret
    exact ⟨rfl, rfl⟩

theorem r01_trim (g o : Nat) (L : List UInt8) (n cap : Nat) (w : World) (hn : L.length = n) (hnc : n ≤ cap) (hm : n ≤ 1000000) (hrow : Row w g o L) :
    Calls Tryd.prog 46 #[.slice (some ⟨g, o, none⟩) n cap] w fun e w' => e = .returned (.string ⟨(trimL L).toArray⟩) ∧ w = w' := by
  have HN := Lib.hid hn
  have HR := Lib.hid hrow
  clear hn hrow
  go_enter Tryd.func46, Tryd.ntmps46
  go_wp2
  go_loop [3] (fun v => ∃ k : Nat, k ≤ n ∧ trimL (L.drop k) = trimL L ∧ v = .int .i64 k) (fun v => n - (intOf v).toNat)
  case atStart => exact ⟨0, Nat.zero_le _, rfl, rfl⟩
  case round =>
    obtain ⟨k, hk, ht, rfl⟩ := hrel
    have HT := Lib.hid ht
    clear ht
    by_cases hlt : k < n
    · have hc := HR.out k (by have := HN.out; omega)
      by_cases h0 : L.getD k 0 = 0
      · have H0 := Lib.hid h0
        have hc0 : w.cell? ⟨g, o + k, none⟩ = some (.int .u8 0) := by rw [hc, h0]; rfl
        clear h0 hc
        go_wp2
        go_round
        case rel =>
          exact ⟨k + 1, by omega, by rw [← trimL_drop_zero (by have := HN.out; omega) H0.out, HT.out], by go_num⟩
        case measure => simp [intOf]; omega
      · obtain ⟨z, hz⟩ : ∃ z : Int, ((L.getD k 0).toNat : Int) = z := ⟨_, rfl⟩
        have hb : (z == 0) = false := by
          rw [beq_eq_false_iff_ne]; intro e; exact h0 (UInt8.toNat_inj.mp (by rw [e] at hz; simpa using hz))
        rw [hz] at hc
        have H0 := Lib.hid h0
        clear h0 hz
        have hcv := conv_row (HR.out.drop k) (n - k) (cap - k) (by have := HN.out; simp; omega)
        generalize hS : (⟨(List.drop k L).toArray⟩ : ByteArray) = S at hcv
        have HS := Lib.hid hS
        clear hS
        go_wp2
        go_ret
        exact ⟨ret_string (by rw [← HS.out, ← HT.out, trimL_drop_stop (by have := HN.out; omega) H0.out]), rfl⟩
    · obtain rfl : k = n := by omega
      have hcv := fun A => conv_row_zero w g A (cap - k)
      by_cases hcap : cap = k
      · subst hcap
        have hcv := fun A => conv_row_zero w g A 0
        go_wp2
        go_ret
        refine ⟨ret_string ?_, rfl⟩
        rw [← HT.out, List.drop_eq_nil_of_le (by have := HN.out; omega)]
        rfl
      · go_wp2
        go_ret
        refine ⟨ret_string ?_, rfl⟩
        rw [← HT.out, List.drop_eq_nil_of_le (by have := HN.out; omega)]
        rfl

theorem r01_Of (n : Nat) (w : World) (hn : n < 18446744073709551616) :
    Calls Tryd.prog 30 #[.int .u64 n] w fun e w' => e = .returned (.string (B n)) ∧ Below w.heap.size w w' := by
  have hmk : ∀ w, (Instr.makeSlice 70 (.int .i64 8) (.int .i64 8)).run Tryd.prog w = .ok (.slice (some ⟨w.heap.size, 0, none⟩) 8 8) (w.alloc (.cells (cellsOf (List.replicate 8 0)) 5)) := make_bytes 8 (by omega)
  go_enter Tryd.func30, Tryd.ntmps30
  go_wp2
  go_loopw [0, 4] (fun c k wr => ∃ i : Nat, i ≤ 8 ∧ k = .int .i64 (7 - (i : Int)) ∧ c = .int .u64 (n / 256 ^ i : Nat) ∧ Bk wr w.heap.size 5 (fill 8 i n) ∧ Below w.heap.size w wr) (fun _ k _ => (intOf k + 1).toNat)
  case atStart => exact ⟨0, by omega, rfl, by rw [Nat.pow_zero, Nat.div_one], by rw [fill_zero]; exact Bk.new w 5 (List.replicate 8 0), (Below.refl _ _).alloc (Nat.le_refl _) _⟩
  case round =>
    obtain ⟨i, hi, rfl, rfl, hb, hbel⟩ := hrel
    by_cases hlt : i < 8
    · have HB := Lib.hid hb
      have hc := hb.cell (k := 7 - i) (by rw [fill_length _ hi]; omega)
      have hf := hb.free (7 - i)
      obtain ⟨z, hz⟩ : ∃ z : Int, 7 - (i : Int) = z := ⟨_, rfl⟩
      have hzz : z.toNat = 7 - i := by omega
      have z0 : 0 ≤ z := by omega
      have z1 : z ≤ 7 := by omega
      have HZ := Lib.hid hz
      have hnn : n / 256 ^ i < 18446744073709551616 := Nat.lt_of_le_of_lt (Nat.div_le_self _ _) hn
      have hnx : n / 256 ^ i / 256 = n / 256 ^ (i + 1) := by rw [Nat.div_div_eq_div_mul, ← Nat.pow_succ]
      have hset := fill_set (N := 8) n hlt
      have HSET := Lib.hid hset
      clear hset
      generalize n / 256 ^ i = m at *
      rw [hz]
      have HNX := Lib.hid hnx
      clear hb hz hnx
      go_wp2
      go_roundw
      case rel =>
        refine ⟨i + 1, by omega, by have := HZ.out; rw [show z - 1 = 7 - ((i + 1 : Nat) : Int) by omega], by rw [← HNX.out]; rfl, ?_, hbel.setCell (by simp) _⟩
        rw [u8_wrap_nat]
        have := HB.out.set (7 - i) (UInt8.ofNat m)
        rw [show 7 - i = 8 - 1 - i by omega, HSET.out] at this
        rw [show 7 - i = 8 - 1 - i by omega]
        exact this
      case measure => simp [intOf]; omega
    · obtain rfl : i = 8 := by omega
      rw [fill_full] at hb
      have HB := Lib.hid hb
      clear hb
      go_wp2_with (go_at_call 46; refine (r01_trim w.heap.size 0 (be 8 n) 8 8 _ (be_length _ _) (by omega) (by omega) HB.out.row).mono ?_; rintro e w' ⟨rfl, rfl⟩)
      go_ret
      exact ⟨ret_string (by rw [trimL_be (by omega)]; rfl), hbel⟩

/-- Any bytes' number, cut to 64 bits. -/
theorem r01_U64 (s : ByteArray) (w : World) (h : s.size ≤ 8) :
    Calls Tryd.prog 27 #[.string s] w fun e w' => e = .returned (.int .u64 (num s : Nat)) ∧ w = w' := by
  have HE := Lib.hid (show num s = val (s.data.toList.take s.size) by rw [size_eq, List.take_length]; rfl)
  go_enter Tryd.func27, Tryd.ntmps27
  go_wp2
  go_loop [3, 4] (fun n c => ∃ i : Nat, i ≤ s.size ∧ c = .int .i64 i ∧ n = .int .u64 (val (s.data.toList.take i) : Nat)) (fun _ c => s.size - (intOf c).toNat)
  case atStart => exact ⟨0, by omega, rfl, rfl⟩
  case round =>
    obtain ⟨i, hi, rfl, rfl⟩ := hrel
    by_cases hlt : i < s.size
    · have h1 := val_take_lt s.data.toList (i + 1)
      have h2 : 256 ^ (i + 1) ≤ 256 ^ 8 := Nat.pow_le_pow_right (by omega) (by omega)
      have h3 : (s.data.toList)[i]'(by rw [← size_eq]; exact hlt) = s[i] := rfl
      have h4 := val_take_succ s.data.toList i (by rw [← size_eq]; exact hlt)
      rw [h3] at h4
      have h5 : val (s.data.toList.take i) * 256 + s[i].toNat < 18446744073709551616 := by rw [← h4]; omega
      have H4 := Lib.hid h4
      have h6 := s[i].toNat_lt
      clear h1 h2 h3 h4
      generalize val (s.data.toList.take i) = v at *
      go_wp2
      go_round
      case rel => exact ⟨i + 1, by omega, by go_num, by rw [H4.out]; go_num⟩
      case measure => simp [intOf]; omega
    · obtain rfl : i = s.size := by omega
      go_wp2
      go_ret
      exact ⟨ret_int (by rw [HE.out]), rfl⟩
theorem r01_Small (s : ByteArray) (w : World) :
    Calls Tryd.prog 12 #[.string s] w fun e w' => e = .returned (.tuple #[.int .u64 (natSmall s).1, .bool (natSmall s).2]) ∧ w = w' := by
  cases hv : valid s
  · have HR := Lib.hid (show natSmall s = (0, false) by unfold natSmall; simp [hv])
    go_enter Tryd.func12, Tryd.ntmps12
    go_wp2_with (go_at_call 26; refine (r01_Valid _ _).mono ?_; rintro e w' ⟨rfl, rfl⟩)
    go_ret2
    exact ⟨ret_ib (by rw [HR.out]; rfl) (by rw [HR.out]), rfl⟩
  · by_cases h8 : s.size ≤ 8
    · have HR := Lib.hid (show natSmall s = (num s, true) by unfold natSmall; rw [hv]; simp [h8])
      go_enter Tryd.func12, Tryd.ntmps12
      go_wp2_with (first | (go_at_call 26; refine (r01_Valid _ _).mono ?_; rintro e w' ⟨rfl, rfl⟩) | (go_at_call 27; refine (r01_U64 _ _ h8).mono ?_; rintro e w' ⟨rfl, rfl⟩))
      go_ret2
      exact ⟨ret_ib (by rw [HR.out]) (by rw [HR.out]), rfl⟩
    · have HR := Lib.hid (show natSmall s = (0, false) by unfold natSmall; simp [h8])
      go_enter Tryd.func12, Tryd.ntmps12
      go_wp2_with (first | (go_at_call 26; refine (r01_Valid _ _).mono ?_; rintro e w' ⟨rfl, rfl⟩))
      go_ret2
      exact ⟨ret_ib (by rw [HR.out]; rfl) (by rw [HR.out]), rfl⟩
theorem val_first_lt {l m : List UInt8} {k : Nat} (hl : l.length = m.length) (hk : k < l.length) (ht : l.take k = m.take k) (h : l[k].toNat < (m[k]'(by omega)).toNat) : val l < val m := by
  have e1 : l = l.take k ++ l[k] :: l.drop (k + 1) := by
    conv => lhs; rw [← List.take_append_drop k l]
    rw [List.drop_eq_getElem_cons hk]
  have hk' : k < m.length := by omega
  have e2 : m = m.take k ++ m[k] :: m.drop (k + 1) := by
    conv => lhs; rw [← List.take_append_drop k m]
    rw [List.drop_eq_getElem_cons hk']
  rw [e1, e2, ht, val_append, val_append, val_cons, val_cons]
  have d : (l.drop (k + 1)).length = (m.drop (k + 1)).length := by simp; omega
  have h1 := val_lt (l.drop (k + 1))
  simp only [List.length_cons, d] at *
  generalize 256 ^ (m.drop (k + 1)).length = p at *
  have h2 := Nat.mul_le_mul_right p (show l[k].toNat + 1 ≤ m[k].toNat by omega)
  rw [Nat.add_mul, Nat.one_mul] at h2
  omega
end Go.Proofs.YtfggpgiinihflaaDoor
