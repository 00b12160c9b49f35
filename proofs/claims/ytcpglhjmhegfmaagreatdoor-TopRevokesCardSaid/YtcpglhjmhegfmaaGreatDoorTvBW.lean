/- The walks of package natural, first part: each function once. The walks of package natural, second part. The walks of package natural, third part. The walks of package natural, fourth part, and of rsagroup's small parts. The walks of package rsagroup: the form of a group. The walks of package rsagroup: elements. -/
import Derived.Test.YtcpglhjmhegfmaaGreatDoorRows
import Derived.Test.YtcpglhjmhegfmaaGreatDoorTvBA
import Derived.Test.YtcpglhjmhegfmaaGreatDoorShelf
import Derived.Deep.OwnRows
import Derived.Deep.RegionWith
import Derived.StillTailTactics
import Derived.WalkKit
import Derived.WalkSpells
import Derived.WalkLawsBesides
import Derived.Lib.Hide
import Derived.Laws.BitsAllLaws
import Derived.Deep.QuietTactic
import Derived.BigQuiet
import Derived.IntWalk
import Derived.Lib.ItoaNum
import Derived.Laws.CopyRow
namespace Go.Proofs.YtcpglhjmhegfmaaGreatDoor
open Go.RowKit
set_option maxRecDepth 100000
set_option linter.unusedVariables false
set_option maxHeartbeats 400000
theorem ret_bool {a b : Bool} (h : a = b) : Ending.returned (.bool a) = .returned (.bool b) := by rw [h]
theorem ret_int {k : IntKind} {a b : Int} (h : a = b) : Ending.returned (.int k a) = .returned (.int k b) := by rw [h]
theorem ret_string {a b : ByteArray} (h : a = b) : Ending.returned (.string a) = .returned (.string b) := by rw [h]
theorem ret_se {a b : ByteArray} {k : IntKind} {x y : Int} (h : a = b) (h2 : x = y) : Ending.returned (.tuple #[.string a, .int k x]) = .returned (.tuple #[.string b, .int k y]) := by rw [h, h2]
theorem ret_ssi {a b c d : ByteArray} {k : IntKind} {x y : Int} (h : a = b) (h1 : c = d) (h2 : x = y) : Ending.returned (.tuple #[.string a, .string c, .int k x]) = .returned (.tuple #[.string b, .string d, .int k y]) := by rw [h, h1, h2]
theorem ret_ib {k : IntKind} {x y : Int} {a b : Bool} (h : x = y) (h2 : a = b) : Ending.returned (.tuple #[.int k x, .bool a]) = .returned (.tuple #[.int k y, .bool b]) := by rw [h, h2]
theorem ret_be {k : IntKind} {x y : Int} {a b : Bool} (h2 : a = b) (h : x = y) : Ending.returned (.tuple #[.bool a, .int k x]) = .returned (.tuple #[.bool b, .int k y]) := by rw [h, h2]
theorem ret_ie {k m : IntKind} {x y u v : Int} (h : x = y) (h2 : u = v) : Ending.returned (.tuple #[.int k x, .int m u]) = .returned (.tuple #[.int k y, .int m v]) := by rw [h, h2]
theorem valid_empty : valid ByteArray.empty = true := rfl
theorem lead_getElem {s : ByteArray} (h : 0 < s.size) : lead s.data.toList = ((s[0].toNat : Int) != 0) := by
  obtain ⟨⟨l⟩⟩ := s
  cases l with
  | nil => simp [ByteArray.size] at h
  | cons b l =>
    show (b != 0) = ((b.toNat : Int) != 0)
    rw [Bool.eq_iff_iff, bne_iff_ne, bne_iff_ne]
    constructor
    · intro h1 h2; apply h1; exact UInt8.toNat_inj.mp (by simpa using h2)
    · intro h1 h2; apply h1; subst h2; rfl
theorem valid_pos {s : ByteArray} (h : 0 < s.size) : valid s = (decide ((s.size : Int) ≤ 128) && (((s.size : Int) == 0) || ((s[0].toNat : Int) != 0))) := by
  have h1 : ((s.size : Int) == 0) = false := by rw [beq_eq_false_iff_ne]; omega
  unfold valid
  rw [lead_getElem h, h1, Bool.false_or]
  congr 1
  exact decide_eq_decide.2 (by omega)
theorem natural_Valid (s : ByteArray) (w : World) :
    Calls Tryz.prog 13 #[.string s] w fun e w' => e = .returned (.bool (valid s)) ∧ w = w' := by
  by_cases h0 : 0 < s.size
  · have hv := Lib.hid (valid_pos h0)
    go_enter Tryz.func13, Tryz.ntmps13
    go_wp2
    all_goals
      go_ret
      exact ⟨ret_bool (by rw [hv.out]; first | (simp [*]; done) | (simp; intros; omega)), rfl⟩
  · obtain rfl : s = ByteArray.empty := by
      apply ByteArray.ext
      apply Array.eq_empty_of_size_eq_zero
      show s.size = 0
      omega
    go_enter Tryz.func13, Tryz.ntmps13
    go_wp2
    go_ret
    exact ⟨rfl, rfl⟩
def sliceLen : Value → Nat
  | .slice _ l _ => l
  | _ => 0
theorem trimL_drop_zero {L : List UInt8} {k : Nat} (h : k < L.length) (h0 : L.getD k 0 = 0) : trimL (L.drop k) = trimL (L.drop (k + 1)) := by
  rw [List.drop_eq_getElem_cons h]
  have : L[k] = 0 := by rw [← h0, getD_lt h]
  conv => lhs; unfold trimL
  rw [if_pos this]
theorem trimL_drop_stop {L : List UInt8} {k : Nat} (h : k < L.length) (h0 : L.getD k 0 ≠ 0) : trimL (L.drop k) = L.drop k := by
  rw [List.drop_eq_getElem_cons h]
  have : L[k] ≠ 0 := by rw [getD_lt h] at h0; exact h0
  unfold trimL
  rw [if_neg this]
theorem addr_add (g o j : Nat) : (⟨g, o, none⟩ : Addr).add j = ⟨g, o + j, none⟩ := by unfold Addr.add; split <;> simp_all
theorem Row.drop {w : World} {g o : Nat} {L : List UInt8} (h : Row w g o L) (k : Nat) : Row w g (o + k) (L.drop k) := by
  intro j hj
  have hj' : k + j < L.length := by simp at hj; omega
  have := h (k + j) hj'
  rw [getD_lt hj'] at this
  rw [getD_lt hj, List.getElem_drop, ← this]
  simp [Nat.add_assoc]
/-- 'api.Nat(b)' of a row of bytes. -/
theorem conv_row {w : World} {g o : Nat} {L : List UInt8} (h : Row w g o L) (n c : Nat) (hn : L.length = n) :
    (convert 67 22 (.slice (some ⟨g, o, none⟩) n c)).run Tryz.prog w = .ok (.string ⟨L.toArray⟩) w := by
  subst hn
  exact run_convert_bytes_back w 67 22 5 ⟨g, o, none⟩ c L Tryz.underlying67 Tryz.underlying5 Tryz.underlying22 (fun j hj => by
    have := h j hj
    rw [getD_lt hj] at this
    rw [addr_add]; exact this)
theorem conv_row_zero (w : World) (g o c : Nat) : (convert 67 22 (.slice (some ⟨g, o, none⟩) 0 c)).run Tryz.prog w = .ok (.string ⟨#[]⟩) w :=
  conv_row (L := []) (fun k h => absurd h (by simp)) 0 c rfl
theorem natural_trimmed (g o : Nat) (L : List UInt8) (n cap : Nat) (w : World) (hn : L.length = n) (hnc : n ≤ cap) (hrow : Row w g o L) :
    Calls Tryz.prog 23 #[.slice (some ⟨g, o, none⟩) n cap] w fun e w' => e = .returned (.string ⟨(trimL L).toArray⟩) ∧ w = w' := by
  have HN := Lib.hid hn
  have HR := Lib.hid hrow
  clear hn hrow
  go_enter Tryz.func23, Tryz.ntmps23
  go_wp2
  go_loop [0] (fun v => ∃ k A : Nat, k ≤ n ∧ trimL (L.drop k) = trimL L ∧ v = .slice (some ⟨g, A, none⟩) (n - k) (cap - k) ∧ (k < n → A = o + k)) (fun v => sliceLen v)
  case atStart => exact ⟨0, o, Nat.zero_le _, rfl, rfl, fun _ => rfl⟩
  case round =>
    obtain ⟨k, A, hk, ht, rfl, hA⟩ := hrel
    have HT := Lib.hid ht
    clear ht
    by_cases hlt : k < n
    · obtain rfl : A = o + k := hA hlt
      clear hA
      have hc := HR.out k (by have := HN.out; omega)
      by_cases h0 : L.getD k 0 = 0
      · have H0 := Lib.hid h0
        have hc0 : w.cell? ⟨g, o + k, none⟩ = some (.int .u8 0) := by rw [hc, h0]; rfl
        clear h0 hc
        go_wp2
        go_round
        case rel =>
          refine ⟨k + 1, if cap - k = 1 then o + k else o + k + 1, by omega, ?_, ?_, ?_⟩
          · rw [← trimL_drop_zero (by have := HN.out; omega) H0.out, HT.out]
          · rw [show n - k - 1 = n - (k + 1) by omega, show cap - k - 1 = cap - (k + 1) by omega]
            split <;> rfl
          · intro h; rw [if_neg (by omega)]; omega
        case measure => simp [sliceLen]; omega
      · obtain ⟨z, hz⟩ : ∃ z : Int, ((L.getD k 0).toNat : Int) = z := ⟨_, rfl⟩
        have hb : (z == 0) = false := by
          rw [beq_eq_false_iff_ne]; intro e; exact h0 (UInt8.toNat_inj.mp (by rw [e] at hz; simpa using hz))
        rw [hz] at hc
        have H0 := Lib.hid h0
        clear h0 hz
        have hcv := conv_row (HR.out.drop k) (n - k) (cap - k) (by have := HN.out; simp; omega)
        generalize hS : (⟨(List.drop k L).toArray⟩ : ByteArray) = S at hcv
        have HS := Lib.hid hS
        clear hS
        go_wp2
        go_ret
        exact ⟨ret_string (by rw [← HS.out, ← HT.out, trimL_drop_stop (by have := HN.out; omega) H0.out]), rfl⟩
    · obtain rfl : k = n := by omega
      have hcv := conv_row_zero w g A (cap - k)
      go_wp2
      go_ret
      refine ⟨ret_string ?_, rfl⟩
      rw [← HT.out, List.drop_eq_nil_of_le (by have := HN.out; omega)]
      rfl
theorem natural_Of (n : Nat) (w : World) (hn : n < 18446744073709551616) :
    Calls Tryz.prog 12 #[.int .u64 n] w fun e w' => e = .returned (.string (B n)) ∧ Below w.heap.size w w' := by
  go_enter Tryz.func12, Tryz.ntmps12
  go_wp2
  go_loopw [5] (fun c wr => ∃ i : Nat, i ≤ 8 ∧ c = .int .i64 i ∧ Bk wr w.heap.size 65 (fill 8 i n) ∧ wr.heap.size = w.heap.size + 1 ∧ Below w.heap.size w wr) (fun c _ => 8 - (intOf c).toNat)
  case atStart => exact ⟨0, by omega, rfl, by rw [fill_zero]; exact Bk.new w 65 (List.replicate 8 0), by simp, (Below.refl _ _).alloc (Nat.le_refl _) _⟩
  case round =>
    obtain ⟨i, hi, rfl, hb, hsz, hbel⟩ := hrel
    by_cases hlt : i < 8
    · have HB := Lib.hid hb
      have hc := hb.cell (k := 7 - i) (by rw [fill_length _ hi]; omega)
      have hf := hb.free (7 - i)
      clear hb
      go_wp2
      go_roundw
      case rel =>
        rw [byte_shr]
        refine ⟨i + 1, by omega, by go_num, ?_, ?_, ?_⟩
        · have := HB.out.set (7 - i) (UInt8.ofNat (n / 256 ^ i))
          rw [show 7 - i = 8 - 1 - i by omega, fill_set n hlt] at this
          exact this
        · simp [hsz]
        · exact hbel.setCell (by simp) _
      case measure => simp [intOf]; omega
    · obtain rfl : i = 8 := by omega
      rw [fill_full] at hb
      have HB := Lib.hid hb
      clear hb
      go_wp2_with (go_at_call 23; refine (natural_trimmed w.heap.size 0 (be 8 n) 8 8 _ (be_length _ _) (by omega) HB.out.row).mono ?_; rintro e w' ⟨rfl, rfl⟩)
      go_ret
      exact ⟨ret_string (by rw [trimL_be (by omega)]; rfl), hbel⟩
theorem wrap64_byte (b : UInt8) : wrap64 (b.toNat : Int) = (b.toNat : Int) := by
  have := b.toNat_lt
  exact IntWalk.wrap64_in _ ⟨by omega, by omega⟩
theorem natural_digit (s : ByteArray) (i : Nat) (w : World) (hi : i ≤ 1000000) (hs : s.size ≤ 1000000) :
    Calls Tryz.prog 65 #[.string s, .int .i64 i] w fun e w' => e = .returned (.int .i64 ((num s / 256 ^ i % 256 : Nat) : Int)) ∧ w = w' := by
  by_cases h : i < s.size
  · have hd := Lib.hid (num_digit s i h)
    go_enter Tryz.func65, Tryz.ntmps65
    go_wp2
    go_ret
    refine ⟨ret_int ?_, rfl⟩
    rw [wrap64_byte, hd.out]
  · have hd := Lib.hid (num_digit_high s i (by omega))
    go_enter Tryz.func65, Tryz.ntmps65
    go_wp2
    go_ret
    exact ⟨ret_int (by rw [hd.out]; rfl), rfl⟩
theorem natural_fitting (n : Nat) (w : World) :
    Calls Tryz.prog 58 #[.string (B n)] w fun e w' => e = .returned (.tuple #[.string (fitted n).1, .int .i64 (fitted n).2]) ∧ w = w' := by
  have hf : (fitted n).1 = (if n < lim then B n else E0) ∧ (fitted n).2 = (if n < lim then 0 else 5) := by unfold fitted; split <;> exact ⟨rfl, rfl⟩
  have HF := Lib.hid hf
  clear hf
  by_cases h : n < lim
  · have h2 := B_size_le.2 h
    have H := Lib.hid h
    clear h
    go_enter Tryz.func58, Tryz.ntmps58
    go_wp2
    go_ret2
    exact ⟨ret_se (by rw [HF.out.1, if_pos H.out]) (by rw [HF.out.2, if_pos H.out]), rfl⟩
  · have h2 : ¬ (B n).size ≤ 128 := fun h2 => h (B_size_le.1 h2)
    have H := Lib.hid h
    clear h
    go_enter Tryz.func58, Tryz.ntmps58
    go_wp2
    go_ret2
    exact ⟨ret_se (by rw [HF.out.1, if_neg H.out]; rfl) (by rw [HF.out.2, if_neg H.out]), rfl⟩
theorem natural_compare (x y : Nat) (w : World) :
    Calls Tryz.prog 49 #[.string (B x), .string (B y)] w fun e w' => e = .returned (.int .i64 (cmpN x y)) ∧ w = w' := by
  have hc := Lib.hid (compare_eq x y)
  by_cases h : Lib.compareInt ((B x).size : Int) ((B y).size : Int) = 0
  · have hb : (Lib.compareInt ((B x).size : Int) ((B y).size : Int) != 0) = false := by rw [h]; rfl
    have H := Lib.hid h
    clear h
    go_enter Tryz.func49, Tryz.ntmps49
    go_wp2_with (first | (go_at_call 73; refine (Tryz.cmp_Compare_int _ _ _).mono ?_; rintro e w' ⟨rfl, rfl⟩) | (go_at_call 74; refine (Tryz.strings_Compare _ _ _).mono ?_; rintro e w' ⟨rfl, rfl⟩))
    go_ret
    exact ⟨ret_int (by rw [← hc.out, if_pos H.out]), rfl⟩
  · have hb : (Lib.compareInt ((B x).size : Int) ((B y).size : Int) != 0) = true := by rw [bne_iff_ne]; exact h
    have H := Lib.hid h
    clear h
    go_enter Tryz.func49, Tryz.ntmps49
    go_wp2_with (first | (go_at_call 73; refine (Tryz.cmp_Compare_int _ _ _).mono ?_; rintro e w' ⟨rfl, rfl⟩) | (go_at_call 74; refine (Tryz.strings_Compare _ _ _).mono ?_; rintro e w' ⟨rfl, rfl⟩))
    go_ret
    exact ⟨ret_int (by rw [← hc.out, if_neg H.out]), rfl⟩
theorem natural_Cmp (a b : ByteArray) (w : World) :
    Calls Tryz.prog 33 #[.string a, .string b] w fun e w' => e = .returned (.int .i64 (natCmp a b)) ∧ w = w' := by
  by_cases ha : valid a = true
  · by_cases hb : valid b = true
    · have hc : natCmp a b = cmpN (num a) (num b) := by unfold natCmp; rw [ha, hb]; rfl
      have HC := Lib.hid hc
      have ea := B_num ha
      have eb := B_num hb
      generalize num a = x at *
      generalize num b = y at *
      subst ea; subst eb
      clear hc
      go_enter Tryz.func33, Tryz.ntmps33
      go_wp2_with (first | (go_at_call 13; refine (natural_Valid _ _).mono ?_; rintro e w' ⟨rfl, rfl⟩) | (go_at_call 49; refine (natural_compare _ _ _).mono ?_; rintro e w' ⟨rfl, rfl⟩))
      go_ret
      exact ⟨ret_int HC.out.symm, rfl⟩
    · have hb' : valid b = false := by simpa using hb
      have hc : natCmp a b = 0 := by unfold natCmp; rw [hb']; simp
      have HC := Lib.hid hc
      clear hc hb
      go_enter Tryz.func33, Tryz.ntmps33
      go_wp2_with (first | (go_at_call 13; refine (natural_Valid _ _).mono ?_; rintro e w' ⟨rfl, rfl⟩))
      go_ret
      exact ⟨ret_int HC.out.symm, rfl⟩
  · have ha' : valid a = false := by simpa using ha
    have hc : natCmp a b = 0 := by unfold natCmp; rw [ha']; simp
    have HC := Lib.hid hc
    clear hc ha
    go_enter Tryz.func33, Tryz.ntmps33
    go_wp2_with (first | (go_at_call 13; refine (natural_Valid _ _).mono ?_; rintro e w' ⟨rfl, rfl⟩))
    go_ret
    exact ⟨ret_int HC.out.symm, rfl⟩
theorem or_shl8 (v b : Nat) (hv : v * 256 + b < 18446744073709551616) (hb : b < 256) :
    bits .or .u64 (IntKind.u64.wrap ((v : Int) * 256)) (IntKind.u64.wrap (b : Int)) = ((v * 256 + b : Nat) : Int) := by
  rw [IntKind.wrap_u64, IntKind.wrap_u64, show ((v : Int) * 256) % 18446744073709551616 = ((v * 256 : Nat) : Int) by omega, show ((b : Int) % 18446744073709551616) = ((b : Nat) : Int) by omega]
  rw [u64_or_nat _ _ (by omega) (by omega), nat_join 8 _ _ (by omega) (by omega)]
theorem natural_Small (s : ByteArray) (w : World) :
    Calls Tryz.prog 4 #[.string s] w fun e w' => e = .returned (.tuple #[.int .u64 (natSmall s).1, .bool (natSmall s).2]) ∧ w = w' := by
  by_cases hv : valid s = true
  · by_cases h8 : s.size ≤ 8
    · have hr : natSmall s = (num s, true) := by unfold natSmall; rw [hv]; simp [h8]
      have HR := Lib.hid hr
      have HE0 : num s = val (s.data.toList.take s.size) := by rw [size_eq, List.take_length]; rfl
      have HE := Lib.hid HE0
      clear HE0
      clear hr
      go_enter Tryz.func4, Tryz.ntmps4
      go_wp2_with (first | (go_at_call 13; refine (natural_Valid _ _).mono ?_; rintro e w' ⟨rfl, rfl⟩))
      go_loop [4, 16] (fun n c => ∃ i : Nat, i ≤ s.size ∧ c = .int .i64 i ∧ n = .int .u64 (val (s.data.toList.take i) : Nat)) (fun _ c => s.size - (intOf c).toNat)
      case atStart => exact ⟨0, by omega, rfl, rfl⟩
      case round =>
        obtain ⟨i, hi, rfl, rfl⟩ := hrel
        by_cases hlt : i < s.size
        · go_wp2
          go_round
          case rel =>
            have h1 := val_take_lt s.data.toList (i + 1)
            have h2 : 256 ^ (i + 1) ≤ 256 ^ 8 := Nat.pow_le_pow_right (by omega) (by omega)
            have h3 : (s.data.toList)[i]'(by rw [← size_eq]; exact hlt) = s[i] := rfl
            have h4 := val_take_succ s.data.toList i (by rw [← size_eq]; exact hlt)
            rw [h3] at h4
            refine ⟨i + 1, by omega, by go_num, ?_⟩
            rw [or_shl8 _ _ (by rw [← h4]; omega) (UInt8.toNat_lt _), h4]
          case measure => simp [intOf]; omega
        · obtain rfl : i = s.size := by omega
          go_wp2
          go_ret2
          exact ⟨ret_ib (by rw [HR.out, HE.out]) (by rw [HR.out]), rfl⟩
    · have hr : natSmall s = (0, false) := by unfold natSmall; simp [h8]
      have HR := Lib.hid hr
      clear hr
      go_enter Tryz.func4, Tryz.ntmps4
      go_wp2_with (first | (go_at_call 13; refine (natural_Valid _ _).mono ?_; rintro e w' ⟨rfl, rfl⟩))
      go_ret2
      exact ⟨ret_ib (by rw [HR.out]; rfl) (by rw [HR.out]), rfl⟩
  · have hv' : valid s = false := by simpa using hv
    have hr : natSmall s = (0, false) := by unfold natSmall; simp [hv']
    have HR := Lib.hid hr
    clear hr hv
    go_enter Tryz.func4, Tryz.ntmps4
    go_wp2_with (first | (go_at_call 13; refine (natural_Valid _ _).mono ?_; rintro e w' ⟨rfl, rfl⟩))
    go_ret2
    exact ⟨ret_ib (by rw [HR.out]; rfl) (by rw [HR.out]), rfl⟩
theorem u8_info : (Tryz.prog.info? 5).map (fun i => (i.zero, i.size, i.bytes)) = some (some (.int .u8 0), 1, 1) := by kernel_rfl
theorem madeCells_zeros (n : Nat) : madeCells #[Value.int .u8 0] n = cellsOf (List.replicate n 0) := by
  rw [cellsOf_zeros]
  apply Array.ext
  · simp [madeCells]
  · intro i h1 h2
    simp [madeCells, Nat.mod_one]
/-- 'make([]byte, n)'. -/
theorem make_bytes (n : Nat) (h : n ≤ 1000000) (w : World) : (Instr.makeSlice 67 (.int .i64 (n : Int)) (.int .i64 (n : Int))).run Tryz.prog w =
    .ok (.slice (some ⟨w.heap.size, 0, none⟩) n n) (w.alloc (.cells (cellsOf (List.replicate n 0)) 5)) := by
  rw [← madeCells_zeros]
  exact run_make_row' 67 5 (.int .u8 0) 1 Tryz.underlying67 u8_info rfl .i64 .i64 n (by omega) (by omega) w
theorem natural_digit' (s : ByteArray) (i d : Nat) (w : World) (hi : i ≤ 1000000) (hs : s.size ≤ 1000000) (hd : Hid (num s / 256 ^ i % 256 = d)) :
    Calls Tryz.prog 65 #[.string s, .int .i64 i] w fun e w' => e = .returned (.int .i64 (d : Int)) ∧ w = w' := by
  have := natural_digit s i w hi hs
  rw [hd.out] at this
  exact this
theorem valid_size {s : ByteArray} (h : valid s = true) : s.size ≤ 128 := by unfold valid at h; rw [Bool.and_eq_true, decide_eq_true_eq] at h; exact h.1
theorem u8_wrap_nat (n : Nat) : ((n : Int) % 256) = ((UInt8.ofNat n).toNat : Int) := (byte_mod n).symm
theorem natural_trimmed' (g : Nat) (L : List UInt8) (n cap x : Nat) (w : World) (hn : L.length = n) (hnc : n ≤ cap) (hrow : Row w g 0 L) (hx : trimL L = enc x) :
    Calls Tryz.prog 23 #[.slice (some ⟨g, 0, none⟩) n cap] w fun e w' => e = .returned (.string (B x)) ∧ w = w' := by
  have := natural_trimmed g 0 L n cap w hn hnc hrow
  rw [hx] at this
  exact this
end Go.Proofs.YtcpglhjmhegfmaaGreatDoor
namespace Go.Proofs.YtcpglhjmhegfmaaGreatDoor
open Go.RowKit
set_option maxRecDepth 100000
set_option linter.unusedVariables false
set_option maxHeartbeats 400000
theorem natural_less (a b : ByteArray) (w : World) (sa : a.size ≤ 128) (sb : b.size ≤ 128) (hle : num b ≤ num a) :
    Calls Tryz.prog 66 #[.string a, .string b] w fun e w' => e = .returned (.string (B (num a - num b))) ∧ Below w.heap.size w w' := by
  have la := Lib.hid (num_lt a)
  have hmk := make_bytes a.size (by omega)
  have HLE := Lib.hid hle
  clear hle
  go_enter Tryz.func66, Tryz.ntmps66
  go_wp2
  go_loopw [7, 15] (fun c k wr => ∃ i : Nat, i ≤ a.size ∧ k = .int .i64 i ∧ c = .int .i64 (borrowAt (num a) (num b) i : Nat) ∧ Bk wr w.heap.size 5 (fill a.size i (num a - num b)) ∧ Below w.heap.size w wr) (fun _ k _ => a.size - (intOf k).toNat)
  case atStart => exact ⟨0, by omega, rfl, by rw [borrowAt_zero]; rfl, by rw [fill_zero]; exact Bk.new w 5 (List.replicate a.size 0), (Below.refl _ _).alloc (Nat.le_refl _) _⟩
  case round =>
    obtain ⟨i, hi, rfl, rfl, hbk, hbel⟩ := hrel
    by_cases hlt : i < a.size
    · have HB := Lib.hid hbk
      have hc := hbk.cell (k := a.size - 1 - i) (by rw [fill_length _ hi]; omega)
      have hf := hbk.free (a.size - 1 - i)
      have hcl := borrowAt_le (num a) (num b) i
      have h1 := borrowAt_digit (num a) (num b) i HLE.out
      have h2 := borrowAt_next (num a) (num b) i
      generalize borrowAt (num a) (num b) i = c at *
      obtain ⟨da, hda⟩ : ∃ d, num a / 256 ^ i % 256 = d := ⟨_, rfl⟩
      obtain ⟨db, hdb⟩ : ∃ d, num b / 256 ^ i % 256 = d := ⟨_, rfl⟩
      have da1 : da ≤ 255 := by omega
      have db1 : db ≤ 255 := by omega
      rw [hda, hdb] at h1 h2
      have H1 := Lib.hid h1
      have H2 := Lib.hid h2
      have HA := Lib.hid hda
      have HD := Lib.hid hdb
      clear hbk h1 h2 hda hdb
      have fin : ∀ z : Int, (((num a - num b) / 256 ^ i % 256 : Nat) : Int) = z → Bk (wr.setCell ⟨w.heap.size, a.size - 1 - i, none⟩ (.int .u8 z)) w.heap.size 5 (fill a.size (i + 1) (num a - num b)) := by
        intro z hz
        have := HB.out.set (a.size - 1 - i) (UInt8.ofNat ((num a - num b) / 256 ^ i))
        rw [fill_set _ hlt, toNat_ofNat8, hz] at this
        exact this
      have FIN := Lib.hid fin
      clear fin
      by_cases hneg : da < db + c
      all_goals
        go_wp2_with (first | (go_at_call 65; (with_reducible refine (natural_digit' a _ _ _ (by omega) (by omega) HA).mono ?_); rintro e w' ⟨rfl, rfl⟩) | (go_at_call 65; (with_reducible refine (natural_digit' b _ _ _ (by omega) (by omega) HD).mono ?_); rintro e w' ⟨rfl, rfl⟩))
        go_roundw
        case rel =>
          refine ⟨i + 1, by omega, by go_num, ?_, FIN.out _ ?_, hbel.setCell (by simp) _⟩
          · rw [H2.out]; first | rw [if_pos hneg] | rw [if_neg hneg]
            rfl
          · rw [H1.out]; first | rw [if_pos hneg] | rw [if_neg hneg]
        case measure => simp [intOf]; omega
    · obtain rfl : i = a.size := by omega
      rw [fill_full] at hbk
      have HB := Lib.hid hbk
      have HT := Lib.hid (trimL_be (Nat.lt_of_le_of_lt (Nat.sub_le (num a) (num b)) la.out))
      clear hbk
      go_wp2_with (first | (go_at_call 23; (refine (natural_trimmed' w.heap.size (be a.size (num a - num b)) a.size a.size _ _ (be_length _ _) (by omega) HB.out.row HT.out).mono ?_); rintro e w' ⟨rfl, rfl⟩))
      go_ret
      exact ⟨rfl, hbel⟩
theorem natural_less' (x y : Nat) (w : World) (hx : x < lim) (hy : y < lim) (hle : y ≤ x) :
    Calls Tryz.prog 66 #[.string (B x), .string (B y)] w fun e w' => e = .returned (.string (B (x - y))) ∧ Below w.heap.size w w' := by
  have := natural_less (B x) (B y) w (B_size_le.2 hx) (B_size_le.2 hy) (by rw [num_B, num_B]; exact hle)
  rw [num_B, num_B] at this
  exact this
theorem cmpN_neg {x y : Nat} : (cmpN x y < 0) ↔ x < y := by
  unfold cmpN
  split
  · simp [*]
  · split <;> simp [*]
theorem valid_num_lt {s : ByteArray} (h : valid s = true) : num s < lim := by
  obtain ⟨n, hn, rfl⟩ := (valid_iff s).1 h
  rw [num_B]; exact hn
theorem natural_Sub (a b : ByteArray) (w : World) :
    Calls Tryz.prog 45 #[.string a, .string b] w fun e w' => e = .returned (.tuple #[.string (natSub a b).1, .int .i64 (natSub a b).2]) ∧ Below w.heap.size w w' := by
  by_cases hv : valid a = true ∧ valid b = true
  · obtain ⟨ha, hb⟩ := hv
    have hr : natSub a b = if num a < num b then (E0, 2) else (B (num a - num b), 0) := by unfold natSub; rw [ha, hb]; rfl
    have HR := Lib.hid hr
    clear hr
    have la := Lib.hid (valid_num_lt ha)
    have lb := Lib.hid (valid_num_lt hb)
    have ea := B_num ha
    have eb := B_num hb
    generalize num a = x at *
    generalize num b = y at *
    subst ea; subst eb
    by_cases hlt : x < y
    · have hc := cmpN_neg.2 hlt
      have HL := Lib.hid hlt
      clear hlt
      go_enter Tryz.func45, Tryz.ntmps45
      go_wp2_with (first | (go_at_call 13; refine (natural_Valid _ _).mono ?_; rintro e w' ⟨rfl, rfl⟩) | (go_at_call 49; refine (natural_compare _ _ _).mono ?_; rintro e w' ⟨rfl, rfl⟩))
      go_ret2
      exact ⟨ret_se (by rw [HR.out, if_pos HL.out]; rfl) (by rw [HR.out, if_pos HL.out]), Below.refl _ _⟩
    · have hc : ¬ cmpN x y < 0 := fun h => hlt (cmpN_neg.1 h)
      have HL := Lib.hid hlt
      clear hlt
      go_enter Tryz.func45, Tryz.ntmps45
      go_wp2_with (first | (go_at_call 13; refine (natural_Valid _ _).mono ?_; rintro e w' ⟨rfl, rfl⟩) | (go_at_call 49; refine (natural_compare _ _ _).mono ?_; rintro e w' ⟨rfl, rfl⟩) | (go_at_call 66; (refine (natural_less' x y _ la.out lb.out (Nat.le_of_not_lt HL.out)).mono ?_); rintro e w' ⟨rfl, hb1⟩))
      go_ret2
      exact ⟨ret_se (by rw [HR.out, if_neg HL.out]) (by rw [HR.out, if_neg HL.out]), hb1⟩
  · have hr : natSub a b = (E0, 3) := by unfold natSub; rw [if_neg (by rw [Bool.and_eq_true]; exact hv)]
    have HR := Lib.hid hr
    clear hr
    by_cases ha : valid a = true
    · have hb : valid b = false := by cases h : valid b with | false => rfl | true => exact absurd ⟨ha, h⟩ hv
      clear hv
      go_enter Tryz.func45, Tryz.ntmps45
      go_wp2_with (first | (go_at_call 13; refine (natural_Valid _ _).mono ?_; rintro e w' ⟨rfl, rfl⟩))
      go_ret2
      exact ⟨ret_se (by rw [HR.out]; rfl) (by rw [HR.out]), Below.refl _ _⟩
    · have ha' : valid a = false := by simpa using ha
      clear hv ha
      go_enter Tryz.func45, Tryz.ntmps45
      go_wp2_with (first | (go_at_call 13; refine (natural_Valid _ _).mono ?_; rintro e w' ⟨rfl, rfl⟩))
      go_ret2
      exact ⟨ret_se (by rw [HR.out]; rfl) (by rw [HR.out]), Below.refl _ _⟩
theorem natural_Of' (z : Int) (n : Nat) (w : World) (hz : z = n) (hn : n < 18446744073709551616) :
    Calls Tryz.prog 12 #[.int .u64 z] w fun e w' => e = .returned (.string (B n)) ∧ Below w.heap.size w w' := by
  subst hz
  exact natural_Of n w hn
theorem natSmall_B {x : Nat} (h : x < 18446744073709551616) : natSmall (B x) = (x, true) := by
  have h1 : (B x).size ≤ 8 := B_size_le'.2 h
  have h2 : valid (B x) = true := valid_B (Nat.lt_trans h (by decide))
  unfold natSmall
  rw [h2, num_B]
  simp [h1]
theorem natural_Small' (x : Nat) (w : World) (h : x < 18446744073709551616) :
    Calls Tryz.prog 4 #[.string (B x)] w fun e w' => e = .returned (.tuple #[.int .u64 (x : Nat), .bool true]) ∧ w = w' := by
  have := natural_Small (B x) w
  rw [natSmall_B h] at this
  exact this
theorem natural_divided_lt (x y : Nat) (w : World) (h : x < y) :
    Calls Tryz.prog 43 #[.string (B x), .string (B y)] w fun e w' => e = .returned (.tuple #[.string E0, .string (B x)]) ∧ w = w' := by
  have hc := cmpN_neg.2 h
  have H := Lib.hid h
  clear h
  go_enter Tryz.func43, Tryz.ntmps43
  go_wp2_with (first | (go_at_call 49; refine (natural_compare _ _ _).mono ?_; rintro e w' ⟨rfl, rfl⟩))
  go_ret2
  exact ⟨rfl, rfl⟩
theorem natural_divided_small (x y : Nat) (w : World) (hx : x < 18446744073709551616) (hy : 0 < y) (h : y ≤ x) :
    Calls Tryz.prog 43 #[.string (B x), .string (B y)] w fun e w' => e = .returned (.tuple #[.string (B (x / y)), .string (B (x % y))]) ∧ Below w.heap.size w w' := by
  have hc : ¬ cmpN x y < 0 := fun h' => by have := cmpN_neg.1 h'; omega
  have hs : (B x).size ≤ 8 := B_size_le'.2 hx
  have HX := Lib.hid hx
  clear hx
  go_enter Tryz.func43, Tryz.ntmps43
  go_wp2_with (first | (go_at_call 49; refine (natural_compare _ _ _).mono ?_; rintro e w' ⟨rfl, rfl⟩) | (go_at_call 4; (with_reducible refine (natural_Small' x _ HX.out).mono ?_); rintro e w' ⟨rfl, rfl⟩) | (go_at_call 4; (with_reducible refine (natural_Small' y _ (Nat.lt_of_le_of_lt h HX.out)).mono ?_); rintro e w' ⟨rfl, rfl⟩))
  have hq : IntKind.u64.wrap ((x : Int) / (y : Int)) = ((x / y : Nat) : Int) := by
    have h1 : x / y < 18446744073709551616 := Nat.lt_of_le_of_lt (Nat.div_le_self x y) HX.out
    have h2 : ((x : Int) / (y : Int)) = ((x / y : Nat) : Int) := by simp
    rw [h2, IntKind.wrap_u64]
    generalize x / y = q at *
    omega
  have hm : ((x : Int).tmod (y : Int)) = ((x % y : Nat) : Int) := by rw [Int.tmod_eq_emod_of_nonneg (by omega)]; simp
  have hql : x / y < 18446744073709551616 := Nat.lt_of_le_of_lt (Nat.div_le_self x y) HX.out
  have hml : x % y < 18446744073709551616 := Nat.lt_of_le_of_lt (Nat.mod_le x y) HX.out
  have hq2 : ((x : Int) / (y : Int)) = ((x / y : Nat) : Int) := by simp
  have hm2 : ((x : Int) % (y : Int)) = ((x % y : Nat) : Int) := by simp
  have HQ := Lib.hid hq
  have HM := Lib.hid hm
  have HQ2 := Lib.hid hq2
  have HM2 := Lib.hid hm2
  have HQL := Lib.hid hql
  have HML := Lib.hid hml
  clear hq hm hq2 hm2 hql hml
  go_region_with (first | (go_at_call 12; (with_reducible refine (natural_Of' _ _ _ HQ.out HQL.out).mono ?_); rintro e w' ⟨rfl, hb1⟩) | (go_at_call 12; (with_reducible refine (natural_Of' _ _ _ HQ2.out HQL.out).mono ?_); rintro e w' ⟨rfl, hb1⟩) | (go_at_call 12; (with_reducible refine (natural_Of' _ _ _ HM.out HML.out).mono ?_); rintro e w' ⟨rfl, hb2⟩) | (go_at_call 12; (with_reducible refine (natural_Of' _ _ _ HM2.out HML.out).mono ?_); rintro e w' ⟨rfl, hb2⟩))
  all_goals
    go_wp2
    go_ret2
    exact ⟨rfl, ((Below.refl _ _).drew.trans hb1).trans (hb2.mono hb1.size)⟩
theorem natural_divided8 (x y : Nat) (w : World) (hx : x < 18446744073709551616 ∨ x < y) (hy : 0 < y) :
    Calls Tryz.prog 43 #[.string (B x), .string (B y)] w fun e w' => e = .returned (.tuple #[.string (B (x / y)), .string (B (x % y))]) ∧ Below w.heap.size w w' := by
  by_cases h : x < y
  · refine (natural_divided_lt x y w h).mono ?_
    rintro e w' ⟨rfl, rfl⟩
    rw [Nat.div_eq_of_lt h, Nat.mod_eq_of_lt h]
    exact ⟨rfl, Below.refl _ _⟩
  · exact natural_divided_small x y w (by omega) hy (by omega)
theorem B_isEmpty (n : Nat) : (B n).toList.isEmpty = decide (n = 0) := by
  rw [ByteArray.toList_eq]
  show (enc n).isEmpty = _
  rw [Bool.eq_iff_iff, List.isEmpty_iff, decide_eq_true_eq]
  exact ⟨enc_eq_nil, fun h => by subst h; rfl⟩
theorem B_isEmpty_true : (B 0).toList.isEmpty = true := by rw [B_isEmpty]; rfl
theorem B_isEmpty_false {n : Nat} (h : n ≠ 0) : (B n).toList.isEmpty = false := by rw [B_isEmpty]; simpa using h
def strNum : Value → Nat
  | .string s => num s
  | _ => 0
theorem natural_Gcd (x0 y0 : Nat) (w : World) (hx : x0 < 18446744073709551616) (hy : y0 < 18446744073709551616) :
    Calls Tryz.prog 51 #[.string (B x0), .string (B y0)] w fun e w' => e = .returned (.tuple #[.string (B (Nat.gcd x0 y0)), .int .i64 0]) ∧ Below w.heap.size w w' := by
  have hvx := valid_B (Nat.lt_trans hx (show 18446744073709551616 < lim by decide))
  have hvy := valid_B (Nat.lt_trans hy (show 18446744073709551616 < lim by decide))
  go_enter Tryz.func51, Tryz.ntmps51
  go_wp2_with (first | (go_at_call 13; refine (natural_Valid _ _).mono ?_; rintro e w' ⟨rfl, rfl⟩))
  go_loopw [0, 1] (fun u v wr => ∃ x y : Nat, u = .string (B x) ∧ v = .string (B y) ∧ x < 18446744073709551616 ∧ y < 18446744073709551616 ∧ Nat.gcd x y = Nat.gcd x0 y0 ∧ Below w.heap.size w wr) (fun _ v _ => strNum v)
  case atStart => exact ⟨x0, y0, rfl, rfl, hx, hy, rfl, Below.refl _ _⟩
  case round =>
    obtain ⟨x, y, rfl, rfl, hx1, hy1, hg, hbel⟩ := hrel
    have HG := Lib.hid hg
    clear hg
    by_cases hz : y = 0
    · subst hz
      have he := B_isEmpty_true
      go_wp2_with fail
      go_ret2
      exact ⟨ret_se (by rw [← HG.out, Nat.gcd_zero_right]) rfl, hbel⟩
    · have he := B_isEmpty_false hz
      go_wp2_with (first | (go_at_call 43; (with_reducible refine (natural_divided8 x y _ (.inl hx1) (by omega)).mono ?_); rintro e w' ⟨rfl, hb1⟩))
      go_roundw
      case rel => exact ⟨y, x % y, rfl, rfl, hy1, Nat.lt_trans (Nat.mod_lt x (by omega)) hy1, by rw [← HG.out, Nat.gcd_comm x y, Nat.gcd_rec y x, Nat.gcd_comm], hbel.trans (hb1.mono hbel.size)⟩
      case measure => simp only [strNum, num_B]; exact Nat.mod_lt x (by omega)
theorem natural_DivMod (a b : ByteArray) (w : World) (h : valid a = true → num a < 18446744073709551616 ∨ num a < num b) :
    Calls Tryz.prog 27 #[.string a, .string b] w fun e w' => e = .returned (.tuple #[.string (natDivMod a b).1, .string (natDivMod a b).2.1, .int .i64 (natDivMod a b).2.2]) ∧ Below w.heap.size w w' := by
  by_cases hv : valid a = true ∧ valid b = true
  · obtain ⟨ha, hb⟩ := hv
    replace h := h ha
    have hr : natDivMod a b = if num b = 0 then (E0, E0, 11) else (B (num a / num b), B (num a % num b), 0) := by unfold natDivMod; rw [ha, hb]; rfl
    have HR := Lib.hid hr
    clear hr
    have ea := B_num ha
    have eb := B_num hb
    generalize num a = x at *
    generalize num b = y at *
    subst ea; subst eb
    by_cases hz : y = 0
    · subst hz
      have he := B_isEmpty_true
      clear h
      go_enter Tryz.func27, Tryz.ntmps27
      go_wp2_with (first | (go_at_call 13; refine (natural_Valid _ _).mono ?_; rintro e w' ⟨rfl, rfl⟩))
      go_ret3
      exact ⟨ret_ssi (by rw [HR.out]; rfl) (by rw [HR.out]; rfl) (by rw [HR.out]; rfl), Below.refl _ _⟩
    · have he := B_isEmpty_false hz
      have HZ := Lib.hid hz
      have H := Lib.hid h
      clear h hz
      go_enter Tryz.func27, Tryz.ntmps27
      go_wp2_with (first | (go_at_call 13; refine (natural_Valid _ _).mono ?_; rintro e w' ⟨rfl, rfl⟩) | (go_at_call 43; (with_reducible refine (natural_divided8 x y _ H.out (Nat.pos_of_ne_zero HZ.out)).mono ?_); rintro e w' ⟨rfl, hb1⟩))
      go_ret3
      exact ⟨ret_ssi (by rw [HR.out, if_neg HZ.out]) (by rw [HR.out, if_neg HZ.out]) (by rw [HR.out, if_neg HZ.out]), hb1⟩
  · have hr : natDivMod a b = (E0, E0, 3) := by unfold natDivMod; rw [if_neg (by rw [Bool.and_eq_true]; exact hv)]
    have HR := Lib.hid hr
    clear hr h
    by_cases ha : valid a = true
    · have hb : valid b = false := by cases h : valid b with | false => rfl | true => exact absurd ⟨ha, h⟩ hv
      clear hv
      go_enter Tryz.func27, Tryz.ntmps27
      go_wp2_with (first | (go_at_call 13; refine (natural_Valid _ _).mono ?_; rintro e w' ⟨rfl, rfl⟩))
      go_ret3
      exact ⟨ret_ssi (by rw [HR.out]; rfl) (by rw [HR.out]; rfl) (by rw [HR.out]), Below.refl _ _⟩
    · have ha' : valid a = false := by simpa using ha
      clear hv ha
      go_enter Tryz.func27, Tryz.ntmps27
      go_wp2_with (first | (go_at_call 13; refine (natural_Valid _ _).mono ?_; rintro e w' ⟨rfl, rfl⟩))
      go_ret3
      exact ⟨ret_ssi (by rw [HR.out]; rfl) (by rw [HR.out]; rfl) (by rw [HR.out]), Below.refl _ _⟩
theorem i64_and_nat (a b : Nat) (ha : a < 9223372036854775808) (hb : b < 9223372036854775808) : bits .and .i64 (a : Int) (b : Int) = ((a &&& b : Nat) : Int) := by
  have hx : a &&& b < 2 ^ 63 := Nat.and_lt_two_pow _ (by omega)
  show IntKind.i64.wrap ((BitVec.ofInt 64 (a : Int) &&& BitVec.ofInt 64 (b : Int)).toNat : Int) = _
  rw [BitVec.toNat_and, ofInt_u64 a (by omega), ofInt_u64 b (by omega)]
  simp only [IntKind.wrap, IntKind.bits, IntKind.signed]
  generalize a &&& b = c at hx
  simp
  omega
theorem i64_or_nat (a b : Nat) (ha : a < 9223372036854775808) (hb : b < 9223372036854775808) : bits .or .i64 (a : Int) (b : Int) = ((a ||| b : Nat) : Int) := by
  have hx : a ||| b < 2 ^ 63 := Nat.or_lt_two_pow (by omega) (by omega)
  show IntKind.i64.wrap ((BitVec.ofInt 64 (a : Int) ||| BitVec.ofInt 64 (b : Int)).toNat : Int) = _
  rw [BitVec.toNat_or, ofInt_u64 a (by omega), ofInt_u64 b (by omega)]
  simp only [IntKind.wrap, IntKind.bits, IntKind.signed]
  generalize a ||| b = c at hx
  simp
  omega
theorem bit_test (d k : Nat) (hd : d < 256) : (bits .and .i64 ((d : Int) / 2 ^ k) 1 == 1) = (d / 2 ^ k % 2 == 1) := by
  have e : ((d : Int) / 2 ^ k) = ((d / 2 ^ k : Nat) : Int) := by simp
  have hl : d / 2 ^ k ≤ d := Nat.div_le_self _ _
  have := i64_and_nat (d / 2 ^ k) 1 (by omega) (by omega)
  rw [e]
  rw [show ((1 : Nat) : Int) = 1 from rfl] at this
  rw [this, nat_mask1]
  generalize d / 2 ^ k % 2 = r
  rw [Bool.eq_iff_iff, beq_iff_eq, beq_iff_eq]
  omega
theorem natural_digit_int (s : ByteArray) (z : Int) (i : Nat) (w : World) (hz : z = i) (hi : i ≤ 1000000) (hs : s.size ≤ 1000000) :
    Calls Tryz.prog 65 #[.string s, .int .i64 z] w fun e w' => e = .returned (.int .i64 ((num s / 256 ^ i % 256 : Nat) : Int)) ∧ w = w' := by
  subst hz
  exact natural_digit s i w hi hs
theorem natBit_digit (n i : Nat) : n / 256 ^ (i / 8) % 256 / 2 ^ (i % 8) % 2 = n / 2 ^ i % 2 := by
  have e : 2 ^ i = 256 ^ (i / 8) * 2 ^ (i % 8) := by
    rw [← pow_256, ← Nat.pow_add, Nat.div_add_mod]
  rw [e, ← Nat.div_div_eq_div_mul]
  generalize n / 256 ^ (i / 8) = m
  have h8 : i % 8 < 8 := Nat.mod_lt _ (by omega)
  generalize i % 8 = k at h8
  match k, h8 with
  | 0, _ => omega
  | 1, _ => omega
  | 2, _ => omega
  | 3, _ => omega
  | 4, _ => omega
  | 5, _ => omega
  | 6, _ => omega
  | 7, _ => omega
theorem natBit_high (a : ByteArray) (i : Nat) (h : a.size ≤ i / 8) : num a / 2 ^ i % 2 = 0 := by
  have h1 := num_lt a
  have h2 : 256 ^ a.size ≤ 2 ^ i := by
    rw [← pow_256]
    exact Nat.pow_le_pow_right (by omega) (by omega)
  rw [Nat.div_eq_of_lt (by omega)]
theorem natural_Bit (a : ByteArray) (z : Int) (i : Nat) (w : World) (hz : z = i) (hi : i ≤ 100000) (sa : a.size ≤ 100000) :
    Calls Tryz.prog 44 #[.string a, .int .i64 z] w fun e w' => e = .returned (.bool (natBit a i)) ∧ w = w' := by
  subst hz
  by_cases hv : valid a = true
  · by_cases hlt : i / 8 < a.size
    · have hr : natBit a i = (((num a / 256 ^ (i / 8) % 256 / 2 ^ (i % 8) % 2 : Nat)) == 1) := by unfold natBit; rw [hv, natBit_digit]; rfl
      have HR := Lib.hid hr
      clear hr
      obtain ⟨d, hd⟩ : ∃ d, num a / 256 ^ (i / 8) % 256 = d := ⟨_, rfl⟩
      have d1 : d < 256 := by omega
      have HD := Lib.hid hd
      clear hd
      have hz : ((i : Int) / 8) = ((i / 8 : Nat) : Int) := by simp
      have HZ := Lib.hid hz
      clear hz
      go_enter Tryz.func44, Tryz.ntmps44
      go_wp2_with (first | (go_at_call 13; refine (natural_Valid _ _).mono ?_; rintro e w' ⟨rfl, rfl⟩) | (go_at_call 65; (with_reducible refine (natural_digit_int a _ (i / 8) _ HZ.out (by omega) (by omega)).mono ?_); rintro e w' ⟨rfl, rfl⟩; rw [HD.out]))
      go_ret
      exact ⟨ret_bool (by rw [HR.out, HD.out, ← bit_test _ _ d1]), rfl⟩
    · have hr : natBit a i = false := by unfold natBit; rw [natBit_high a i (by omega)]; simp
      have HR := Lib.hid hr
      clear hr
      go_enter Tryz.func44, Tryz.ntmps44
      go_wp2_with (first | (go_at_call 13; refine (natural_Valid _ _).mono ?_; rintro e w' ⟨rfl, rfl⟩))
      go_ret
      exact ⟨ret_bool HR.out.symm, rfl⟩
  · have hv' : valid a = false := by simpa using hv
    have hr : natBit a i = false := by unfold natBit; rw [hv']; rfl
    have HR := Lib.hid hr
    clear hr hv
    go_enter Tryz.func44, Tryz.ntmps44
    go_wp2_with (first | (go_at_call 13; refine (natural_Valid _ _).mono ?_; rintro e w' ⟨rfl, rfl⟩))
    go_ret
    exact ⟨ret_bool HR.out.symm, rfl⟩
end Go.Proofs.YtcpglhjmhegfmaaGreatDoor
namespace Go.Proofs.YtcpglhjmhegfmaaGreatDoor
open Go.RowKit
set_option maxRecDepth 100000
set_option linter.unusedVariables false
set_option maxHeartbeats 400000
theorem bitsN_of {n k : Nat} (h0 : n ≠ 0) (h1 : 2 ^ k ≤ n) (h2 : n < 2 ^ (k + 1)) : bitsN n = k + 1 := by
  unfold bitsN
  rw [if_neg h0]
  have a := (Nat.le_log2 h0).2 h1
  have b := (Nat.log2_lt h0).2 h2
  omega
theorem bitLen_pos {x : Nat} (h0 : x ≠ 0) (h : x < 256) : ∃ k, Lib.bitLen x = k + 1 ∧ 2 ^ k ≤ x ∧ x < 2 ^ (k + 1) := by
  obtain ⟨a, b, c⟩ := Lib.bitLenAux_bounds 64 x (by omega) h0
  refine ⟨Lib.bitLenAux 64 x - 1, ?_, b, ?_⟩
  · unfold Lib.bitLen; omega
  · rw [show Lib.bitLenAux 64 x - 1 + 1 = Lib.bitLenAux 64 x by omega]; exact c
theorem bits_of_bytes {s : ByteArray} (hv : valid s = true) (h : 0 < s.size) : (natBits s : Int) = 8 * ((s.size : Int) - 1) + (Lib.bitLen s[0].toNat : Int) := by
  have hl := hv
  unfold valid at hl
  rw [Bool.and_eq_true] at hl
  obtain ⟨_, hl⟩ := hl
  rw [lead_getElem h] at hl
  have h0 : s[0].toNat ≠ 0 := by intro e; rw [e] at hl; simp at hl
  have hd := num_digit s (s.size - 1) (by omega)
  have e0 : s.size - 1 - (s.size - 1) = 0 := by omega
  simp only [e0] at hd
  have hlt := num_lt s
  obtain ⟨k, hk, h1, h2⟩ := bitLen_pos h0 s[0].toNat_lt
  have ep : 256 ^ s.size = 256 ^ (s.size - 1) * 256 := by
    rw [← Nat.pow_succ]
    congr 1
    omega
  rw [ep] at hlt
  have hq : num s / 256 ^ (s.size - 1) < 256 := Nat.div_lt_of_lt_mul hlt
  rw [Nat.mod_eq_of_lt hq] at hd
  rw [hd] at h1 h2
  have hp : 0 < 256 ^ (s.size - 1) := Nat.pow_pos (by omega)
  have a1 : 2 ^ (8 * (s.size - 1) + k) ≤ num s := by
    rw [Nat.pow_add, pow_256]
    exact Nat.le_trans (Nat.mul_le_mul_left _ h1) (Nat.mul_div_le _ _)
  have a2 : num s < 2 ^ (8 * (s.size - 1) + k + 1) := by
    rw [Nat.add_assoc, Nat.pow_add, pow_256, Nat.mul_comm]
    exact (Nat.div_lt_iff_lt_mul hp).1 h2
  unfold natBits
  rw [hv, if_pos rfl, bitsN_of (by have := Nat.pow_pos (n := 8 * (s.size - 1) + k) (show 0 < 2 by omega); omega) a1 a2, hk]
  omega
theorem natural_Bits (s : ByteArray) (w : World) :
    Calls Tryz.prog 70 #[.string s] w fun e w' => e = .returned (.int .i64 (natBits s)) ∧ w = w' := by
  by_cases hv : valid s = true
  · by_cases h0 : 0 < s.size
    · have he : s.toList.isEmpty = false := by
        rw [ByteArray.toList_eq, List.isEmpty_eq_false_iff]
        intro e
        have := size_eq s
        rw [e, List.length_nil] at this
        omega
      have hs := valid_size hv
      have HB := Lib.hid (bits_of_bytes hv h0)
      have hb0 : (Lib.bitLen s[0].toNat) ≤ 8 := Lib.bitLen_le8 ⟨s[0].toNat, s[0].toNat_lt⟩
      have hby : (s[0].toNat : Int) ≤ 255 := by have := s[0].toNat_lt; omega
      go_enter Tryz.func70, Tryz.ntmps70
      go_wp2_with (first | (go_at_call 13; refine (natural_Valid _ _).mono ?_; rintro e w' ⟨rfl, rfl⟩) | (go_at_call 76; (refine (Tryz.bits_Len8 _ _ (by omega) hby).mono ?_); rintro e w' ⟨rfl, rfl⟩))
      go_ret
      exact ⟨ret_int (by rw [HB.out]; rfl), rfl⟩
    · obtain rfl : s = ByteArray.empty := by
        apply ByteArray.ext
        apply Array.eq_empty_of_size_eq_zero
        show s.size = 0
        omega
      go_enter Tryz.func70, Tryz.ntmps70
      go_wp2_with (first | (go_at_call 13; refine (natural_Valid _ _).mono ?_; rintro e w' ⟨rfl, rfl⟩))
      go_ret
      exact ⟨rfl, rfl⟩
  · have hv' : valid s = false := by simpa using hv
    have hr : natBits s = 0 := by unfold natBits; rw [hv']; rfl
    have HR := Lib.hid hr
    clear hr hv
    go_enter Tryz.func70, Tryz.ntmps70
    go_wp2_with (first | (go_at_call 13; refine (natural_Valid _ _).mono ?_; rintro e w' ⟨rfl, rfl⟩))
    go_ret
    exact ⟨ret_int (by rw [HR.out]; rfl), rfl⟩
def intCells (L : List Nat) : Array Value := (L.map fun (n : Nat) => Value.int .i64 n).toArray
/-- Block g is just these numbers of int, and may be written. -/
def Ck (w : World) (g : Nat) (T : TypeId) (L : List Nat) : Prop := w.heap[g]? = some (.cells (intCells L) T (0, 0))
theorem intCells_get (L : List Nat) (k : Nat) (h : k < L.length) : (intCells L)[k]? = some (.int .i64 (L.getD k 0 : Nat)) := by
  simp [intCells, List.getD, h]
theorem intCells_set (L : List Nat) (k n : Nat) : (intCells L).setIfInBounds k (.int .i64 n) = intCells (L.set k n) := by
  simp [intCells, List.map_set]
section
variable {w w' : World} {g : Nat} {T : TypeId} {L : List Nat}
theorem Ck.cell (h : Ck w g T L) {k : Nat} (hk : k < L.length) : w.cell? ⟨g, k, none⟩ = some (.int .i64 (L.getD k 0 : Nat)) := by
  unfold Ck at h
  simp only [World.cell?, h]
  exact intCells_get L k hk
theorem Ck.free (h : Ck w g T L) (k : Nat) : w.frozen? ⟨g, k, none⟩ = false := by
  unfold Ck at h
  simp [World.frozen?, h]
theorem Ck.lt (h : Ck w g T L) : g < w.heap.size := by
  rcases Nat.lt_or_ge g w.heap.size with hlt | hge
  · exact hlt
  · unfold Ck at h; rw [Array.getElem?_eq_none hge] at h; cases h
theorem Ck.set (h : Ck w g T L) (k n : Nat) : Ck (w.setCell ⟨g, k, none⟩ (.int .i64 n)) g T (L.set k n) := by
  unfold Ck at h ⊢
  rw [← intCells_set]
  simp [World.setCell, Array.getElem?_modify, h]
theorem Ck.far (h : Ck w g T L) {p : Addr} (hp : g ≠ p.block) (u : Value) : Ck (w.setCell p u) g T L := (Below.heap_setCell w p u g hp).trans h
theorem Ck.alloc (h : Ck w g T L) (o : Obj) : Ck (w.alloc o) g T L := (Below.heap_alloc w o g h.lt).trans h
theorem Ck.below {B : Nat} (h : Ck w g T L) (hb : Below B w w') (hg : g < B) : Ck w' g T L := (hb.block g hg).trans h
end
theorem i64_info : (Tryz.prog.info? 3).map (fun i => (i.zero, i.size, i.bytes)) = some (some (.int .i64 0), 1, 8) := by kernel_rfl
theorem zeroInt (w : World) : (zeroValue 3).run Tryz.prog w = .ok (.int .i64 0) w := by kernel_rfl
theorem zeroCells_ints (n : Nat) : (Builtin.zeroCells (Value.int .i64 0).cells n).toList = (List.replicate n (Value.int .i64 0)) := by
  apply List.ext_getElem
  · simp [Builtin.zeroCells, Value.cells]
  · intro i h1 h2
    simp [Builtin.zeroCells, Value.cells, Nat.mod_one]
/-- 'clear' of a row that is zero. -/
theorem clear_zero {w : World} {g : Nat} (h : Ck w g 106 (List.replicate 256 0)) (ty : TypeId) :
    (Builtin.clear_ #[115] ty #[.slice (some ⟨g, 0, none⟩) 256 256]).run Tryz.prog w = .ok (.tuple #[]) w := by
  have hz := zeroCells_ints 256
  have hs := run_storeCells_at (P := Tryz.prog) g 0 106 (List.replicate 256 (Value.int .i64 0)) 0 _ w h (by simp [intCells]) (by intro v hv; rw [List.eq_of_mem_replicate hv]; rfl)
  have he : (List.take (0 + 0) (intCells (List.replicate 256 0)).toList ++ List.replicate 256 (Value.int .i64 0) ++ List.drop (0 + 0 + (List.replicate 256 (Value.int .i64 0)).length) (intCells (List.replicate 256 0)).toList).toArray = intCells (List.replicate 256 0) := by
    simp [intCells]
  rw [he, setRow_self w g _ _ (0, 0) h] at hs
  clear he
  generalize List.replicate 256 (Value.int .i64 0) = Z at hz hs
  simp [Builtin.clear_, run_underlying Tryz.underlying115, zeroInt w, hz, hs]
theorem getD_zeros (n k : Nat) : (List.replicate n 0).getD k 0 = 0 := by
  rw [List.getD, List.getElem?_replicate]
  split <;> rfl
set_option maxHeartbeats 4000000 in
theorem natural_product (a b : ByteArray) (g : Nat) (w : World) (sa : a.size ≤ 128) (sb : b.size ≤ 128) (hck : Ck w g 106 (List.replicate 256 0)) :
    Calls Tryz.prog 59 #[.string a, .string b, .pointer (some ⟨g, 0, none⟩)] w fun e w' => e = .returned (.string (B (num a * num b))) ∧ Below g w w' := by
  have la := Lib.hid (num_lt a)
  have lb := Lib.hid (num_lt b)
  have hg := hck.lt
  have hclr := clear_zero hck
  have HCK := Lib.hid hck
  clear hck
  have hmk := make_bytes (a.size + b.size) (by omega)
  rw [show ((a.size + b.size : Nat) : Int) = (a.size : Int) + (b.size : Int) by omega] at hmk
  go_enter Tryz.func59, Tryz.ntmps59
  go_wp2_with fail
  go_loopw [19] (fun c wr => ∃ (i : Nat) (L : List Nat), i ≤ a.size ∧ c = .int .i64 i ∧ Ck wr g 106 L ∧ L.length = 256 ∧ ev L = (num a % 256 ^ i) * num b ∧ (∀ k, L.getD k 0 ≤ 65025 * (128 * i)) ∧ Below g w wr) (fun c _ => a.size - (intOf c).toNat)
  case atStart => exact ⟨0, List.replicate 256 0, by omega, rfl, HCK.out, by simp, by rw [ev_zeros]; simp [Nat.mod_one], by intro k; rw [getD_zeros]; omega, Below.refl _ _⟩
  case round =>
    obtain ⟨i, L, hi, rfl, hck, hlen, hev, hbd, hbel⟩ := hrel
    have HC := Lib.hid hck
    have HE := Lib.hid hev
    have HBD := Lib.hid hbd
    have HLN := Lib.hid hlen
    clear hck hev hbd hlen
    by_cases hlt : i < a.size
    · obtain ⟨da, hda⟩ : ∃ d, num a / 256 ^ i % 256 = d := ⟨_, rfl⟩
      have da1 : da ≤ 255 := by omega
      have HA := Lib.hid hda
      clear hda
      go_wp2_with (first | (go_at_call 65; (with_reducible refine (natural_digit' a _ _ _ (by omega) (by omega) HA).mono ?_); rintro e w' ⟨rfl, rfl⟩))
      go_loopw [27] (fun c wr2 => ∃ (j : Nat) (L2 : List Nat), j ≤ b.size ∧ c = .int .i64 j ∧ Ck wr2 g 106 L2 ∧ L2.length = 256 ∧ ev L2 = (num a % 256 ^ i) * num b + da * 256 ^ i * (num b % 256 ^ j) ∧ (∀ k, L2.getD k 0 ≤ 65025 * (128 * i + j)) ∧ Below g w wr2) (fun c _ => b.size - (intOf c).toNat)
      case atStart => exact ⟨0, L, by omega, rfl, HC.out, HLN.out, by rw [HE.out]; simp [Nat.mod_one], HBD.out, hbel⟩
      case round =>
        obtain ⟨j, L2, hj, rfl, hck, hlen, hev, hbd, hbel2⟩ := hrel
        have HC2 := Lib.hid hck
        have HE2 := Lib.hid hev
        have HBD2 := Lib.hid hbd
        have HLN2 := Lib.hid hlen
        by_cases hltj : j < b.size
        · obtain ⟨db, hdb⟩ : ∃ d, num b / 256 ^ j % 256 = d := ⟨_, rfl⟩
          have db1 : db ≤ 255 := by omega
          have HB := Lib.hid hdb
          have hcell := hck.cell (k := i + j) (by omega)
          have hfree := hck.free (i + j)
          have hcb := hbd (i + j)
          obtain ⟨c0, hc0⟩ : ∃ c, L2.getD (i + j) 0 = c := ⟨_, rfl⟩
          rw [hc0] at hcell hcb
          have HC0 := Lib.hid hc0
          have hprod : da * db ≤ 65025 := Nat.mul_le_mul da1 db1
          have c0b : c0 ≤ 1100000000 := by omega
          clear hdb hck hev hbd hlen hc0 hcb
          have hpi : (da : Int) * (db : Int) ≤ 65025 := by have h : ((da * db : Nat) : Int) ≤ 65025 := by omega
                                                           rwa [Int.natCast_mul] at h
          have hpn : 0 ≤ (da : Int) * (db : Int) := Int.mul_nonneg (by omega) (by omega)
          have s1 : IntKind.i64.wrap ((i : Int) + (j : Int)) = (i : Int) + (j : Int) := IntWalk.i64_in _ (by omega)
          have s2 : 0 ≤ (i : Int) + (j : Int) := by omega
          have s3 : ((i : Int) + (j : Int)).toNat = i + j := by omega
          have s4 : IntKind.i64.wrap ((da : Int) * (db : Int)) = (da : Int) * (db : Int) := IntWalk.i64_in _ (by omega)
          have s5 : IntKind.i64.wrap ((c0 : Int) + (da : Int) * (db : Int)) = (c0 : Int) + (da : Int) * (db : Int) := IntWalk.i64_in _ (by omega)
          have s6 : (i : Int) + (j : Int) < 256 := by omega
          have s7 : i + j < 256 := by omega
          go_wp2_with fail
          go_region_with (first | (go_at_call 65; (with_reducible refine (natural_digit' b _ _ _ (by omega) (by omega) HB).mono ?_); rintro e w' ⟨rfl, rfl⟩))
          all_goals
            clear s1 s2 s3 s4 s5 s6
            go_wp2_with fail
            go_roundw
            case rel =>
              have h1 := ev_set L2 (i + j) (da * db) (by rw [HLN2.out]; omega)
              have h2 := getD_set_le L2 _ (da * db) (i + j) HBD2.out
              refine ⟨j + 1, L2.set (i + j) (L2.getD (i + j) 0 + da * db), by omega, by go_num, ?_, by rw [List.length_set]; exact HLN2.out, ?_, fun k => Nat.le_trans (h2 k) (by omega), ?_⟩
              · have := HC2.out.set (i + j) (c0 + da * db)
                rw [HC0.out]
                rw [show (((c0 + da * db : Nat)) : Int) = (c0 : Int) + (da : Int) * (db : Int) by rw [Int.natCast_add, Int.natCast_mul]] at this
                exact this
              · rw [h1, HE2.out]; exact prod_step _ _ _ _ _ HB.out _
              · exact (hbel2.drew).setCell (Nat.le_refl _) _
            case measure => simp [intOf]; omega
        · obtain rfl : j = b.size := by omega
          clear hck hev hbd hlen
          go_wp2_with fail
          go_roundw
          case rel => exact ⟨i + 1, L2, by omega, by go_num, HC2.out, HLN2.out, by rw [HE2.out, Nat.mod_eq_of_lt lb.out]; exact prod_row _ _ _ _ HA.out, fun k => Nat.le_trans (HBD2.out k) (by omega), hbel2⟩
          case measure => simp [intOf]; omega
    · obtain rfl : i = a.size := by omega
      obtain ⟨wo, rfl⟩ : ∃ wo : World, wo = wr := ⟨_, rfl⟩
      have hev2 : ev L = num a * num b := by rw [HE.out, Nat.mod_eq_of_lt la.out]
      have HE2 := Lib.hid hev2
      clear hev2
      go_wp2_with fail
      go_loopw [12, 55] (fun cy c wr2 => ∃ i : Nat, i ≤ a.size + b.size ∧ c = .int .i64 i ∧ cy = .int .i64 (colCarry L i : Nat) ∧ Bk wr2 wo.heap.size 5 (fill (a.size + b.size) i (num a * num b)) ∧ Below wo.heap.size wo wr2) (fun _ c _ => a.size + b.size - (intOf c).toNat)
      case atStart => exact ⟨0, by omega, rfl, by rw [colCarry_zero]; rfl, by rw [fill_zero]; exact Bk.new wo 5 (List.replicate (a.size + b.size) 0), (Below.refl _ _).alloc (Nat.le_refl _) _⟩
      case round =>
        obtain ⟨i, hi, rfl, rfl, hbk, hbel2⟩ := hrel
        by_cases hlt2 : i < a.size + b.size
        · have HB := Lib.hid hbk
          have hc2 := hbk.cell (k := a.size + b.size - 1 - i) (by rw [fill_length _ hi]; omega)
          have hf2 := hbk.free (a.size + b.size - 1 - i)
          have hgw := HC.out.lt
          have hcell := (HC.out.below hbel2 hgw).cell (k := i) (by rw [HLN.out]; omega)
          have hcb := HBD.out i
          have hcc := colCarry_le L _ HBD.out i (by rw [HLN.out]; omega)
          have h1 := colCarry_digit L i (by rw [HLN.out]; omega)
          have h2 := colCarry_next L i (by rw [HLN.out]; omega)
          rw [HE2.out] at h1
          obtain ⟨c0, hc0⟩ : ∃ c, L.getD i 0 = c := ⟨_, rfl⟩
          rw [hc0] at hcell hcb h1 h2
          generalize colCarry L i = cy at *
          have H1 := Lib.hid h1
          have H2 := Lib.hid h2
          clear hbk h1 h2 hc0
          go_wp2_with fail
          go_roundw
          case rel =>
            refine ⟨i + 1, by omega, by go_num, ?_, ?_, hbel2.setCell (by simp) _⟩
            · rw [← H2.out]; congr 1
            · rw [show ((cy : Int) + (c0 : Int)) = ((cy + c0 : Nat) : Int) by omega, u8_wrap_nat]
              have := HB.out.set (a.size + b.size - 1 - i) (UInt8.ofNat (cy + c0))
              rw [show UInt8.ofNat (cy + c0) = UInt8.ofNat ((num a * num b) / 256 ^ i) from UInt8.toNat_inj.mp (by rw [toNat_ofNat8, toNat_ofNat8, H1.out])] at this ⊢
              rw [fill_set _ hlt2] at this
              exact this
          case measure => simp [intOf]; omega
        · obtain rfl : i = a.size + b.size := by omega
          rw [fill_full] at hbk
          have HB := Lib.hid hbk
          have hlt3 : num a * num b < 256 ^ (a.size + b.size) := by
            rw [Nat.pow_add]; exact Nat.mul_lt_mul'' la.out lb.out
          have HT := Lib.hid (trimL_be hlt3)
          clear hbk hlt3
          go_wp2_with (first | (go_at_call 23; (refine (natural_trimmed' wo.heap.size (be (a.size + b.size) (num a * num b)) (a.size + b.size) (a.size + b.size) _ _ (be_length _ _) (by omega) HB.out.row HT.out).mono ?_); rintro e w' ⟨rfl, rfl⟩))
          go_ret
          exact ⟨rfl, hbel.trans (hbel2.mono (by have := HC.out.lt; omega))⟩
end Go.Proofs.YtcpglhjmhegfmaaGreatDoor
namespace Go.Proofs.YtcpglhjmhegfmaaGreatDoor
open Go.RowKit
set_option maxRecDepth 100000
set_option linter.unusedVariables false
set_option maxHeartbeats 400000
theorem natSmall_lt (s : ByteArray) : (natSmall s).1 < 18446744073709551616 := by
  unfold natSmall
  split
  · rename_i h
    rw [Bool.and_eq_true, decide_eq_true_eq] at h
    exact natSmall_bound s h.2
  · exact (by decide : (0 : Nat) < 18446744073709551616)
theorem bits_Mul64' (x y hi lo : Nat) (hx : x < 18446744073709551616) (hy : y < 18446744073709551616) (hh : Hid (x * y / 18446744073709551616 = hi)) (hl : Hid (x * y % 18446744073709551616 = lo)) (w : World) :
    Calls Tryz.prog 57 #[.int .u64 x, .int .u64 y] w fun e w' => e = .returned (.tuple #[.int .u64 hi, .int .u64 lo]) ∧ w = w' := by
  refine (Tryz.bits_Mul64 x y hx hy w).mono ?_
  rintro e w' ⟨rfl, rfl⟩
  rw [hh.out, hl.out]
  exact ⟨rfl, rfl⟩
theorem Ck.new256 (w : World) : Ck (w.alloc (.cells (intCells (List.replicate 256 0)) 106)) w.heap.size 106 (List.replicate 256 0) := heap_alloc_new w _
set_option maxHeartbeats 1000000 in
theorem natural_Mul (a b : ByteArray) (w : World) :
    Calls Tryz.prog 39 #[.string a, .string b] w fun e w' => e = .returned (.tuple #[.string (natMul a b).1, .int .i64 (natMul a b).2]) ∧ Below w.heap.size w w' := by
  by_cases hv : valid a = true ∧ valid b = true
  · obtain ⟨ha, hb⟩ := hv
    have hr : natMul a b = fitted (num a * num b) := by unfold natMul; rw [ha, hb]; rfl
    have HR := Lib.hid hr
    clear hr
    have sa := valid_size ha
    have sb := valid_size hb
    have HX := Lib.hid (natSmall_lt a)
    have HY := Lib.hid (natSmall_lt b)
    obtain ⟨hi, hhi⟩ : ∃ hi, (natSmall a).1 * (natSmall b).1 / 18446744073709551616 = hi := ⟨_, rfl⟩
    obtain ⟨lo, hlo⟩ : ∃ lo, (natSmall a).1 * (natSmall b).1 % 18446744073709551616 = lo := ⟨_, rfl⟩
    have HH := Lib.hid hhi
    have HL := Lib.hid hlo
    have hloL := Lib.hid (show lo < 18446744073709551616 by rw [← hlo]; exact Nat.mod_lt _ (by decide))
    by_cases hfast : (a.size ≤ 8 ∧ b.size ≤ 8) ∧ hi = 0
    · obtain ⟨⟨h8a, h8b⟩, rfl⟩ := hfast
      have hres : fitted (num a * num b) = (B lo, 0) := by
        have e1 : (natSmall a).1 = num a := by unfold natSmall; rw [ha]; simp [h8a]
        have e2 : (natSmall b).1 = num b := by unfold natSmall; rw [hb]; simp [h8b]
        have hlt : num a * num b < 18446744073709551616 := by
          rw [← e1, ← e2]
          rcases Nat.lt_or_ge ((natSmall a).1 * (natSmall b).1) 18446744073709551616 with h | h
          · exact h
          · have := Nat.div_pos h (by decide); omega
        rw [e1, e2, Nat.mod_eq_of_lt hlt] at hlo
        unfold fitted
        rw [hlo, if_pos (by rw [← hlo]; exact Nat.lt_trans hlt (by decide))]
      have HS := Lib.hid hres
      clear hres hhi hlo
      go_enter Tryz.func39, Tryz.ntmps39
      go_wp2_with (first | (go_at_call 13; refine (natural_Valid _ _).mono ?_; rintro e w' ⟨rfl, rfl⟩) | (go_at_call 4; refine (natural_Small _ _).mono ?_; rintro e w' ⟨rfl, rfl⟩) | (go_at_call 57; (with_reducible refine (bits_Mul64' _ _ _ _ HX.out HY.out HH HL _).mono ?_); rintro e w' ⟨rfl, rfl⟩) | (go_at_call 12; (with_reducible refine (natural_Of lo _ hloL.out).mono ?_); rintro e w' ⟨rfl, hb1⟩))
      go_ret2
      exact ⟨ret_se (by rw [HR.out, HS.out]) (by rw [HR.out, HS.out]), hb1⟩
    · by_cases h8a : a.size ≤ 8
      · by_cases h8b : b.size ≤ 8
        · have hne : ((hi : Int) == 0) = false := by
            rw [beq_eq_false_iff_ne]
            intro e
            exact hfast ⟨⟨h8a, h8b⟩, by omega⟩
          clear hhi hlo hfast
          go_enter Tryz.func39, Tryz.ntmps39
          go_wp2_with (first | (go_at_call 13; refine (natural_Valid _ _).mono ?_; rintro e w' ⟨rfl, rfl⟩) | (go_at_call 4; refine (natural_Small _ _).mono ?_; rintro e w' ⟨rfl, rfl⟩) | (go_at_call 57; (with_reducible refine (bits_Mul64' _ _ _ _ HX.out HY.out HH HL _).mono ?_); rintro e w' ⟨rfl, rfl⟩) | (go_at_call 59; refine (natural_product a b w.heap.size _ sa sb (Ck.new256 w)).mono ?_; rintro e w' ⟨rfl, hb1⟩) | (go_at_call 58; (refine (natural_fitting _ _).mono ?_); rintro e w' ⟨rfl, rfl⟩))
          go_ret2
          exact ⟨ret_se (by rw [HR.out]) (by rw [HR.out]), ((Below.refl _ _).alloc (Nat.le_refl _) _).trans hb1⟩
        · clear hhi hlo hfast
          go_enter Tryz.func39, Tryz.ntmps39
          go_wp2_with (first | (go_at_call 13; refine (natural_Valid _ _).mono ?_; rintro e w' ⟨rfl, rfl⟩) | (go_at_call 4; refine (natural_Small _ _).mono ?_; rintro e w' ⟨rfl, rfl⟩) | (go_at_call 57; (with_reducible refine (bits_Mul64' _ _ _ _ HX.out HY.out HH HL _).mono ?_); rintro e w' ⟨rfl, rfl⟩) | (go_at_call 59; refine (natural_product a b w.heap.size _ sa sb (Ck.new256 w)).mono ?_; rintro e w' ⟨rfl, hb1⟩) | (go_at_call 58; (refine (natural_fitting _ _).mono ?_); rintro e w' ⟨rfl, rfl⟩))
          go_ret2
          exact ⟨ret_se (by rw [HR.out]) (by rw [HR.out]), ((Below.refl _ _).alloc (Nat.le_refl _) _).trans hb1⟩
      · clear hhi hlo hfast
        go_enter Tryz.func39, Tryz.ntmps39
        go_wp2_with (first | (go_at_call 13; refine (natural_Valid _ _).mono ?_; rintro e w' ⟨rfl, rfl⟩) | (go_at_call 4; refine (natural_Small _ _).mono ?_; rintro e w' ⟨rfl, rfl⟩) | (go_at_call 57; (with_reducible refine (bits_Mul64' _ _ _ _ HX.out HY.out HH HL _).mono ?_); rintro e w' ⟨rfl, rfl⟩) | (go_at_call 59; refine (natural_product a b w.heap.size _ sa sb (Ck.new256 w)).mono ?_; rintro e w' ⟨rfl, hb1⟩) | (go_at_call 58; (refine (natural_fitting _ _).mono ?_); rintro e w' ⟨rfl, rfl⟩))
        go_ret2
        exact ⟨ret_se (by rw [HR.out]) (by rw [HR.out]), ((Below.refl _ _).alloc (Nat.le_refl _) _).trans hb1⟩
  · have hr : natMul a b = (E0, 3) := by unfold natMul; rw [if_neg (by rw [Bool.and_eq_true]; exact hv)]
    have HR := Lib.hid hr
    clear hr
    by_cases ha : valid a = true
    · have hb : valid b = false := by cases h : valid b with | false => rfl | true => exact absurd ⟨ha, h⟩ hv
      clear hv
      go_enter Tryz.func39, Tryz.ntmps39
      go_wp2_with (first | (go_at_call 13; refine (natural_Valid _ _).mono ?_; rintro e w' ⟨rfl, rfl⟩))
      go_ret2
      exact ⟨ret_se (by rw [HR.out]; rfl) (by rw [HR.out]), Below.refl _ _⟩
    · have ha' : valid a = false := by simpa using ha
      clear hv ha
      go_enter Tryz.func39, Tryz.ntmps39
      go_wp2_with (first | (go_at_call 13; refine (natural_Valid _ _).mono ?_; rintro e w' ⟨rfl, rfl⟩))
      go_ret2
      exact ⟨ret_se (by rw [HR.out]; rfl) (by rw [HR.out]), Below.refl _ _⟩
end Go.Proofs.YtcpglhjmhegfmaaGreatDoor
namespace Go.Proofs.YtcpglhjmhegfmaaGreatDoor
open Go.RowKit
set_option maxRecDepth 100000
set_option linter.unusedVariables false
set_option maxHeartbeats 400000
theorem below2 {w w1 w2 : World} (h1 : Below w.heap.size w w1) (h2 : Below w1.heap.size w1 w2) : Below w.heap.size w w2 := h1.trans (h2.mono h1.size)
theorem bcell {W w1 : World} (hb : Below W.heap.size W w1) : (∀ b o, b < W.heap.size → w1.cell? ⟨b, o, none⟩ = W.cell? ⟨b, o, none⟩) ∧ (∀ b o, b < W.heap.size → w1.frozen? ⟨b, o, none⟩ = W.frozen? ⟨b, o, none⟩) :=
  ⟨fun b o h => hb.cell (p := ⟨b, o, none⟩) h, fun b o h => hb.frozen (p := ⟨b, o, none⟩) h⟩
theorem quiet_of_eq {P : Program} {f : FuncId} {args : Array Value} {w : World} {n : Nat} {v : Value}
    (h : Calls P f args (w.drewN n) fun e w' => e = .returned v ∧ w.drewN n = w') : Calls P f args (w.drewN n) fun e w'' => e = .returned v ∧ ∃ m, w'' = w.drewN m :=
  h.mono fun _ _ ⟨he, hm⟩ => ⟨he, n, hm.symm⟩
theorem below_drewN {B : Nat} {a w : World} (h : Below B a w) (n : Nat) : Below B a (w.drewN n) := ⟨h.os, h.tape, h.output, h.size, h.block⟩
/-- Whether a group has the form of one of unknown order. -/
def goodS (m o : ByteArray) : Bool := valid m && o.toList.isEmpty && natBit m 0 && decide (0 < natCmp m (B 8))
theorem rsagroup_one (w : World) : Calls Tryz.prog 52 #[] w fun e w' => e = .returned (.string (B 1)) ∧ Below w.heap.size w w' := by
  go_enter Tryz.func52, Tryz.ntmps52
  go_wp2_with (go_at_call 12; (with_reducible refine (natural_Of' 1 1 _ rfl (by decide)).mono ?_); rintro e w' ⟨rfl, hb1⟩)
  go_ret
  exact ⟨rfl, hb1⟩
theorem rsagroup_good (m o : ByteArray) (w : World) (sm : m.size ≤ 100000) :
    Calls Tryz.prog 50 #[.agg #[.string m, .string o]] w fun e w' => e = .returned (.bool (goodS m o)) ∧ Below w.heap.size w w' := by
  have hr : goodS m o = (valid m && o.toList.isEmpty && natBit m 0 && decide (0 < natCmp m (B 8))) := rfl
  have HR := Lib.hid hr
  clear hr
  cases h1 : valid m
  · go_enter Tryz.func50, Tryz.ntmps50
    go_wp2_with fail
    go_quiet ((go_at_call 13; exact quiet_of_eq (natural_Valid _ _)))
    go_wp2_with fail
    go_ret
    exact ⟨ret_bool (by rw [HR.out, h1]; rfl), below_drewN ((Below.refl _ _).alloc (Nat.le_refl _) _) _⟩
  · cases h2 : o.toList.isEmpty
    · go_enter Tryz.func50, Tryz.ntmps50
      go_wp2_with fail
      go_quiet ((go_at_call 13; exact quiet_of_eq (natural_Valid _ _)))
      go_wp2_with fail
      go_ret
      exact ⟨ret_bool (by rw [HR.out, h1, h2]; rfl), below_drewN ((Below.refl _ _).alloc (Nat.le_refl _) _) _⟩
    · cases h3 : natBit m 0
      · go_enter Tryz.func50, Tryz.ntmps50
        go_wp2_with fail
        go_quiet ((first | (go_at_call 13; exact quiet_of_eq (natural_Valid _ _)) | (go_at_call 44; exact quiet_of_eq (natural_Bit m 0 0 _ rfl (by omega) sm))))
        go_wp2_with fail
        go_ret
        exact ⟨ret_bool (by rw [HR.out, h1, h2, h3]; rfl), below_drewN ((Below.refl _ _).alloc (Nat.le_refl _) _) _⟩
      · go_enter Tryz.func50, Tryz.ntmps50
        go_wp2_with fail
        go_region_with (first | (go_at_call 13; refine (natural_Valid _ _).mono ?_; rintro e w' ⟨rfl, rfl⟩) | (go_at_call 44; refine (natural_Bit m 0 0 _ rfl (by omega) sm).mono ?_; rintro e w' ⟨rfl, rfl⟩) | (go_at_call 12; (with_reducible refine (natural_Of' 8 8 _ rfl (by decide)).mono ?_); rintro e w' ⟨rfl, hb1⟩; have hcw := (bcell hb1).1) | (go_at_call 33; refine (natural_Cmp _ _ _).mono ?_; rintro e w' ⟨rfl, rfl⟩))
        all_goals
          clear hcw
          go_wp2_with fail
          go_ret
          exact ⟨ret_bool (by rw [HR.out, h1, h2, h3]; rfl), ((Below.refl w.heap.size w).alloc (Nat.le_refl _) _).drew.trans (hb1.mono (by simp))⟩
end Go.Proofs.YtcpglhjmhegfmaaGreatDoor
namespace Go.Proofs.YtcpglhjmhegfmaaGreatDoor
open Go.RowKit
set_option maxRecDepth 100000
set_option linter.unusedVariables false
set_option maxHeartbeats 400000
theorem below_box' {w w2 : World} {o : Obj} (h2 : Below (w.alloc o).heap.size (w.alloc o) w2) : Below w.heap.size w w2 := ((Below.refl _ _).alloc (Nat.le_refl _) _).trans (h2.mono (by simp))
theorem natural_Gcd' (a b : ByteArray) (w : World) (ha : Hid (B (num a) = a)) (hb : Hid (B (num b) = b)) (hx : Hid (num a < 18446744073709551616)) (hy : Hid (num b < 18446744073709551616)) :
    Calls Tryz.prog 51 #[.string a, .string b] w fun e w' => e = .returned (.tuple #[.string (B (Nat.gcd (num a) (num b))), .int .i64 0]) ∧ Below w.heap.size w w' := by
  have := natural_Gcd (num a) (num b) w hx.out hy.out
  rw [ha.out, hb.out] at this
  exact this
theorem B_beq (x y : Nat) : ((B x).toList == (B y).toList) = decide (x = y) := by
  rw [Bool.eq_iff_iff, beq_iff_eq, decide_eq_true_eq, ByteArray.toList_eq, ByteArray.toList_eq]
  exact ⟨fun h => enc_inj h, fun h => by rw [h]⟩
/-- Whether a number is an element of a group of unknown order. -/
def hasS (m o x : ByteArray) : Bool := goodS m o && valid x && !x.toList.isEmpty && decide (natCmp x m < 0) && decide (Nat.gcd (num x) (num m) = 1)
theorem goodS_valid {m o : ByteArray} (h : goodS m o = true) : valid m = true := by
  unfold goodS at h
  simp only [Bool.and_eq_true] at h
  exact h.1.1.1
theorem natCmp_neg {a b : ByteArray} (ha : valid a = true) (hb : valid b = true) (h : natCmp a b < 0) : num a < num b := by
  unfold natCmp at h
  rw [ha, hb] at h
  exact cmpN_neg.1 h
theorem rsagroup_Has (m o x : ByteArray) (w : World) (sm : m.size ≤ 8) :
    Calls Tryz.prog 35 #[.agg #[.string m, .string o], .string x] w fun e w' => e = .returned (.bool (hasS m o x)) ∧ Below w.heap.size w w' := by
  have hr : hasS m o x = (goodS m o && valid x && !x.toList.isEmpty && decide (natCmp x m < 0) && decide (Nat.gcd (num x) (num m) = 1)) := rfl
  have HR := Lib.hid hr
  clear hr
  cases h1 : goodS m o
  · go_enter Tryz.func35, Tryz.ntmps35
    go_wp2_with (first | (go_at_call 50; refine (rsagroup_good _ _ _ (by omega)).mono ?_; rintro e w' ⟨rfl, hb1⟩; have hcw := (bcell hb1).1))
    go_ret
    exact ⟨ret_bool (by rw [HR.out, h1]; rfl), below_box' hb1⟩
  · cases h2 : valid x
    · go_enter Tryz.func35, Tryz.ntmps35
      go_wp2_with (first | (go_at_call 50; refine (rsagroup_good _ _ _ (by omega)).mono ?_; rintro e w' ⟨rfl, hb1⟩; have hcw := (bcell hb1).1) | (go_at_call 13; refine (natural_Valid _ _).mono ?_; rintro e w' ⟨rfl, rfl⟩))
      go_ret
      exact ⟨ret_bool (by rw [HR.out, h1, h2]; rfl), below_box' hb1⟩
    · cases h3 : x.toList.isEmpty
      · have hcm := Lib.hid (fun h => natCmp_neg h2 (goodS_valid h1) h)
        by_cases h4 : natCmp x m < 0
        · have hlt := hcm.out h4
          have hm8 := natSmall_bound m sm
          have ex := B_num h2
          have em := B_num (goodS_valid h1)
          have H4 := Lib.hid h4
          have hge : ¬ 0 ≤ natCmp x m := by omega
          clear hcm
          have HX := Lib.hid ex
          have HM := Lib.hid em
          have HL := Lib.hid (Nat.lt_trans hlt hm8)
          have H8 := Lib.hid hm8
          clear ex em hlt hm8
          go_enter Tryz.func35, Tryz.ntmps35
          go_wp2_with (first | (go_at_call 50; refine (rsagroup_good _ _ _ (by omega)).mono ?_; rintro e w' ⟨rfl, hb1⟩; have hcw := (bcell hb1).1) | (go_at_call 13; refine (natural_Valid _ _).mono ?_; rintro e w' ⟨rfl, rfl⟩) | (go_at_call 33; refine (natural_Cmp _ _ _).mono ?_; rintro e w' ⟨rfl, rfl⟩) | (go_at_call 51; refine (natural_Gcd' _ _ _ HX HM HL H8).mono ?_; rintro e w' ⟨rfl, hb2⟩) | (go_at_call 52; refine (rsagroup_one _).mono ?_; rintro e w' ⟨rfl, hb3⟩))
          go_ret
          exact ⟨ret_bool (by rw [HR.out, h1, h2, h3, decide_eq_true H4.out, B_beq]; rfl), below2 (below2 (below_box' hb1) hb2) hb3⟩
        · clear hcm
          have H4 := Lib.hid h4
          go_enter Tryz.func35, Tryz.ntmps35
          go_wp2_with (first | (go_at_call 50; refine (rsagroup_good _ _ _ (by omega)).mono ?_; rintro e w' ⟨rfl, hb1⟩; have hcw := (bcell hb1).1) | (go_at_call 13; refine (natural_Valid _ _).mono ?_; rintro e w' ⟨rfl, rfl⟩) | (go_at_call 33; refine (natural_Cmp _ _ _).mono ?_; rintro e w' ⟨rfl, rfl⟩))
          go_ret
          exact ⟨ret_bool (by rw [HR.out, h1, h2, h3, decide_eq_false (show ¬ natCmp x m < 0 by have := H4.out; omega)]; rfl), below_box' hb1⟩
      · go_enter Tryz.func35, Tryz.ntmps35
        go_wp2_with (first | (go_at_call 50; refine (rsagroup_good _ _ _ (by omega)).mono ?_; rintro e w' ⟨rfl, hb1⟩; have hcw := (bcell hb1).1) | (go_at_call 13; refine (natural_Valid _ _).mono ?_; rintro e w' ⟨rfl, rfl⟩))
        go_ret
        exact ⟨ret_bool (by rw [HR.out, h1, h2, h3]; rfl), below_box' hb1⟩
theorem natural_Sub' (x y : Nat) (w : World) (hx : x < lim) (hle : y ≤ x) :
    Calls Tryz.prog 45 #[.string (B x), .string (B y)] w fun e w' => e = .returned (.tuple #[.string (B (x - y)), .int .i64 0]) ∧ Below w.heap.size w w' := by
  have := natural_Sub (B x) (B y) w
  have e : natSub (B x) (B y) = (B (x - y), 0) := by
    unfold natSub; rw [valid_B hx, valid_B (Nat.lt_of_le_of_lt hle hx), num_B, num_B]; simp; omega
  rw [e] at this
  exact this
theorem u64_lt_lim {x : Nat} (h : x < 18446744073709551616) : x < lim := Nat.lt_trans h (by decide)
theorem natural_DivMod' (x y : Nat) (w : World) (hx : x < 18446744073709551616) (hy : y < 18446744073709551616) (h0 : 0 < y) :
    Calls Tryz.prog 27 #[.string (B x), .string (B y)] w fun e w' => e = .returned (.tuple #[.string (B (x / y)), .string (B (x % y)), .int .i64 0]) ∧ Below w.heap.size w w' := by
  have := natural_DivMod (B x) (B y) w (fun _ => .inl (by rw [num_B]; exact hx))
  have e : natDivMod (B x) (B y) = (B (x / y), B (x % y), 0) := by
    unfold natDivMod; rw [valid_B (u64_lt_lim hx), valid_B (u64_lt_lim hy), num_B, num_B]; simp; omega
  rw [e] at this
  exact this
theorem rsagroup_half (n : Nat) (w : World) (h0 : 1 ≤ n) (h : n < 18446744073709551616) :
    Calls Tryz.prog 40 #[.string (B n)] w fun e w' => e = .returned (.string (B ((n - 1) / 2))) ∧ Below w.heap.size w w' := by
  have hl := Lib.hid (u64_lt_lim h)
  have hn := Lib.hid (show n - 1 < 18446744073709551616 by omega)
  clear h
  go_enter Tryz.func40, Tryz.ntmps40
  go_wp2_with (first | (go_at_call 52; refine (rsagroup_one _).mono ?_; rintro e w' ⟨rfl, hb1⟩) | (go_at_call 45; refine (natural_Sub' n 1 _ hl.out h0).mono ?_; rintro e w' ⟨rfl, hb2⟩) | (go_at_call 12; (with_reducible refine (natural_Of' 2 2 _ rfl (by decide)).mono ?_); rintro e w' ⟨rfl, hb3⟩) | (go_at_call 27; refine (natural_DivMod' (n - 1) 2 _ hn.out (by decide) (by decide)).mono ?_; rintro e w' ⟨rfl, hb4⟩))
  go_ret
  exact ⟨rfl, below2 (below2 (below2 hb1 hb2) hb3) hb4⟩
theorem rsagroup_primes (p q : ByteArray) (w : World) :
    Calls Tryz.prog 36 #[.agg #[.string p, .string q]] w fun e w' => e = .returned (.agg #[.string p, .string q]) ∧ Below w.heap.size w w' := by
  go_enter Tryz.func36, Tryz.ntmps36
  go_wp2_with fail
  exact bodyPost_ret (v := .agg #[.string p, .string q]) (by simp [results, Tryz.results36, go_sem]) rfl ⟨rfl, ((Below.refl _ _).alloc (Nat.le_refl _) _).alloc (by simp) _⟩
def basesV : Array Value := #[.int .u64 2, .int .u64 3, .int .u64 5, .int .u64 7, .int .u64 11, .int .u64 13, .int .u64 17, .int .u64 19, .int .u64 23, .int .u64 29, .int .u64 31, .int .u64 37]
theorem prime_bases (w : World) :
    Calls Tryz.prog 60 #[] w fun e w' => e = .returned (.agg basesV) ∧ Below w.heap.size w w' := by
  go_enter Tryz.func60, Tryz.ntmps60
  go_wp2_with fail
  exact bodyPost_ret (v := .agg basesV) (by simp [results, Tryz.results60, go_sem, basesV]) rfl ⟨rfl, (Below.refl _ _).alloc (Nat.le_refl _) _⟩
/-- A number below 2^64, or the error. -/
def smallS (s : ByteArray) : Nat × Int := if valid s then (if s.size ≤ 8 then (num s, 0) else (0, 5)) else (0, 3)
theorem smallS_lt (s : ByteArray) : (smallS s).1 < 18446744073709551616 := by
  unfold smallS
  split
  · split
    · exact natSmall_bound s (by assumption)
    · exact (by decide : (0 : Nat) < 18446744073709551616)
  · exact (by decide : (0 : Nat) < 18446744073709551616)
theorem prime_small (s : ByteArray) (w : World) :
    Calls Tryz.prog 41 #[.string s] w fun e w' => e = .returned (.tuple #[.int .u64 (smallS s).1, .int .i64 (smallS s).2]) ∧ w = w' := by
  by_cases hv : valid s = true
  · by_cases h8 : s.size ≤ 8
    · have hr : smallS s = (num s, 0) := by unfold smallS; rw [if_pos hv, if_pos h8]
      have hn : natSmall s = (num s, true) := by unfold natSmall; rw [hv]; simp [h8]
      have h1 : (natSmall s).1 = num s := by rw [hn]
      have h2 : (natSmall s).2 = true := by rw [hn]
      have HR := Lib.hid hr
      have H1 := Lib.hid h1
      clear hr hn h1
      go_enter Tryz.func41, Tryz.ntmps41
      go_wp2_with (first | (go_at_call 13; refine (natural_Valid _ _).mono ?_; rintro e w' ⟨rfl, rfl⟩) | (go_at_call 4; refine (natural_Small _ _).mono ?_; rintro e w' ⟨rfl, rfl⟩))
      go_ret2
      exact ⟨ret_ie (by rw [HR.out, H1.out]) (by rw [HR.out]), rfl⟩
    · have hr : smallS s = (0, 5) := by unfold smallS; rw [if_pos hv, if_neg h8]
      have hn : natSmall s = (0, false) := by unfold natSmall; simp [h8]
      have h2 : (natSmall s).2 = false := by rw [hn]
      have HR := Lib.hid hr
      clear hr hn
      go_enter Tryz.func41, Tryz.ntmps41
      go_wp2_with (first | (go_at_call 13; refine (natural_Valid _ _).mono ?_; rintro e w' ⟨rfl, rfl⟩) | (go_at_call 4; refine (natural_Small _ _).mono ?_; rintro e w' ⟨rfl, rfl⟩))
      go_ret2
      exact ⟨ret_ie (by rw [HR.out]; rfl) (by rw [HR.out]), rfl⟩
  · have hv' : valid s = false := by simpa using hv
    have hr : smallS s = (0, 3) := by unfold smallS; rw [if_neg hv]
    have HR := Lib.hid hr
    clear hr hv
    go_enter Tryz.func41, Tryz.ntmps41
    go_wp2_with (first | (go_at_call 13; refine (natural_Valid _ _).mono ?_; rintro e w' ⟨rfl, rfl⟩))
    go_ret2
    exact ⟨ret_ie (by rw [HR.out]; rfl) (by rw [HR.out]), rfl⟩
end Go.Proofs.YtcpglhjmhegfmaaGreatDoor
