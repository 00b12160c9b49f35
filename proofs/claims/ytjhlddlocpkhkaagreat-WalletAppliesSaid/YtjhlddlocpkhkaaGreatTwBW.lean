/- The walks of package natural, first part: each function once. The walks of package natural, second part. The walks of package natural, third part. The walks of package natural, fourth part, and of rsagroup's small parts. The walks of package rsagroup: the form of a group. The walks of package rsagroup: elements. -/
import Derived.Test.YtjhlddlocpkhkaaGreatRows
import Derived.Test.YtjhlddlocpkhkaaGreatTwBA
import Derived.Test.YtjhlddlocpkhkaaGreatShelf
import Derived.Deep.OwnRows
import Derived.Deep.RegionWith
import Derived.StillTailTactics
import Derived.WalkKit
import Derived.WalkSpells
import Derived.WalkLawsBesides
import Derived.Lib.Hide
import Derived.Laws.BitsAllLaws
import Derived.Deep.QuietTactic
import Derived.BigQuiet
import Derived.IntWalk
import Derived.Lib.ItoaNum
import Derived.Laws.CopyRow
namespace Go.Proofs.YtjhlddlocpkhkaaGreat
open Go.RowKit
set_option maxRecDepth 100000
set_option linter.unusedVariables false
set_option maxHeartbeats 400000
theorem ret_bool {a b : Bool} (h : a = b) : Ending.returned (.bool a) = .returned (.bool b) := by rw [h]
theorem ret_int {k : IntKind} {a b : Int} (h : a = b) : Ending.returned (.int k a) = .returned (.int k b) := by rw [h]
theorem ret_string {a b : ByteArray} (h : a = b) : Ending.returned (.string a) = .returned (.string b) := by rw [h]
theorem ret_se {a b : ByteArray} {k : IntKind} {x y : Int} (h : a = b) (h2 : x = y) : Ending.returned (.tuple #[.string a, .int k x]) = .returned (.tuple #[.string b, .int k y]) := by rw [h, h2]
theorem ret_ib {k : IntKind} {x y : Int} {a b : Bool} (h : x = y) (h2 : a = b) : Ending.returned (.tuple #[.int k x, .bool a]) = .returned (.tuple #[.int k y, .bool b]) := by rw [h, h2]
theorem lead_getElem {s : ByteArray} (h : 0 < s.size) : lead s.data.toList = ((s[0].toNat : Int) != 0) := by
  obtain ⟨⟨l⟩⟩ := s
  cases l with
  | nil => simp [ByteArray.size] at h
  | cons b l =>
    show (b != 0) = ((b.toNat : Int) != 0)
    rw [Bool.eq_iff_iff, bne_iff_ne, bne_iff_ne]
    constructor
    · intro h1 h2; apply h1; exact UInt8.toNat_inj.mp (by simpa using h2)
    · intro h1 h2; apply h1; subst h2; rfl
theorem valid_pos {s : ByteArray} (h : 0 < s.size) : valid s = (decide ((s.size : Int) ≤ 128) && (((s.size : Int) == 0) || ((s[0].toNat : Int) != 0))) := by
  have h1 : ((s.size : Int) == 0) = false := by rw [beq_eq_false_iff_ne]; omega
  unfold valid
  rw [lead_getElem h, h1, Bool.false_or]
  congr 1
  exact decide_eq_decide.2 (by omega)
theorem natural_Valid (s : ByteArray) (w : World) :
    Calls Tryz.prog 90 #[.string s] w fun e w' => e = .returned (.bool (valid s)) ∧ w = w' := by
  by_cases h0 : 0 < s.size
  · have hv := Lib.hid (valid_pos h0)
    go_enter Tryz.func90, Tryz.ntmps90
    go_wp2
    all_goals
      go_ret
      exact ⟨ret_bool (by rw [hv.out]; first | (simp [*]; done) | (simp; intros; omega)), rfl⟩
  · obtain rfl : s = ByteArray.empty := by
      apply ByteArray.ext
      apply Array.eq_empty_of_size_eq_zero
      show s.size = 0
      omega
    go_enter Tryz.func90, Tryz.ntmps90
    go_wp2
    go_ret
    exact ⟨rfl, rfl⟩
def sliceLen : Value → Nat
  | .slice _ l _ => l
  | _ => 0
theorem trimL_drop_zero {L : List UInt8} {k : Nat} (h : k < L.length) (h0 : L.getD k 0 = 0) : trimL (L.drop k) = trimL (L.drop (k + 1)) := by
  rw [List.drop_eq_getElem_cons h]
  have : L[k] = 0 := by rw [← h0, getD_lt h]
  conv => lhs; unfold trimL
  rw [if_pos this]
theorem trimL_drop_stop {L : List UInt8} {k : Nat} (h : k < L.length) (h0 : L.getD k 0 ≠ 0) : trimL (L.drop k) = L.drop k := by
  rw [List.drop_eq_getElem_cons h]
  have : L[k] ≠ 0 := by rw [getD_lt h] at h0; exact h0
  unfold trimL
  rw [if_neg this]
theorem addr_add (g o j : Nat) : (⟨g, o, none⟩ : Addr).add j = ⟨g, o + j, none⟩ := by unfold Addr.add; split <;> simp_all
theorem Row.drop {w : World} {g o : Nat} {L : List UInt8} (h : Row w g o L) (k : Nat) : Row w g (o + k) (L.drop k) := by
  intro j hj
  have hj' : k + j < L.length := by simp at hj; omega
  have := h (k + j) hj'
  rw [getD_lt hj'] at this
  rw [getD_lt hj, List.getElem_drop, ← this]
  simp [Nat.add_assoc]
/-- 'api.Nat(b)' of a row of bytes. -/
theorem conv_row {w : World} {g o : Nat} {L : List UInt8} (h : Row w g o L) (n c : Nat) (hn : L.length = n) :
    (convert 183 22 (.slice (some ⟨g, o, none⟩) n c)).run Tryz.prog w = .ok (.string ⟨L.toArray⟩) w := by
  subst hn
  exact run_convert_bytes_back w 183 22 5 ⟨g, o, none⟩ c L Tryz.underlying183 Tryz.underlying5 Tryz.underlying22 (fun j hj => by
    have := h j hj
    rw [getD_lt hj] at this
    rw [addr_add]; exact this)
theorem conv_row_zero (w : World) (g o c : Nat) : (convert 183 22 (.slice (some ⟨g, o, none⟩) 0 c)).run Tryz.prog w = .ok (.string ⟨#[]⟩) w :=
  conv_row (L := []) (fun k h => absurd h (by simp)) 0 c rfl
theorem natural_trimmed (g o : Nat) (L : List UInt8) (n cap : Nat) (w : World) (hn : L.length = n) (hnc : n ≤ cap) (hrow : Row w g o L) :
    Calls Tryz.prog 138 #[.slice (some ⟨g, o, none⟩) n cap] w fun e w' => e = .returned (.string ⟨(trimL L).toArray⟩) ∧ w = w' := by
  have HN := Lib.hid hn
  have HR := Lib.hid hrow
  clear hn hrow
  go_enter Tryz.func138, Tryz.ntmps138
  go_wp2
  go_loop [0] (fun v => ∃ k A : Nat, k ≤ n ∧ trimL (L.drop k) = trimL L ∧ v = .slice (some ⟨g, A, none⟩) (n - k) (cap - k) ∧ (k < n → A = o + k)) (fun v => sliceLen v)
  case atStart => exact ⟨0, o, Nat.zero_le _, rfl, rfl, fun _ => rfl⟩
  case round =>
    obtain ⟨k, A, hk, ht, rfl, hA⟩ := hrel
    have HT := Lib.hid ht
    clear ht
    by_cases hlt : k < n
    · obtain rfl : A = o + k := hA hlt
      clear hA
      have hc := HR.out k (by have := HN.out; omega)
      by_cases h0 : L.getD k 0 = 0
      · have H0 := Lib.hid h0
        have hc0 : w.cell? ⟨g, o + k, none⟩ = some (.int .u8 0) := by rw [hc, h0]; rfl
        clear h0 hc
        go_wp2
        go_round
        case rel =>
          refine ⟨k + 1, if cap - k = 1 then o + k else o + k + 1, by omega, ?_, ?_, ?_⟩
          · rw [← trimL_drop_zero (by have := HN.out; omega) H0.out, HT.out]
          · rw [show n - k - 1 = n - (k + 1) by omega, show cap - k - 1 = cap - (k + 1) by omega]
            split <;> rfl
          · intro h; rw [if_neg (by omega)]; omega
        case measure => simp [sliceLen]; omega
      · obtain ⟨z, hz⟩ : ∃ z : Int, ((L.getD k 0).toNat : Int) = z := ⟨_, rfl⟩
        have hb : (z == 0) = false := by
          rw [beq_eq_false_iff_ne]; intro e; exact h0 (UInt8.toNat_inj.mp (by rw [e] at hz; simpa using hz))
        rw [hz] at hc
        have H0 := Lib.hid h0
        clear h0 hz
        have hcv := conv_row (HR.out.drop k) (n - k) (cap - k) (by have := HN.out; simp; omega)
        generalize hS : (⟨(List.drop k L).toArray⟩ : ByteArray) = S at hcv
        have HS := Lib.hid hS
        clear hS
        go_wp2
        go_ret
        exact ⟨ret_string (by rw [← HS.out, ← HT.out, trimL_drop_stop (by have := HN.out; omega) H0.out]), rfl⟩
    · obtain rfl : k = n := by omega
      have hcv := conv_row_zero w g A (cap - k)
      go_wp2
      go_ret
      refine ⟨ret_string ?_, rfl⟩
      rw [← HT.out, List.drop_eq_nil_of_le (by have := HN.out; omega)]
      rfl
theorem natural_Of (n : Nat) (w : World) (hn : n < 18446744073709551616) :
    Calls Tryz.prog 125 #[.int .u64 n] w fun e w' => e = .returned (.string (B n)) ∧ Below w.heap.size w w' := by
  go_enter Tryz.func125, Tryz.ntmps125
  go_wp2
  go_loopw [5] (fun c wr => ∃ i : Nat, i ≤ 8 ∧ c = .int .i64 i ∧ Bk wr w.heap.size 181 (fill 8 i n) ∧ wr.heap.size = w.heap.size + 1 ∧ Below w.heap.size w wr) (fun c _ => 8 - (intOf c).toNat)
  case atStart => exact ⟨0, by omega, rfl, by rw [fill_zero]; exact Bk.new w 181 (List.replicate 8 0), by simp, (Below.refl _ _).alloc (Nat.le_refl _) _⟩
  case round =>
    obtain ⟨i, hi, rfl, hb, hsz, hbel⟩ := hrel
    by_cases hlt : i < 8
    · have HB := Lib.hid hb
      have hc := hb.cell (k := 7 - i) (by rw [fill_length _ hi]; omega)
      have hf := hb.free (7 - i)
      clear hb
      go_wp2
      go_roundw
      case rel =>
        rw [byte_shr]
        refine ⟨i + 1, by omega, by go_num, ?_, ?_, ?_⟩
        · have := HB.out.set (7 - i) (UInt8.ofNat (n / 256 ^ i))
          rw [show 7 - i = 8 - 1 - i by omega, fill_set n hlt] at this
          exact this
        · simp [hsz]
        · exact hbel.setCell (by simp) _
      case measure => simp [intOf]; omega
    · obtain rfl : i = 8 := by omega
      rw [fill_full] at hb
      have HB := Lib.hid hb
      clear hb
      go_wp2_with (go_at_call 138; refine (natural_trimmed w.heap.size 0 (be 8 n) 8 8 _ (be_length _ _) (by omega) HB.out.row).mono ?_; rintro e w' ⟨rfl, rfl⟩)
      go_ret
      exact ⟨ret_string (by rw [trimL_be (by omega)]; rfl), hbel⟩
theorem or_shl8 (v b : Nat) (hv : v * 256 + b < 18446744073709551616) (hb : b < 256) :
    bits .or .u64 (IntKind.u64.wrap ((v : Int) * 256)) (IntKind.u64.wrap (b : Int)) = ((v * 256 + b : Nat) : Int) := by
  rw [IntKind.wrap_u64, IntKind.wrap_u64, show ((v : Int) * 256) % 18446744073709551616 = ((v * 256 : Nat) : Int) by omega, show ((b : Int) % 18446744073709551616) = ((b : Nat) : Int) by omega]
  rw [u64_or_nat _ _ (by omega) (by omega), nat_join 8 _ _ (by omega) (by omega)]
theorem natural_Small (s : ByteArray) (w : World) :
    Calls Tryz.prog 126 #[.string s] w fun e w' => e = .returned (.tuple #[.int .u64 (natSmall s).1, .bool (natSmall s).2]) ∧ w = w' := by
  by_cases hv : valid s = true
  · by_cases h8 : s.size ≤ 8
    · have hr : natSmall s = (num s, true) := by unfold natSmall; rw [hv]; simp [h8]
      have HR := Lib.hid hr
      have HE0 : num s = val (s.data.toList.take s.size) := by rw [size_eq, List.take_length]; rfl
      have HE := Lib.hid HE0
      clear HE0
      clear hr
      go_enter Tryz.func126, Tryz.ntmps126
      go_wp2_with (first | (go_at_call 90; refine (natural_Valid _ _).mono ?_; rintro e w' ⟨rfl, rfl⟩))
      go_loop [4, 16] (fun n c => ∃ i : Nat, i ≤ s.size ∧ c = .int .i64 i ∧ n = .int .u64 (val (s.data.toList.take i) : Nat)) (fun _ c => s.size - (intOf c).toNat)
      case atStart => exact ⟨0, by omega, rfl, rfl⟩
      case round =>
        obtain ⟨i, hi, rfl, rfl⟩ := hrel
        by_cases hlt : i < s.size
        · go_wp2
          go_round
          case rel =>
            have h1 := val_take_lt s.data.toList (i + 1)
            have h2 : 256 ^ (i + 1) ≤ 256 ^ 8 := Nat.pow_le_pow_right (by omega) (by omega)
            have h3 : (s.data.toList)[i]'(by rw [← size_eq]; exact hlt) = s[i] := rfl
            have h4 := val_take_succ s.data.toList i (by rw [← size_eq]; exact hlt)
            rw [h3] at h4
            refine ⟨i + 1, by omega, by go_num, ?_⟩
            rw [or_shl8 _ _ (by rw [← h4]; omega) (UInt8.toNat_lt _), h4]
          case measure => simp [intOf]; omega
        · obtain rfl : i = s.size := by omega
          go_wp2
          go_ret2
          exact ⟨ret_ib (by rw [HR.out, HE.out]) (by rw [HR.out]), rfl⟩
    · have hr : natSmall s = (0, false) := by unfold natSmall; simp [h8]
      have HR := Lib.hid hr
      clear hr
      go_enter Tryz.func126, Tryz.ntmps126
      go_wp2_with (first | (go_at_call 90; refine (natural_Valid _ _).mono ?_; rintro e w' ⟨rfl, rfl⟩))
      go_ret2
      exact ⟨ret_ib (by rw [HR.out]; rfl) (by rw [HR.out]), rfl⟩
  · have hv' : valid s = false := by simpa using hv
    have hr : natSmall s = (0, false) := by unfold natSmall; simp [hv']
    have HR := Lib.hid hr
    clear hr hv
    go_enter Tryz.func126, Tryz.ntmps126
    go_wp2_with (first | (go_at_call 90; refine (natural_Valid _ _).mono ?_; rintro e w' ⟨rfl, rfl⟩))
    go_ret2
    exact ⟨ret_ib (by rw [HR.out]; rfl) (by rw [HR.out]), rfl⟩
theorem u8_info : (Tryz.prog.info? 5).map (fun i => (i.zero, i.size, i.bytes)) = some (some (.int .u8 0), 1, 1) := by kernel_rfl
theorem madeCells_zeros (n : Nat) : madeCells #[Value.int .u8 0] n = cellsOf (List.replicate n 0) := by
  rw [cellsOf_zeros]
  apply Array.ext
  · simp [madeCells]
  · intro i h1 h2
    simp [madeCells, Nat.mod_one]
end Go.Proofs.YtjhlddlocpkhkaaGreat
namespace Go.Proofs.YtjhlddlocpkhkaaGreat
open Go.RowKit
set_option maxRecDepth 100000
set_option linter.unusedVariables false
set_option maxHeartbeats 400000
theorem natural_Of' (z : Int) (n : Nat) (w : World) (hz : z = n) (hn : n < 18446744073709551616) :
    Calls Tryz.prog 125 #[.int .u64 z] w fun e w' => e = .returned (.string (B n)) ∧ Below w.heap.size w w' := by
  subst hz
  exact natural_Of n w hn
theorem natSmall_B {x : Nat} (h : x < 18446744073709551616) : natSmall (B x) = (x, true) := by
  have h1 : (B x).size ≤ 8 := B_size_le'.2 h
  have h2 : valid (B x) = true := valid_B (Nat.lt_trans h (by decide))
  unfold natSmall
  rw [h2, num_B]
  simp [h1]
theorem natural_Small' (x : Nat) (w : World) (h : x < 18446744073709551616) :
    Calls Tryz.prog 126 #[.string (B x)] w fun e w' => e = .returned (.tuple #[.int .u64 (x : Nat), .bool true]) ∧ w = w' := by
  have := natural_Small (B x) w
  rw [natSmall_B h] at this
  exact this
theorem B_isEmpty (n : Nat) : (B n).toList.isEmpty = decide (n = 0) := by
  rw [ByteArray.toList_eq]
  show (enc n).isEmpty = _
  rw [Bool.eq_iff_iff, List.isEmpty_iff, decide_eq_true_eq]
  exact ⟨enc_eq_nil, fun h => by subst h; rfl⟩
theorem B_isEmpty_true : (B 0).toList.isEmpty = true := by rw [B_isEmpty]; rfl
theorem B_isEmpty_false {n : Nat} (h : n ≠ 0) : (B n).toList.isEmpty = false := by rw [B_isEmpty]; simpa using h
end Go.Proofs.YtjhlddlocpkhkaaGreat
namespace Go.Proofs.YtjhlddlocpkhkaaGreat
open Go.RowKit
set_option maxRecDepth 100000
set_option linter.unusedVariables false
set_option maxHeartbeats 400000
section
variable {w w' : World} {g : Nat} {T : TypeId} {L : List Nat}
end
end Go.Proofs.YtjhlddlocpkhkaaGreat
namespace Go.Proofs.YtjhlddlocpkhkaaGreat
open Go.RowKit
set_option maxRecDepth 100000
set_option linter.unusedVariables false
set_option maxHeartbeats 400000
end Go.Proofs.YtjhlddlocpkhkaaGreat
namespace Go.Proofs.YtjhlddlocpkhkaaGreat
open Go.RowKit
set_option maxRecDepth 100000
set_option linter.unusedVariables false
set_option maxHeartbeats 400000
theorem below2 {w w1 w2 : World} (h1 : Below w.heap.size w w1) (h2 : Below w1.heap.size w1 w2) : Below w.heap.size w w2 := h1.trans (h2.mono h1.size)
theorem bcell {W w1 : World} (hb : Below W.heap.size W w1) : (∀ b o, b < W.heap.size → w1.cell? ⟨b, o, none⟩ = W.cell? ⟨b, o, none⟩) ∧ (∀ b o, b < W.heap.size → w1.frozen? ⟨b, o, none⟩ = W.frozen? ⟨b, o, none⟩) :=
  ⟨fun b o h => hb.cell (p := ⟨b, o, none⟩) h, fun b o h => hb.frozen (p := ⟨b, o, none⟩) h⟩
theorem below_drewN {B : Nat} {a w : World} (h : Below B a w) (n : Nat) : Below B a (w.drewN n) := ⟨h.os, h.tape, h.output, h.size, h.block⟩
end Go.Proofs.YtjhlddlocpkhkaaGreat
namespace Go.Proofs.YtjhlddlocpkhkaaGreat
open Go.RowKit
set_option maxRecDepth 100000
set_option linter.unusedVariables false
set_option maxHeartbeats 400000
theorem u64_lt_lim {x : Nat} (h : x < 18446744073709551616) : x < lim := Nat.lt_trans h (by decide)
end Go.Proofs.YtjhlddlocpkhkaaGreat
