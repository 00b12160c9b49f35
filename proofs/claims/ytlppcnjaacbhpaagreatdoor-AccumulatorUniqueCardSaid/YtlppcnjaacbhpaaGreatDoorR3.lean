/- The walks of the reference of layer 1: products. -/
import Derived.Test.YtlppcnjaacbhpaaGreatDoorR2
namespace Go.Proofs.YtlppcnjaacbhpaaGreatDoor
open Go.RowKit
set_option maxRecDepth 100000
set_option linter.unusedVariables false
set_option maxHeartbeats 400000

theorem madeCells_ints (n : Nat) : madeCells #[Value.int .i64 0] n = intCells (List.replicate n 0) := by
  apply Array.ext
  · simp [madeCells, intCells]
  · intro i h1 h2
    simp [madeCells, intCells, Nat.mod_one]
/-- 'make([]int, n)'. -/
theorem make_ints (n : Nat) (h : n ≤ 1000000) (w : World) : (Instr.makeSlice 122 (.int .i64 (n : Int)) (.int .i64 (n : Int))).run Tryz.prog w =
    .ok (.slice (some ⟨w.heap.size, 0, none⟩) n n) (w.alloc (.cells (intCells (List.replicate n 0)) 3)) := by
  rw [← madeCells_ints]
  exact run_make_row' 122 3 (.int .i64 0) 8 Tryz.underlying122 i64_info rfl .i64 .i64 n (by omega) (by omega) w
theorem r01_at' (s : ByteArray) (i d : Nat) (w : World) (hi : i ≤ 1000000) (hs : s.size ≤ 1000000) (hd : Hid (num s / 256 ^ i % 256 = d)) :
    Calls Tryz.prog 90 #[.string s, .int .i64 i] w fun e w' => e = .returned (.int .i64 (d : Int)) ∧ w = w' := by
  have := r01_at s i w hi hs
  rw [hd.out] at this
  exact this
theorem Ck.newL (w : World) (T : TypeId) (L : List Nat) : Ck (w.alloc (.cells (intCells L) T)) w.heap.size T L := heap_alloc_new w _
theorem r01_trim' (g : Nat) (L : List UInt8) (n cap x : Nat) (w : World) (hn : L.length = n) (hnc : n ≤ cap) (hm : n ≤ 1000000) (hrow : Row w g 0 L) (hx : trimL L = enc x) :
    Calls Tryz.prog 59 #[.slice (some ⟨g, 0, none⟩) n cap] w fun e w' => e = .returned (.string (B x)) ∧ w = w' := by
  have := r01_trim g 0 L n cap w hn hnc hm hrow
  rw [hx] at this
  exact this
theorem num_mul_lt (a b : ByteArray) {n : Nat} (h : a.size + b.size ≤ n) : num a * num b < 256 ^ n := by
  have h1 : num a * num b < 256 ^ a.size * 256 ^ b.size := Nat.mul_lt_mul'' (num_lt a) (num_lt b)
  rw [← Nat.pow_add] at h1
  exact Nat.lt_of_lt_of_le h1 (Nat.pow_le_pow_right (by omega) h)
set_option maxHeartbeats 1000000 in
theorem r01_Times_short (a b : ByteArray) (w : World) (h8 : a.size + b.size ≤ 8) :
    Calls Tryz.prog 56 #[.string a, .string b] w fun e w' => e = .returned (.string (B (num a * num b))) ∧ Below w.heap.size w w' := by
  have hp := num_mul_lt a b h8
  have ha := fun w => r01_U64 a w (by omega)
  have hb := fun w => r01_U64 b w (by omega)
  generalize num a = x at *
  generalize num b = y at *
  have hq : ((x : Int) * (y : Int)) = ((x * y : Nat) : Int) := by rw [Int.natCast_mul]
  have hw : IntKind.u64.wrap ((x : Int) * (y : Int)) = ((x * y : Nat) : Int) := by rw [hq, IntKind.wrap_u64]; omega
  have HA := Lib.hid ha
  have HB := Lib.hid hb
  have HP := Lib.hid hp
  have HQ := Lib.hid hq
  clear ha hb hp hq
  go_enter Tryz.func56, Tryz.ntmps56
  go_wp2_with (first | (go_at_call 32; (with_reducible refine (HA.out _).mono ?_); rintro e w' ⟨rfl, rfl⟩) | (go_at_call 32; (with_reducible refine (HB.out _).mono ?_); rintro e w' ⟨rfl, rfl⟩) | (go_at_call 39; (refine (r01_Of' _ _ _ HQ.out HP.out).mono ?_); rintro e w' ⟨rfl, hb1⟩))
  go_ret
  exact ⟨rfl, hb1⟩
set_option maxHeartbeats 4000000 in
theorem r01_Times_long (a b : ByteArray) (w : World) (sa : a.size ≤ 200) (sb : b.size ≤ 200) (h8 : 8 < a.size + b.size) :
    Calls Tryz.prog 56 #[.string a, .string b] w fun e w' => e = .returned (.string (B (num a * num b))) ∧ Below w.heap.size w w' := by
  have la := Lib.hid (num_lt a)
  have lb := Lib.hid (num_lt b)
  have hmk := make_bytes (a.size + b.size) (by omega)
  rw [show ((a.size + b.size : Nat) : Int) = (a.size : Int) + (b.size : Int) by omega] at hmk
  have hmk2 := make_ints (a.size + b.size + 1) (by omega)
  rw [show ((a.size + b.size + 1 : Nat) : Int) = (a.size : Int) + (b.size : Int) + 1 by omega] at hmk2
  go_enter Tryz.func56, Tryz.ntmps56
  go_wp2_with fail
  go_loopw [7, 8] (fun c _ wr => ∃ (i : Nat) (L : List Nat), i ≤ a.size ∧ c = .int .i64 i ∧ Ck wr w.heap.size 3 L ∧ L.length = a.size + b.size + 1 ∧ ev L = (num a % 256 ^ i) * num b ∧ (∀ k, L.getD k 0 ≤ 65025 * (200 * i)) ∧ Below w.heap.size w wr) (fun c _ _ => a.size - (intOf c).toNat)
  case atStart => exact ⟨0, List.replicate (a.size + b.size + 1) 0, by omega, rfl, Ck.newL w 3 _, by simp, by rw [ev_zeros]; simp [Nat.mod_one], by intro k; rw [getD_zeros]; omega, (Below.refl _ _).alloc (Nat.le_refl _) _⟩
  case round =>
    obtain ⟨i, L, hi, rfl, hck, hlen, hev, hbd, hbel⟩ := hrel
    have HC := Lib.hid hck
    have HE := Lib.hid hev
    have HBD := Lib.hid hbd
    have HLN := Lib.hid hlen
    clear hck hev hbd hlen
    by_cases hlt : i < a.size
    · obtain ⟨da, hda⟩ : ∃ d, num a / 256 ^ i % 256 = d := ⟨_, rfl⟩
      have da1 : da ≤ 255 := by omega
      have HA := Lib.hid hda
      clear hda
      go_wp2_with fail
      go_loopw [8] (fun c wr2 => ∃ (j : Nat) (L2 : List Nat), j ≤ b.size ∧ c = .int .i64 j ∧ Ck wr2 w.heap.size 3 L2 ∧ L2.length = a.size + b.size + 1 ∧ ev L2 = (num a % 256 ^ i) * num b + da * 256 ^ i * (num b % 256 ^ j) ∧ (∀ k, L2.getD k 0 ≤ 65025 * (200 * i + j)) ∧ Below w.heap.size w wr2) (fun c _ => b.size - (intOf c).toNat)
      case atStart => exact ⟨0, L, by omega, rfl, HC.out, HLN.out, by rw [HE.out]; simp [Nat.mod_one], HBD.out, hbel⟩
      case round =>
        obtain ⟨j, L2, hj, rfl, hck, hlen, hev, hbd, hbel2⟩ := hrel
        have HC2 := Lib.hid hck
        have HE2 := Lib.hid hev
        have HBD2 := Lib.hid hbd
        have HLN2 := Lib.hid hlen
        by_cases hltj : j < b.size
        · obtain ⟨db, hdb⟩ : ∃ d, num b / 256 ^ j % 256 = d := ⟨_, rfl⟩
          have db1 : db ≤ 255 := by omega
          have HB := Lib.hid hdb
          have hcell := hck.cell (k := i + j) (by omega)
          have hfree := hck.free (i + j)
          have hcb := hbd (i + j)
          obtain ⟨c0, hc0⟩ : ∃ c, L2.getD (i + j) 0 = c := ⟨_, rfl⟩
          rw [hc0] at hcell hcb
          have HC0 := Lib.hid hc0
          have hprod : da * db ≤ 65025 := Nat.mul_le_mul da1 db1
          have c0b : c0 ≤ 3000000000 := by omega
          clear hdb hck hev hbd hlen hc0 hcb
          have hpi : (da : Int) * (db : Int) ≤ 65025 := by have h : ((da * db : Nat) : Int) ≤ 65025 := by omega
                                                           rwa [Int.natCast_mul] at h
          have hpn : 0 ≤ (da : Int) * (db : Int) := Int.mul_nonneg (by omega) (by omega)
          have s1 : IntKind.i64.wrap ((i : Int) + (j : Int)) = (i : Int) + (j : Int) := IntWalk.i64_in _ (by omega)
          have s2 : 0 ≤ (i : Int) + (j : Int) := by omega
          have s3 : ((i : Int) + (j : Int)).toNat = i + j := by omega
          have s4 : IntKind.i64.wrap ((da : Int) * (db : Int)) = (da : Int) * (db : Int) := IntWalk.i64_in _ (by omega)
          have s5 : IntKind.i64.wrap ((c0 : Int) + (da : Int) * (db : Int)) = (c0 : Int) + (da : Int) * (db : Int) := IntWalk.i64_in _ (by omega)
          have s6 : (i : Int) + (j : Int) < (a.size : Int) + (b.size : Int) + 1 := by omega
          have s7 : i + j < a.size + b.size + 1 := by omega
          go_wp2_with fail
          go_region_with (first | (go_at_call 90; (with_reducible refine (r01_at' b _ _ _ (by omega) (by omega) HB).mono ?_); rintro e w' ⟨rfl, rfl⟩) | (go_at_call 90; (with_reducible refine (r01_at' a _ _ _ (by omega) (by omega) HA).mono ?_); rintro e w' ⟨rfl, rfl⟩))
          all_goals
            clear s1 s2 s3 s4 s5 s6
            go_wp2_with fail
            go_roundw
            case rel =>
              have h1 := ev_set L2 (i + j) (da * db) (by rw [HLN2.out]; omega)
              have h2 := getD_set_le L2 _ (da * db) (i + j) HBD2.out
              refine ⟨j + 1, L2.set (i + j) (L2.getD (i + j) 0 + da * db), by omega, by go_num, ?_, by rw [List.length_set]; exact HLN2.out, ?_, fun k => Nat.le_trans (h2 k) (by omega), ?_⟩
              · have := HC2.out.set (i + j) (c0 + da * db)
                rw [HC0.out]
                rw [show (((c0 + da * db : Nat)) : Int) = (c0 : Int) + (da : Int) * (db : Int) by rw [Int.natCast_add, Int.natCast_mul]] at this
                exact this
              · rw [h1, HE2.out]; exact prod_step _ _ _ _ _ HB.out _
              · exact (hbel2.drew).setCell (Nat.le_refl _) _
            case measure => simp [intOf]; omega
        · obtain rfl : j = b.size := by omega
          clear hck hev hbd hlen
          go_wp2_with fail
          go_roundw
          case rel => exact ⟨i + 1, L2, by omega, by go_num, HC2.out, HLN2.out, by rw [HE2.out, Nat.mod_eq_of_lt lb.out]; exact prod_row _ _ _ _ HA.out, fun k => Nat.le_trans (HBD2.out k) (by omega), hbel2⟩
          case measure => simp [intOf]; omega
    · obtain rfl : i = a.size := by omega
      obtain ⟨wo, rfl⟩ : ∃ wo : World, wo = wr := ⟨_, rfl⟩
      have hev2 : ev L = num a * num b := by rw [HE.out, Nat.mod_eq_of_lt la.out]
      have HE2 := Lib.hid hev2
      clear hev2
      go_wp2_with fail
      go_loopw [10, 11, 12] (fun cy c _ wr2 => ∃ i : Nat, i ≤ a.size + b.size ∧ c = .int .i64 i ∧ cy = .int .i64 (colCarry L i : Nat) ∧ Bk wr2 wo.heap.size 5 (fill (a.size + b.size) i (num a * num b)) ∧ Below wo.heap.size wo wr2) (fun _ c _ _ => a.size + b.size - (intOf c).toNat)
      case atStart => exact ⟨0, by omega, rfl, by rw [colCarry_zero]; rfl, by rw [fill_zero]; exact Bk.new wo 5 (List.replicate (a.size + b.size) 0), (Below.refl _ _).alloc (Nat.le_refl _) _⟩
      case round =>
        obtain ⟨i, hi, rfl, rfl, hbk, hbel2⟩ := hrel
        by_cases hlt2 : i < a.size + b.size
        · have HB := Lib.hid hbk
          have hc2 := hbk.cell (k := a.size + b.size - 1 - i) (by rw [fill_length _ hi]; omega)
          have hf2 := hbk.free (a.size + b.size - 1 - i)
          have hgw := HC.out.lt
          have hcell := (HC.out.below hbel2 hgw).cell (k := i) (by rw [HLN.out]; omega)
          have hcb := HBD.out i
          have hcc := colCarry_le L _ HBD.out i (by rw [HLN.out]; omega)
          have h1 := colCarry_digit L i (by rw [HLN.out]; omega)
          have h2 := colCarry_next L i (by rw [HLN.out]; omega)
          rw [HE2.out] at h1
          obtain ⟨c0, hc0⟩ : ∃ c, L.getD i 0 = c := ⟨_, rfl⟩
          rw [hc0] at hcell hcb h1 h2
          generalize colCarry L i = cy at *
          have H1 := Lib.hid h1
          have H2 := Lib.hid h2
          have c0b : c0 ≤ 3000000000 := by omega
          have cyb : cy ≤ 3000000000 := by omega
          clear hbk h1 h2 hc0 hcb hcc
          go_wp2_with fail
          go_roundw
          case rel =>
            refine ⟨i + 1, by omega, by go_num, ?_, ?_, hbel2.setCell (by simp) _⟩
            · rw [← H2.out]; rw [show ((c0 : Int) + (cy : Int)) = ((cy + c0 : Nat) : Int) by omega]; congr 1
            · rw [show ((c0 : Int) + (cy : Int)) = ((cy + c0 : Nat) : Int) by omega, u8_wrap_nat]
              have := HB.out.set (a.size + b.size - 1 - i) (UInt8.ofNat (cy + c0))
              rw [show UInt8.ofNat (cy + c0) = UInt8.ofNat ((num a * num b) / 256 ^ i) from UInt8.toNat_inj.mp (by rw [toNat_ofNat8, toNat_ofNat8, H1.out])] at this ⊢
              rw [fill_set _ hlt2] at this
              exact this
          case measure => simp [intOf]; omega
        · obtain rfl : i = a.size + b.size := by omega
          rw [fill_full] at hbk
          have HB := Lib.hid hbk
          have HT := Lib.hid (trimL_be (num_mul_lt a b (Nat.le_refl (a.size + b.size))))
          clear hbk
          go_wp2_with (first | (go_at_call 59; (refine (r01_trim' wo.heap.size (be (a.size + b.size) (num a * num b)) (a.size + b.size) (a.size + b.size) _ _ (be_length _ _) (by omega) (by omega) HB.out.row HT.out).mono ?_); rintro e w' ⟨rfl, rfl⟩))
          go_ret
          exact ⟨rfl, hbel.trans (hbel2.mono (by have := HC.out.lt; omega))⟩

theorem r01_Times (x y : Nat) (w : World) (sx : (B x).size ≤ 200) (sy : (B y).size ≤ 200) :
    Calls Tryz.prog 56 #[.string (B x), .string (B y)] w fun e w' => e = .returned (.string (B (x * y))) ∧ Below w.heap.size w w' := by
  have hx := num_B x
  have hy := num_B y
  by_cases h : (B x).size + (B y).size ≤ 8
  · have := r01_Times_short (B x) (B y) w h
    rwa [hx, hy] at this
  · have := r01_Times_long (B x) (B y) w sx sy (by omega)
    rwa [hx, hy] at this
theorem r01_Mul (a b : ByteArray) (w : World) :
    Calls Tryz.prog 36 #[.string a, .string b] w fun e w' => e = .returned (.tuple #[.string (natMul a b).1, .int .i64 (natMul a b).2]) ∧ Below w.heap.size w w' := by
  cases ha : valid a
  · have HR := Lib.hid (show natMul a b = (E0, 3) by unfold natMul; rw [ha]; simp)
    go_enter Tryz.func36, Tryz.ntmps36
    go_wp2_with (first | (go_at_call 31; refine (r01_Valid _ _).mono ?_; rintro e w' ⟨rfl, rfl⟩))
    go_ret2
    exact ⟨ret_se (by rw [HR.out]; rfl) (by rw [HR.out]), Below.refl _ _⟩
  · cases hb : valid b
    · have HR := Lib.hid (show natMul a b = (E0, 3) by unfold natMul; rw [hb]; simp)
      go_enter Tryz.func36, Tryz.ntmps36
      go_wp2_with (first | (go_at_call 31; refine (r01_Valid _ _).mono ?_; rintro e w' ⟨rfl, rfl⟩))
      go_ret2
      exact ⟨ret_se (by rw [HR.out]; rfl) (by rw [HR.out]), Below.refl _ _⟩
    · have HR := Lib.hid (show natMul a b = fitted (num a * num b) by unfold natMul; rw [ha, hb]; rfl)
      have sa := valid_size ha
      have sb := valid_size hb
      have HT := Lib.hid (fun w => r01_Times (num a) (num b) w (by rw [B_num ha]; omega) (by rw [B_num hb]; omega))
      rw [B_num ha, B_num hb] at HT
      go_enter Tryz.func36, Tryz.ntmps36
      go_wp2_with (first | (go_at_call 31; refine (r01_Valid _ _).mono ?_; rintro e w' ⟨rfl, rfl⟩) | (go_at_call 56; refine (HT.out _).mono ?_; rintro e w' ⟨rfl, hb1⟩) | (go_at_call 55; refine (r01_fit _ _).mono ?_; rintro e w' ⟨rfl, rfl⟩))
      go_ret2
      exact ⟨ret_se (by rw [HR.out]) (by rw [HR.out]), hb1⟩

end Go.Proofs.YtlppcnjaacbhpaaGreatDoor
