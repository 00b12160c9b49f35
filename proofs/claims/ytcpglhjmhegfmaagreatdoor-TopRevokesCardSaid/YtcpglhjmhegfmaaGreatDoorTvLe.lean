/- natural.divided in general: long division. -/
import Derived.Test.YtcpglhjmhegfmaaGreatDoorTvBW
import Derived.Test.YtcpglhjmhegfmaaGreatDoorTvLf
import Derived.Deep.DeepCutAuto
import Derived.Deep.CutBlock
import Derived.Deep.RegionHeld3
namespace Go.Proofs.YtcpglhjmhegfmaaGreatDoor
open Go.RowKit
set_option maxRecDepth 100000
set_option linter.unusedVariables false
set_option maxHeartbeats 8000000
theorem fill_le {D i : Nat} : putD (D % 256 ^ i) i (D / 256 ^ i % 256) = D % 256 ^ (i + 1) := by
  unfold putD
  rw [Nat.mod_mod, Nat.div_eq_of_lt (Nat.lt_of_lt_of_le (Nat.mod_lt _ (pow256_pos i)) (Nat.pow_le_pow_right (by omega) (Nat.le_succ i))), Nat.zero_mul, Nat.add_zero, Nat.mod_pow_succ, Nat.mul_comm (256 ^ i)]
theorem div_head {y n : Nat} (hn : 1 ≤ n) (h1 : 256 ^ (n - 1) ≤ y) (h2 : y < 256 ^ n) : 0 < y / 256 ^ (n - 1) % 256 := by
  have e : 256 ^ n = 256 ^ (n - 1) * 256 := by rw [← Nat.pow_succ]; congr 1; omega
  rw [e] at h2
  have h3 : y / 256 ^ (n - 1) < 256 := Nat.div_lt_of_lt_mul h2
  rw [Nat.mod_eq_of_lt h3]
  exact Nat.div_pos h1 (pow256_pos _)
theorem B_low {y n : Nat} (h : (B y).size = n) (hn : 1 ≤ n) : 256 ^ (n - 1) ≤ y := by
  rcases Nat.lt_or_ge y (256 ^ (n - 1)) with h1 | h1
  · have := (B_size_le' (n := y) (k := n - 1)).2 h1
    omega
  · exact h1
/-- The facts on the scaled divisor. -/
theorem scaledD {y n s kb t : Nat} (hn : 1 ≤ n) (h1 : 256 ^ (n - 1) ≤ y) (h2 : y < 256 ^ n) (ht : t = y / 256 ^ (n - 1) % 256) (hk1 : 2 ^ kb ≤ t) (hk2 : t < 2 ^ (kb + 1)) (hk : kb ≤ 7) (hs : s = 7 - kb) :
    y * 2 ^ s < 256 ^ n ∧ 128 * 256 ^ (n - 1) ≤ y * 2 ^ s := by
  have e : 256 ^ n = 256 ^ (n - 1) * 256 := by rw [← Nat.pow_succ]; congr 1; omega
  have h3 : y / 256 ^ (n - 1) < 256 := Nat.div_lt_of_lt_mul (by rw [← e]; exact h2)
  rw [Nat.mod_eq_of_lt h3] at ht
  have hp := pow256_pos (n - 1)
  have h4 : t * 256 ^ (n - 1) ≤ y := by rw [ht]; exact Nat.div_mul_le_self _ _
  have h5 : y < (t + 1) * 256 ^ (n - 1) := by
    rw [ht, Nat.add_mul, Nat.one_mul]
    have := Nat.div_add_mod y (256 ^ (n - 1))
    have := Nat.mod_lt y hp
    rw [Nat.mul_comm]
    omega
  have e2 : 2 ^ (kb + 1) * 2 ^ s = 256 := by rw [← Nat.pow_add, show kb + 1 + s = 8 by omega]
  have e3 : 2 ^ kb * 2 ^ s = 128 := by rw [← Nat.pow_add, show kb + s = 7 by omega]
  constructor
  · have h6 : (t + 1) * 256 ^ (n - 1) ≤ 2 ^ (kb + 1) * 256 ^ (n - 1) := Nat.mul_le_mul_right _ hk2
    have h7 : y * 2 ^ s < 2 ^ (kb + 1) * 256 ^ (n - 1) * 2 ^ s := Nat.mul_lt_mul_of_lt_of_le (by omega) (Nat.le_refl _) (Nat.pow_pos (by omega))
    rw [e]
    calc y * 2 ^ s < 2 ^ (kb + 1) * 256 ^ (n - 1) * 2 ^ s := h7
      _ = 256 ^ (n - 1) * (2 ^ (kb + 1) * 2 ^ s) := by rw [Nat.mul_comm (2 ^ (kb + 1)), Nat.mul_assoc]
      _ = 256 ^ (n - 1) * 256 := by rw [e2]
  · have h6 : 2 ^ kb * 256 ^ (n - 1) ≤ y := Nat.le_trans (Nat.mul_le_mul_right _ hk1) h4
    calc 128 * 256 ^ (n - 1) = 2 ^ kb * 256 ^ (n - 1) * 2 ^ s := by rw [← e3, Nat.mul_assoc, Nat.mul_assoc, Nat.mul_comm (2 ^ s)]
      _ ≤ y * 2 ^ s := Nat.mul_le_mul_right _ h6
theorem madeCells_intsL (n : Nat) : madeCells #[Value.int .i64 0] n = intCells (List.replicate n 0) := by
  apply Array.ext
  · simp [madeCells, intCells]
  · intro i h1 h2
    simp [madeCells, intCells, Nat.mod_one]
theorem make_intsL (n : Nat) (h : n ≤ 1000000) (w : World) : (Instr.makeSlice 115 (.int .i64 (n : Int)) (.int .i64 (n : Int))).run Tryz.prog w =
    .ok (.slice (some ⟨w.heap.size, 0, none⟩) n n) (w.alloc (.cells (intCells (List.replicate n 0)) 3)) := by
  rw [← madeCells_intsL]
  exact run_make_row' 115 3 (.int .i64 0) 8 Tryz.underlying115 i64_info rfl .i64 .i64 n (by omega) (by omega) w
theorem Ck.newLL (w : World) (T : TypeId) (L : List Nat) : Ck (w.alloc (.cells (intCells L) T)) w.heap.size T L := heap_alloc_new w _
theorem shl_and (d s : Nat) (hd : d ≤ 255) (hs : s ≤ 7) : bits .and .i64 (wrap64 ((d : Int) * 2 ^ min s 64)) 255 = ((2 ^ s * (d % 2 ^ (8 - s)) : Nat) : Int) := by
  have h1 : d * 2 ^ s < 65536 := by
    have : 2 ^ s ≤ 2 ^ 7 := Nat.pow_le_pow_right (by omega) hs
    have := Nat.mul_le_mul hd this
    omega
  have e1 : ((d : Int) * 2 ^ min s 64) = ((d * 2 ^ s : Nat) : Int) := by rw [show min s 64 = s by omega]; simp
  rw [e1, show wrap64 ((d * 2 ^ s : Nat) : Int) = ((d * 2 ^ s : Nat) : Int) by unfold wrap64; omega, show (255 : Int) = ((255 : Nat) : Int) from rfl, i64_and_nat _ _ (by omega) (by omega)]
  congr 1
  rw [show (255 : Nat) = 2 ^ 8 - 1 from rfl, Nat.and_two_pow_sub_one_eq_mod, show (2 : Nat) ^ 8 = 2 ^ s * 2 ^ (8 - s) by rw [← Nat.pow_add]; congr 1; omega, Nat.mul_comm d, Nat.mul_mod_mul_left]
theorem natural_digit_int2 (s : ByteArray) (z : Int) (i d : Nat) (w : World) (hz : z = i) (hi : i ≤ 1000000) (hs : s.size ≤ 1000000) (hd : Hid (num s / 256 ^ i % 256 = d)) :
    Calls Tryz.prog 65 #[.string s, .int .i64 z] w fun e w' => e = .returned (.int .i64 (d : Int)) ∧ w = w' := by
  subst hz
  exact natural_digit' s i d w hi hs hd
theorem or_close {N s i p1 dc t : Nat} (hs : s ≤ 7) (ht : t = 8 - s) (hp : p1 = 2 ^ s * (N / 256 ^ (i + 1) % 256 % 2 ^ (8 - s))) (hd : N / 256 ^ i % 256 = dc) :
    bits .or .i64 (p1 : Int) ((dc : Int) / 2 ^ t) = ((N * 2 ^ s / 256 ^ (i + 1) % 256 : Nat) : Int) := by
  have hdl : dc ≤ 255 := by omega
  have e1 : ((dc : Int) / 2 ^ t) = ((dc / 2 ^ t : Nat) : Int) := by simp
  have e2 : dc / 2 ^ t < 2 ^ s := by
    apply Nat.div_lt_of_lt_mul
    rw [← Nat.pow_add, ht, show 8 - s + s = 8 by omega]
    omega
  have e3 : 2 ^ s ≤ 2 ^ 7 := Nat.pow_le_pow_right (by omega) hs
  have e4 : p1 < 65536 := by
    rw [hp]
    have h1 : N / 256 ^ (i + 1) % 256 % 2 ^ (8 - s) ≤ 255 := Nat.le_trans (Nat.mod_le _ _) (by omega)
    have := Nat.mul_le_mul e3 h1
    omega
  have e5 : dc / 2 ^ t ≤ dc := Nat.div_le_self _ _
  rw [e1, i64_or_nat _ _ (by omega) (by omega), hp, ← Nat.two_pow_add_eq_or_of_lt e2, shl_digit N s i hs, hd, ht]
theorem guess_val2 {r1 r2 dd : Nat} (h1 : r1 < 256) (h2 : r2 < 256) (h3 : 0 < dd) : min (IntKind.i64.wrap ((bits .or .i64 (IntKind.i64.wrap ((r1 : Int) * 256)) (r2 : Int)).tdiv (dd : Int))) 255 = ((min ((r1 * 256 + r2) / dd) 255 : Nat) : Int) := by
  have e : IntKind.i64.wrap ((r1 : Int) * 256) = (r1 : Int) * 256 := IntWalk.i64_in _ (by omega)
  have e1 : ((r1 : Int) * 256) = ((r1 * 256 : Nat) : Int) := by omega
  have e2 : (r1 * 256) ||| r2 = r1 * 256 + r2 := by
    rw [Nat.mul_comm]
    exact (Nat.two_pow_add_eq_or_of_lt (i := 8) h2 r1).symm
  have e3 : (((r1 * 256 + r2 : Nat) : Int)).tdiv (dd : Int) = (((r1 * 256 + r2) / dd : Nat) : Int) := by
    rw [Int.tdiv_eq_ediv_of_nonneg (by omega)]
    simp
  have e4 : (r1 * 256 + r2) / dd ≤ r1 * 256 + r2 := Nat.div_le_self _ _
  rw [e, e1, i64_or_nat _ _ (by omega) (by omega), e2, e3]
  generalize (r1 * 256 + r2) / dd = q at *
  rw [IntWalk.i64_in _ (by omega)]
  omega
theorem or_word {r0 r1 : Nat} (h0 : r0 < 256) (h1 : r1 < 256) : bits .or .i64 (r0 : Int) ((r1 : Int) * 256) = ((r0 + 256 * r1 : Nat) : Int) := by
  have e1 : ((r1 : Int) * 256) = ((256 * r1 : Nat) : Int) := by omega
  have e2 : r0 ||| (256 * r1) = 256 * r1 + r0 := by
    rw [Nat.or_comm]
    exact (Nat.two_pow_add_eq_or_of_lt (i := 8) h0 r1).symm
  rw [e1, i64_or_nat _ _ (by omega) (by omega), e2, Nat.add_comm]
theorem and255 {S : Nat} (h : S ≤ 65535) : bits .and .i64 (S : Int) 255 = ((S % 256 : Nat) : Int) := by
  rw [show (255 : Int) = ((255 : Nat) : Int) from rfl, i64_and_nat _ _ (by omega) (by omega), show (255 : Nat) = 2 ^ 8 - 1 from rfl, Nat.and_two_pow_sub_one_eq_mod]
/-- What stands in memory and in numbers while the estimate is put right. -/
structure Rd5 (w wx : World) (g1 g2 an bn N D Q R j g Xw : Nat) (t : Int) : Prop where
  cd : Ck wx w.heap.size 3 (le bn D)
  cr : Ck wx g1 3 (le (an + 1) Xw)
  bq : Bk wx g2 5 (be N Q)
  eq : ((Xw % 256 ^ (j + bn) : Nat) : Int) + t * ((256 ^ (j + bn) : Nat) : Int) + ((g * D * 256 ^ j : Nat) : Int) = (R : Int)
  top : Xw / 256 ^ (j + bn) = R / 256 ^ (j + bn)
  ge : R / (D * 256 ^ j) ≤ g
  bel : Below w.heap.size w wx
/-- .. while the divisor is added back. -/
structure Rd6 (w wx : World) (g1 g2 an bn N D Q R j i c Xw Yv : Nat) : Prop where
  cd : Ck wx w.heap.size 3 (le bn D)
  cr : Ck wx g1 3 (le (an + 1) Yv)
  bq : Bk wx g2 5 (be N Q)
  eq : Yv + c * 256 ^ (i + j) = Xw + D % 256 ^ i * 256 ^ j
  top : Yv / 256 ^ (j + bn) = Xw / 256 ^ (j + bn)
  bel : Below w.heap.size w wx
theorem natural_dividedL (a b : ByteArray) (w : World) (ha : B (num a) = a) (hb : B (num b) = b) (hx : num a < lim) (hy : 0 < num b) (h : num b ≤ num a) (h8 : 18446744073709551616 ≤ num a) :
    Calls Tryz.prog 43 #[.string a, .string b] w fun e w' => e = .returned (.tuple #[.string (B (num a / num b)), .string (B (num a % num b))]) ∧ Below w.heap.size w w' := by
  have hc : ¬ cmpN (num a) (num b) < 0 := fun h' => by have := cmpN_neg.1 h'; omega
  have hsx : a.size ≤ 128 := by rw [← ha]; exact B_size_le.2 hx
  have hsy : b.size ≤ 128 := by rw [← hb]; exact B_size_le.2 (Nat.lt_of_le_of_lt h hx)
  have hs8 : ¬ a.size ≤ 8 := fun h' => by rw [← ha] at h'; have := (B_size_le' (k := 8)).1 h'; omega
  have hylt := num_lt b
  have hxlt := num_lt a
  have hn1 : 1 ≤ b.size := by
    rcases Nat.eq_zero_or_pos b.size with h0 | h0
    · rw [h0] at hylt; omega
    · exact h0
  have hylo : 256 ^ (b.size - 1) ≤ num b := B_low (by rw [hb]) hn1
  have hnl : b.size ≤ a.size := by
    rcases Nat.lt_or_ge a.size b.size with h1 | h1
    · have := Nat.pow_le_pow_right (n := 256) (by omega) (show a.size ≤ b.size - 1 by omega)
      omega
    · exact h1
  have hd0 := num_digit b (b.size - 1) (by omega)
  have e0 : b.size - 1 - (b.size - 1) = 0 := by omega
  simp only [e0] at hd0
  have hb0 := div_head hn1 hylo hylt
  have hby : (b[0].toNat : Int) ≤ 255 := by have := b[0].toNat_lt; omega
  obtain ⟨kb, hkb, hk1, hk2⟩ := bitLen_pos (x := b[0].toNat) (by rw [hd0]; omega) b[0].toNat_lt
  have hk8 : kb ≤ 7 := by
    rcases Nat.lt_or_ge 7 kb with h7 | h7
    · exfalso
      have := Nat.pow_le_pow_right (show 0 < 2 by omega) h7
      have := b[0].toNat_lt
      omega
    · exact h7
  obtain ⟨s, hs⟩ : ∃ s, s = 7 - kb := ⟨_, rfl⟩
  have hsc := scaledD hn1 hylo hylt hd0 hk1 hk2 hk8 hs
  have KLZ := Lib.hid (fun w => (show Calls Tryz.prog 64 #[.int .u8 (b[0].toNat : Int)] w fun e w' => e = .returned (.int .i64 (s : Int)) ∧ w = w' by
    refine (Tryz.bits_LeadingZeros8 (b[0].toNat : Int) w (by omega) hby).mono ?_
    rintro e w' ⟨rfl, rfl⟩
    refine ⟨?_, rfl⟩
    rw [Int.toNat_natCast, hkb]
    congr 2
    omega))
  have hs7 : s ≤ 7 := by omega
  have KC : Hid (∀ w, Calls Tryz.prog 49 #[.string a, .string b] w fun e w' => e = .returned (.int .i64 (cmpN (num a) (num b))) ∧ w = w') := Lib.hid (fun w => by
    have := natural_compare (num a) (num b) w
    rw [ha, hb] at this
    exact this)
  obtain ⟨X, hX⟩ : ∃ X, X = num a := ⟨_, rfl⟩
  obtain ⟨Y, hY⟩ : ∃ Y, Y = num b := ⟨_, rfl⟩
  rw [← hX] at hc hx h h8 hxlt KC
  rw [← hY] at hc hy h hylt hylo hsc KC
  rw [← hX, ← hY]
  have p0 : (0 : Nat) < b.size := hn1
  have HX := Lib.hid hX
  have HY := Lib.hid hY
  have HPL := Lib.hid (And.intro hxlt (And.intro hsc hy))
  have HS7 := Lib.hid hs7
  have hmk1 := make_intsL b.size (by omega)
  clear ha hb hx h8 hxlt hylt hylo hsc hd0 hb0 hkb hk1 hk2 hk8 hs hs7 e0 hy h hX hY
  go_enter Tryz.func43, Tryz.ntmps43
  go_wp2_with (first | (go_at_call 49; refine (KC.out _).mono ?_; rintro e w' ⟨rfl, rfl⟩) | (go_at_call 64; refine (KLZ.out _).mono ?_; rintro e w' ⟨rfl, rfl⟩))
  obtain ⟨D, hD⟩ : ∃ D, D = Y * 2 ^ s := ⟨_, rfl⟩
  have HDD := Lib.hid hD
  clear hD hc hmk1
  go_loopw [63] (fun v wr => ∃ i : Nat, i ≤ b.size ∧ v = .int .i64 i ∧ Ck wr w.heap.size 3 (le b.size (D % 256 ^ i)) ∧ Below w.heap.size w wr) (fun v _ => b.size - (intOf v).toNat)
  case atStart => exact ⟨0, by omega, rfl, by rw [Nat.pow_zero, Nat.mod_one, le_zero]; exact Ck.newLL w _ _, (Below.refl _ _).alloc (Nat.le_refl _) _⟩
  case round =>
    obtain ⟨i, hi, rfl, hck, hbel⟩ := hrel
    by_cases hlt : i < b.size
    · -- SKIP1
      have HCK := Lib.hid hck
      have hcell := hck.cell (k := i) (by rw [le_length]; exact hlt)
      have hfree := hck.free i
      obtain ⟨db, hdb⟩ : ∃ d, num b / 256 ^ i % 256 = d := ⟨_, rfl⟩
      have HB := Lib.hid hdb
      have db1 : db ≤ 255 := by omega
      clear hck hdb
      have FIN : Hid (∀ v : Int, v = ((D / 256 ^ i % 256 : Nat) : Int) → Ck (wr.setCell ⟨w.heap.size, i, none⟩ (.int .i64 v)) w.heap.size 3 (le b.size (D % 256 ^ (i + 1)))) := Lib.hid (fun v hv => by
        have h1 := HCK.out.set i (D / 256 ^ i % 256)
        rw [le_set hlt (Nat.mod_lt _ (by omega)), fill_le] at h1
        rw [hv]
        exact h1)
      have FIN2 : Hid (∀ (p : Nat) (v : Int), v = ((D / 256 ^ i % 256 : Nat) : Int) → Ck ((wr.setCell ⟨w.heap.size, i, none⟩ (.int .i64 p)).setCell ⟨w.heap.size, i, none⟩ (.int .i64 v)) w.heap.size 3 (le b.size (D % 256 ^ (i + 1)))) := Lib.hid (fun p v hv => by
        have h1 := (HCK.out.set i p).set i (D / 256 ^ i % 256)
        rw [List.set_set, le_set hlt (Nat.mod_lt _ (by omega)), fill_le] at h1
        rw [hv]
        exact h1)
      have hv1 := shl_and db s db1 HS7.out
      obtain ⟨p1, hp1⟩ : ∃ p1, p1 = 2 ^ s * (db % 2 ^ (8 - s)) := ⟨_, rfl⟩
      rw [← hp1] at hv1
      by_cases h0 : i = 0
      · have HV : Hid ((p1 : Int) = ((D / 256 ^ i % 256 : Nat) : Int)) := Lib.hid (by
          have h1 := HB.out
          rw [h0] at h1 ⊢
          rw [HDD.out, HY.out, shl_digit0 _ s HS7.out, h1, hp1])
        have hi0 : ¬ (0 : Int) < i := by omega
        clear hp1 h0
        go_wp2_with (first | (go_at_call 65; (with_reducible refine (natural_digit' b _ _ _ (by omega) (by omega) HB).mono ?_); rintro e w' ⟨rfl, rfl⟩))
        go_roundw
        case rel => exact ⟨i + 1, hlt, by go_num, FIN.out _ HV.out, hbel.setCell (Nat.le_refl _) _⟩
        case measure => simp [intOf]; omega
      have hi0 : (0 : Int) < i := by omega
      obtain ⟨dc, hdc⟩ : ∃ d, num b / 256 ^ (i - 1) % 256 = d := ⟨_, rfl⟩
      have HC := Lib.hid hdc
      have dc1 : dc ≤ 255 := by omega
      have hi1 : IntKind.i64.wrap ((i : Int) - 1) = ((i - 1 : Nat) : Int) := by rw [IntWalk.i64_in _ (by omega)]; omega
      have HI1 := Lib.hid hi1
      obtain ⟨t, ht⟩ : ∃ t, t = 8 - s := ⟨_, rfl⟩
      have hwt : IntKind.i64.wrap (8 - (s : Int)) = (t : Int) := by have := HS7.out; rw [IntWalk.i64_in _ (by omega)]; omega
      have ht8 : t ≤ 8 := by omega
      have htn : (0 : Int) ≤ t := by omega
      have HV : Hid (bits .or .i64 (p1 : Int) ((dc : Int) / 2 ^ t) = ((D / 256 ^ i % 256 : Nat) : Int)) := Lib.hid (by
        have := or_close (N := num b) (s := s) (i := i - 1) (p1 := p1) (dc := dc) (t := t) HS7.out ht (by rw [show i - 1 + 1 = i by omega, HB.out, hp1]) hdc
        rw [show i - 1 + 1 = i by omega] at this
        rw [this, HDD.out, HY.out])
      clear hi1 hdc hp1 ht
      go_wp2_with (first | (go_at_call 65; (with_reducible refine (natural_digit' b _ _ _ (by omega) (by omega) HB).mono ?_); rintro e w' ⟨rfl, rfl⟩))
      go_region_with (first | (go_at_call 65; (with_reducible refine (natural_digit_int2 b _ (i - 1) dc _ HI1.out (by omega) (by omega) HC).mono ?_); rintro e w' ⟨rfl, rfl⟩))
      all_goals
        go_wp2_with fail
        go_roundw
        case rel => exact ⟨i + 1, hlt, by go_num, FIN2.out _ _ HV.out, ((hbel.setCell (Nat.le_refl _) _).setCell (Nat.le_refl _) _).drew⟩
        case measure => simp [intOf]; omega
      -- END1
    · obtain rfl : i = b.size := by omega
      have hDlt : D < 256 ^ b.size := by rw [HDD.out]; exact HPL.out.2.1.1
      rw [Nat.mod_eq_of_lt hDlt] at hck
      obtain ⟨w1, hw1⟩ : ∃ w1, w1 = wr := ⟨_, rfl⟩
      have HD1 := Lib.hid hck
      have HB1 := Lib.hid hbel
      clear hck hbel hlt
      have hmk2 := make_intsL (a.size + 1) (by omega)
      rw [show ((a.size + 1 : Nat) : Int) = (a.size : Int) + 1 by omega] at hmk2
      have hmk3 := hmk2 wr
      clear hmk2 hw1
      go_wp2_with fail
      obtain ⟨g1, hg1⟩ : ∃ g1, g1 = wr.heap.size := ⟨_, rfl⟩
      have h01 : w.heap.size < g1 := by rw [hg1]; exact HD1.out.lt
      have HWS : Hid (w.heap.size ≠ g1) := Lib.hid (by omega)
      have HG1 := Lib.hid hg1
      have HG01 := Lib.hid h01
      obtain ⟨E, hE⟩ : ∃ E, E = X * 2 ^ s := ⟨_, rfl⟩
      have HEE := Lib.hid hE
      have HB2 : Hid (Below w.heap.size w (wr.alloc (.cells (intCells (List.replicate (a.size + 1) 0)) 3))) := Lib.hid (HB1.out.alloc HB1.out.size _)
      have HD2 : Hid (Ck (wr.alloc (.cells (intCells (List.replicate (a.size + 1) 0)) 3)) w.heap.size 3 (le b.size D)) := Lib.hid (HD1.out.alloc _)
      have HR2 : Hid (Ck (wr.alloc (.cells (intCells (List.replicate (a.size + 1) 0)) 3)) g1 3 (le (a.size + 1) 0)) := Lib.hid (by rw [le_zero, hg1]; exact Ck.newLL wr _ _)
      rw [← hg1]
      clear hE hg1 hmk3 h01
      go_loopw [97] (fun v wr => ∃ i : Nat, i ≤ a.size + 1 ∧ v = .int .i64 i ∧ Ck wr w.heap.size 3 (le b.size D) ∧ Ck wr g1 3 (le (a.size + 1) (E % 256 ^ i)) ∧ Below w.heap.size w wr) (fun v _ => a.size + 1 - (intOf v).toNat)
      case atStart => exact ⟨0, by omega, rfl, HD2.out, by rw [Nat.pow_zero, Nat.mod_one]; exact HR2.out, HB2.out⟩
      case round =>
        clear HB1 HB2 HD1 HD2 HR2
        obtain ⟨i, hi, rfl, hckd, hck, hbel⟩ := hrel
        by_cases hlt : i < a.size + 1
        · -- SKIP2
          have HCK := Lib.hid hck
          have HCD := Lib.hid hckd
          have hcell := hck.cell (k := i) (by rw [le_length]; exact hlt)
          have hfree := hck.free i
          obtain ⟨db, hdb⟩ : ∃ d, num a / 256 ^ i % 256 = d := ⟨_, rfl⟩
          have HB := Lib.hid hdb
          have db1 : db ≤ 255 := by omega
          have hle : w.heap.size ≤ g1 := Nat.le_of_lt HG01.out
          have HLE := Lib.hid hle
          clear hck hdb hckd hle
          have FIN : Hid (∀ v : Int, v = ((E / 256 ^ i % 256 : Nat) : Int) → Ck (wr.setCell ⟨g1, i, none⟩ (.int .i64 v)) g1 3 (le (a.size + 1) (E % 256 ^ (i + 1)))) := Lib.hid (fun v hv => by
            have h1 := HCK.out.set i (E / 256 ^ i % 256)
            rw [le_set hlt (Nat.mod_lt _ (by omega)), fill_le] at h1
            rw [hv]
            exact h1)
          have FIN2 : Hid (∀ (p : Nat) (v : Int), v = ((E / 256 ^ i % 256 : Nat) : Int) → Ck ((wr.setCell ⟨g1, i, none⟩ (.int .i64 p)).setCell ⟨g1, i, none⟩ (.int .i64 v)) g1 3 (le (a.size + 1) (E % 256 ^ (i + 1)))) := Lib.hid (fun p v hv => by
            have h1 := (HCK.out.set i p).set i (E / 256 ^ i % 256)
            rw [List.set_set, le_set hlt (Nat.mod_lt _ (by omega)), fill_le] at h1
            rw [hv]
            exact h1)
          have hv1 := shl_and db s db1 HS7.out
          obtain ⟨p1, hp1⟩ : ∃ p1, p1 = 2 ^ s * (db % 2 ^ (8 - s)) := ⟨_, rfl⟩
          rw [← hp1] at hv1
          by_cases h0 : i = 0
          · have HV : Hid ((p1 : Int) = ((E / 256 ^ i % 256 : Nat) : Int)) := Lib.hid (by
              have h1 := HB.out
              rw [h0] at h1 ⊢
              rw [HEE.out, HX.out, shl_digit0 _ s HS7.out, h1, hp1])
            have hi0 : ¬ (0 : Int) < i := by omega
            clear hp1 h0
            go_wp2_with (first | (go_at_call 65; (with_reducible refine (natural_digit' a _ _ _ (by omega) (by omega) HB).mono ?_); rintro e w' ⟨rfl, rfl⟩))
            go_roundw
            case rel => exact ⟨i + 1, hlt, by go_num, HCD.out.far HWS.out _, FIN.out _ HV.out, hbel.setCell HLE.out _⟩
            case measure => simp [intOf]; omega
          have hi0 : (0 : Int) < i := by omega
          obtain ⟨dc, hdc⟩ : ∃ d, num a / 256 ^ (i - 1) % 256 = d := ⟨_, rfl⟩
          have HC := Lib.hid hdc
          have dc1 : dc ≤ 255 := by omega
          have hi1 : IntKind.i64.wrap ((i : Int) - 1) = ((i - 1 : Nat) : Int) := by rw [IntWalk.i64_in _ (by omega)]; omega
          have HI1 := Lib.hid hi1
          obtain ⟨t, ht⟩ : ∃ t, t = 8 - s := ⟨_, rfl⟩
          have hwt : IntKind.i64.wrap (8 - (s : Int)) = (t : Int) := by have := HS7.out; rw [IntWalk.i64_in _ (by omega)]; omega
          have ht8 : t ≤ 8 := by omega
          have htn : (0 : Int) ≤ t := by omega
          have HV : Hid (bits .or .i64 (p1 : Int) ((dc : Int) / 2 ^ t) = ((E / 256 ^ i % 256 : Nat) : Int)) := Lib.hid (by
            have := or_close (N := num a) (s := s) (i := i - 1) (p1 := p1) (dc := dc) (t := t) HS7.out ht (by rw [show i - 1 + 1 = i by omega, HB.out, hp1]) hdc
            rw [show i - 1 + 1 = i by omega] at this
            rw [this, HEE.out, HX.out])
          clear hi1 hdc hp1 ht
          go_wp2_with (first | (go_at_call 65; (with_reducible refine (natural_digit' a _ _ _ (by omega) (by omega) HB).mono ?_); rintro e w' ⟨rfl, rfl⟩))
          go_region_with (first | (go_at_call 65; (with_reducible refine (natural_digit_int2 a _ (i - 1) dc _ HI1.out (by omega) (by omega) HC).mono ?_); rintro e w' ⟨rfl, rfl⟩))
          all_goals
            go_wp2_with fail
            go_roundw
            case rel => exact ⟨i + 1, hlt, by go_num, ((HCD.out.far HWS.out _).far HWS.out _), FIN2.out _ _ HV.out, ((hbel.setCell HLE.out _).setCell HLE.out _).drew⟩
            case measure => simp [intOf]; omega
          -- END2
        · have hie : i = a.size + 1 := by omega
          rw [hie] at hck
          have hig : ¬ (i : Int) < (a.size : Int) + 1 := by omega
          clear hie hi
          have hElt : E < 256 ^ (a.size + 1) := by
            rw [HEE.out, Nat.pow_succ]
            have h1 := HPL.out.1
            have h2 : 2 ^ s ≤ 2 ^ 7 := Nat.pow_le_pow_right (by omega) HS7.out
            exact Nat.mul_lt_mul_of_lt_of_le h1 (by omega) (by omega)
          rw [Nat.mod_eq_of_lt hElt] at hck
          have HELT := Lib.hid hElt
          have HR1 := Lib.hid hck
          have HD1 := Lib.hid hckd
          have HB1 := Lib.hid hbel
          clear hck hbel hlt hElt hckd
          have hmk3 := make_bytes (a.size - b.size + 1) (by omega) wr
          rw [show ((a.size - b.size + 1 : Nat) : Int) = (a.size : Int) - (b.size : Int) + 1 by omega] at hmk3
          obtain ⟨g2, hg2⟩ : ∃ g2, g2 = wr.heap.size := ⟨_, rfl⟩
          have h12 : g1 < g2 := by rw [hg2]; exact HR1.out.lt
          have HN01 : Hid (w.heap.size ≠ g1) := Lib.hid (Nat.ne_of_lt HG01.out)
          have HN12 : Hid (g1 ≠ g2) := Lib.hid (Nat.ne_of_lt h12)
          have HN02 : Hid (w.heap.size ≠ g2) := Lib.hid (by have := HG01.out; omega)
          have HL1 : Hid (w.heap.size ≤ g1) := Lib.hid (Nat.le_of_lt HG01.out)
          have HL2 : Hid (w.heap.size ≤ g2) := Lib.hid (by have := HG01.out; omega)
          have HBA : Hid (Below w.heap.size w (wr.alloc (.cells (cellsOf (List.replicate (a.size - b.size + 1) 0)) 5))) := Lib.hid (HB1.out.alloc HB1.out.size _)
          have HDA : Hid (Ck (wr.alloc (.cells (cellsOf (List.replicate (a.size - b.size + 1) 0)) 5)) w.heap.size 3 (le b.size D)) := Lib.hid (HD1.out.alloc _)
          have HRA : Hid (Ck (wr.alloc (.cells (cellsOf (List.replicate (a.size - b.size + 1) 0)) 5)) g1 3 (le (a.size + 1) E)) := Lib.hid (HR1.out.alloc _)
          have HQA : Hid (Bk (wr.alloc (.cells (cellsOf (List.replicate (a.size - b.size + 1) 0)) 5)) g2 5 (be (a.size - b.size + 1) 0)) := Lib.hid (by rw [be_zero, hg2]; exact Bk.new wr _ _)
          obtain ⟨N, hN⟩ : ∃ N, N = a.size - b.size + 1 := ⟨_, rfl⟩
          have hNm : ((N : Int)) = (a.size : Int) - (b.size : Int) + 1 := by omega
          have HNN := Lib.hid hN
          have HE0 : Hid (E < D * 256 ^ N) := Lib.hid (by
            have h1 := HPL.out.1
            have h2 : 2 ^ s ≤ 2 ^ 7 := Nat.pow_le_pow_right (by omega) HS7.out
            have h3 := HPL.out.2.1.2
            rw [← HDD.out] at h3
            have h4 : E ≤ X * 128 := by rw [HEE.out]; exact Nat.mul_le_mul_left _ h2
            have h5 : X * 128 < 256 ^ a.size * 128 := Nat.mul_lt_mul_of_pos_right h1 (by omega)
            have h6 : 256 ^ a.size = 256 ^ (b.size - 1) * 256 ^ N := by rw [← Nat.pow_add]; congr 1; omega
            have h7 : 128 * 256 ^ (b.size - 1) * 256 ^ N ≤ D * 256 ^ N := Nat.mul_le_mul_right _ h3
            rw [h6] at h5
            have h8 : 256 ^ (b.size - 1) * 256 ^ N * 128 = 128 * 256 ^ (b.size - 1) * 256 ^ N := by rw [Nat.mul_comm, Nat.mul_assoc]
            omega)
          rw [← hg2] at hmk3
          go_wp2_with fail
          rw [← hN] at HBA HDA HRA HQA ⊢
          rw [← hg2]
          clear hg2 hmk3 h12 hN HD1 HR1 HB1 HWS
          go_loopw [17] (fun v wr => ∃ (k Q R : Nat), v = .int .i64 ((k : Int) - 1) ∧ k ≤ N ∧ Ck wr w.heap.size 3 (le b.size D) ∧ Ck wr g1 3 (le (a.size + 1) R) ∧ Bk wr g2 5 (be N Q) ∧ E = Q * D + R ∧ R < D * 256 ^ k ∧ Q % 256 ^ k = 0 ∧ Below w.heap.size w wr) (fun v _ => (intOf v + 1).toNat)
          case atStart => exact ⟨N, 0, E, by rw [hNm]; congr 1; omega, Nat.le_refl _, HDA.out, HRA.out, HQA.out, by omega, HE0.out, Nat.zero_mod _, HBA.out⟩
          case round =>
            clear HBA HDA HRA HQA
            obtain ⟨k, Q, R, rfl, hk, hckd, hckr, hbkq, hEq, hRl, hQm, hbel⟩ := hrel
            have HCD := Lib.hid hckd
            have HCR := Lib.hid hckr
            have HBQ := Lib.hid hbkq
            have HEQ := Lib.hid hEq
            have HRL := Lib.hid hRl
            have HQM := Lib.hid hQm
            have HBEL := Lib.hid hbel
            clear hckd hckr hbkq hEq hRl hQm hbel
            by_cases hk0 : k = 0
            · -- SKIP7
              subst hk0
              have hRD : R < D := by have := HRL.out; rwa [Nat.pow_zero, Nat.mul_one] at this
              have hD2 : D < 256 ^ b.size := by rw [HDD.out]; exact HPL.out.2.1.1
              have HQB : Hid (Q < 256 ^ N) := Lib.hid (by
                have h1 := HEQ.out
                have h2 := HE0.out
                rcases Nat.lt_or_ge Q (256 ^ N) with h | h
                · exact h
                · have h3 := Nat.mul_le_mul_right D h
                  rw [Nat.mul_comm] at h3
                  omega)
              obtain ⟨V, hV⟩ : ∃ V, V = R / 2 ^ s := ⟨_, rfl⟩
              have HVB : Hid (V < 256 ^ b.size) := Lib.hid (by rw [hV]; exact Nat.lt_of_le_of_lt (Nat.div_le_self _ _) (Nat.lt_trans hRD hD2))
              have HRES : Hid (Q = X / Y ∧ V = X % Y) := Lib.hid (by
                rw [hV]
                exact div_done HPL.out.2.2 (by rw [← HEE.out, ← HDD.out]; exact HEQ.out) (by rw [← HDD.out]; exact hRD))
              have HVV := Lib.hid hV
              clear hRD hD2 hV
              have hmk4 := make_bytes b.size (by omega) wr
              obtain ⟨g3, hg3⟩ : ∃ g3, g3 = wr.heap.size := ⟨_, rfl⟩
              have h23 : g2 < g3 := by rw [hg3]; exact HBQ.out.lt
              have HN23 : Hid (g2 ≠ g3) := Lib.hid (Nat.ne_of_lt h23)
              have HN13 : Hid (g1 ≠ g3) := Lib.hid (by have := HCR.out.lt; rw [← hg3] at this; omega)
              have HL3 : Hid (w.heap.size ≤ g3) := Lib.hid (by have := HL2.out; omega)
              have HC0 : Hid (Ck (wr.alloc (.cells (cellsOf (List.replicate b.size 0)) 5)) g1 3 (le (a.size + 1) R)) := Lib.hid (HCR.out.alloc _)
              have HQ0 : Hid (Bk (wr.alloc (.cells (cellsOf (List.replicate b.size 0)) 5)) g2 5 (be N Q)) := Lib.hid (HBQ.out.alloc _)
              have HX0 : Hid (Bk (wr.alloc (.cells (cellsOf (List.replicate b.size 0)) 5)) g3 5 (fill b.size 0 V)) := Lib.hid (by rw [fill_zero, hg3]; exact Bk.new wr _ _)
              have HB0 : Hid (Below w.heap.size w (wr.alloc (.cells (cellsOf (List.replicate b.size 0)) 5))) := Lib.hid (HBEL.out.alloc HBEL.out.size _)
              rw [← hg3] at hmk4
              clear hg3 h23 HCD HCR HBQ HEQ HRL HQM HBEL HE0
              go_wp2_with fail
              go_loopw [259] (fun v wx => ∃ i : Nat, i ≤ b.size ∧ v = .int .i64 i ∧ Ck wx g1 3 (le (a.size + 1) R) ∧ Bk wx g2 5 (be N Q) ∧ Bk wx g3 5 (fill b.size i V) ∧ Below w.heap.size w wx) (fun v _ => b.size - (intOf v).toNat)
              case atStart => exact ⟨0, Nat.zero_le _, rfl, HC0.out, HQ0.out, HX0.out, HB0.out⟩
              case round =>
                clear HC0 HQ0 HX0 HB0
                obtain ⟨i, hi, rfl, hcr, hbq, hbx, hbel⟩ := hrel
                have H7 := Lib.hid (And.intro hcr (And.intro hbq (And.intro hbx hbel)))
                by_cases hlt : i < b.size
                · have hc1 := hcr.cell (k := i) (by rw [le_length]; omega)
                  have hc2 := hcr.cell (k := i + 1) (by rw [le_length]; omega)
                  have hc3 := hbx.cell (k := b.size - 1 - i) (by rw [fill_length _ hi]; omega)
                  have hf3 := hbx.free (b.size - 1 - i)
                  rw [le_getD (by omega)] at hc1 hc2
                  obtain ⟨r0, hr0⟩ : ∃ d, R / 256 ^ i % 256 = d := ⟨_, rfl⟩
                  obtain ⟨r1, hr1⟩ : ∃ d, R / 256 ^ (i + 1) % 256 = d := ⟨_, rfl⟩
                  have d0 : r0 < 256 := by omega
                  have d1 : r1 < 256 := by omega
                  have hsh := shr_digit R s i HS7.out
                  rw [← HVV.out, hr0, hr1] at hsh
                  rw [hr0] at hc1
                  rw [hr1] at hc2
                  have HOR := Lib.hid (or_word d0 d1)
                  obtain ⟨x, hx⟩ : ∃ x, x = r0 + 256 * r1 := ⟨_, rfl⟩
                  rw [← hx] at hsh HOR
                  have FIN : Hid (∀ z : Int, z = ((V / 256 ^ i % 256 : Nat) : Int) → Ck (wr.setCell ⟨g3, b.size - 1 - i, none⟩ (.int .u8 z)) g1 3 (le (a.size + 1) R) ∧ Bk (wr.setCell ⟨g3, b.size - 1 - i, none⟩ (.int .u8 z)) g2 5 (be N Q) ∧ Bk (wr.setCell ⟨g3, b.size - 1 - i, none⟩ (.int .u8 z)) g3 5 (fill b.size (i + 1) V) ∧ Below w.heap.size w (wr.setCell ⟨g3, b.size - 1 - i, none⟩ (.int .u8 z))) := Lib.hid (fun z hz => by
                    obtain ⟨k1, k2, k3, k4⟩ := H7.out
                    have h1 := k3.set (b.size - 1 - i) (UInt8.ofNat (V / 256 ^ i))
                    rw [fill_set _ hlt, toNat_ofNat8, ← hz] at h1
                    exact ⟨k1.far HN13.out _, k2.far HN23.out _, h1, k4.setCell HL3.out _⟩)
                  have HSH := Lib.hid hsh
                  have hi2 : (i : Int) + 1 < (a.size : Int) + 1 := by omega
                  clear hr0 hr1 hsh hx hcr hbq hbx hbel
                  go_wp2_with fail
                  obtain ⟨f1, f2, f3, f4⟩ := FIN.out (bits .or .i64 (r0 : Int) ((r1 : Int) * 256) / 2 ^ min s 64 % 256) (by rw [HOR.out, show min s 64 = s by have := HS7.out; omega, HSH.out]; simp)
                  exact ⟨⟨i + 1, hlt, by rw [Int.natCast_add]; rfl, f1, f2, f3, f4⟩, by simp [intOf]; omega⟩
                · obtain rfl : i = b.size := by omega
                  rw [fill_full] at hbx
                  have HXT := Lib.hid hbx
                  have HBF := Lib.hid hbel
                  have HQF := Lib.hid hbq
                  have HT1 := Lib.hid (trimL_be HQB.out)
                  have HT2 := Lib.hid (trimL_be HVB.out)
                  clear hcr hbq hbx hbel H7 hlt
                  go_wp2_with (first
                    | (go_at_call 23; (with_reducible refine (natural_trimmed' g2 (be N Q) N N Q _ (be_length _ _) (Nat.le_refl _) HQF.out.row HT1.out).mono ?_); rintro e w' ⟨rfl, rfl⟩)
                    | (go_at_call 23; (with_reducible refine (natural_trimmed' g3 (be b.size V) b.size b.size V _ (be_length _ _) (Nat.le_refl _) HXT.out.row HT2.out).mono ?_); rintro e w' ⟨rfl, rfl⟩))
                  go_ret2
                  exact ⟨by rw [HRES.out.1, HRES.out.2]; rfl, HBF.out⟩
              -- END7
            · -- SKIP8
              obtain ⟨j, rfl⟩ : ∃ j, k = j + 1 := ⟨k - 1, by omega⟩
              have hj0 : (((j + 1 : Nat) : Int) - 1) = (j : Int) := by omega
              have hjN : j < N := hk
              have HJN := Lib.hid hjN
              rw [hj0]
              have hjb : j + b.size < a.size + 1 := by have := HNN.out; omega
              have hjj : j ≤ 128 := by have := HNN.out; omega
              have hc1 := HCR.out.cell (k := j + b.size) (by rw [le_length]; exact hjb)
              have hc2 := HCR.out.cell (k := j + b.size - 1) (by rw [le_length]; omega)
              have hc3 := HCD.out.cell (k := b.size - 1) (by rw [le_length]; omega)
              rw [le_getD hjb] at hc1
              rw [le_getD (by omega)] at hc2 hc3
              have hgg := guess_ge (n := b.size) HRL.out hn1 (by
                have h3 := HPL.out.2.1
                rw [← HDD.out] at h3
                exact div_head hn1 (by have := h3.2; omega) h3.1)
              have hgg2 := hgg.resolve_right (by have h3 := HPL.out.2.1.1; rw [← HDD.out] at h3; omega)
              obtain ⟨r1, hr1⟩ : ∃ r1, R / 256 ^ (j + b.size) % 256 = r1 := ⟨_, rfl⟩
              obtain ⟨r2, hr2⟩ : ∃ r2, R / 256 ^ (j + b.size - 1) % 256 = r2 := ⟨_, rfl⟩
              obtain ⟨dd, hdd⟩ : ∃ dd, D / 256 ^ (b.size - 1) % 256 = dd := ⟨_, rfl⟩
              have b1 : r1 < 256 := by omega
              have b2 : r2 < 256 := by omega
              have b3 : 0 < dd := by
                rw [← hdd]
                have h3 := HPL.out.2.1
                rw [← HDD.out] at h3
                exact div_head hn1 (by have := h3.2; omega) h3.1
              have b3i : ¬ dd = 0 := by omega
              rw [hr1, hr2, hdd] at hgg2
              rw [hr1] at hc1
              rw [hr2] at hc2
              rw [hdd] at hc3
              have HG := Lib.hid hgg2
              have HR1 := Lib.hid hr1
              clear hgg hgg2 hr1 hr2 hdd hj0
              obtain ⟨p1, hp1⟩ : ∃ p, p = j + b.size := ⟨_, rfl⟩
              obtain ⟨p2, hp2⟩ : ∃ p, p = j + b.size - 1 := ⟨_, rfl⟩
              obtain ⟨p3, hp3⟩ : ∃ p, p = b.size - 1 := ⟨_, rfl⟩
              rw [← hp1] at hc1
              rw [← hp2] at hc2
              rw [← hp3] at hc3
              have s1 : IntKind.i64.wrap ((j : Int) + (b.size : Int)) = (p1 : Int) := by rw [IntWalk.i64_in _ (by omega)]; omega
              have s2 : IntKind.i64.wrap ((p1 : Int) - 1) = (p2 : Int) := by rw [IntWalk.i64_in _ (by omega)]; omega
              have s3 : IntKind.i64.wrap ((b.size : Int) - 1) = (p3 : Int) := by rw [IntWalk.i64_in _ (by omega)]; omega
              have z1 : p1 < a.size + 1 := by omega
              have z2 : p2 < a.size + 1 := by omega
              have z3 : p3 < b.size := by omega
              have w1 : (p1 : Int) < (a.size : Int) + 1 := by omega
              have w2 : (p2 : Int) < (a.size : Int) + 1 := by omega
              have w3 : (p3 : Int) < (b.size : Int) := by omega
              have HP := Lib.hid (And.intro hp1 (And.intro hp2 hp3))
              clear hp1 hp2 hp3 hjb
              go_wp2_with fail
              go_region_held3 (fun w' => w'.cell? ⟨g1, p1, none⟩ = some (.int .i64 r1) ∧ w'.cell? ⟨g1, p2, none⟩ = some (.int .i64 r2) ∧ w'.cell? ⟨w.heap.size, p3, none⟩ = some (.int .i64 dd)) (first | go_keep) (first | fail)
              all_goals
                obtain ⟨gq, hgq⟩ : ∃ gq, gq = min ((r1 * 256 + r2) / dd) 255 := ⟨_, rfl⟩
                have hgv := guess_val2 b1 b2 b3
                rw [← hgq] at hgv
                have HGE : Hid (R / (D * 256 ^ j) ≤ gq) := Lib.hid (by rw [hgq]; exact HG.out)
                have HG255 : Hid (gq ≤ 255) := Lib.hid (by rw [hgq]; exact Nat.min_le_right _ _)
                rw [hgv]
                clear hgv hgq HG s1 s2 s3 z1 z2 z3 w1 w2 w3 hc1 hc2 hc3 b1 b2 b3
                have hjb : j + b.size < a.size + 1 := by have := HNN.out; have := HJN.out; omega
                have HJB := Lib.hid hjb
                clear hjb
                go_wp2_with fail
                go_loopw [19, 20, 162] (fun cy bw v wx => ∃ i c bb Xv : Nat, i ≤ b.size ∧ v = .int .i64 i ∧ cy = .int .i64 c ∧ bw = .int .i64 bb ∧ c ≤ 255 ∧ bb ≤ 1 ∧ Ck wx w.heap.size 3 (le b.size D) ∧ Ck wx g1 3 (le (a.size + 1) Xv) ∧ Bk wx g2 5 (be N Q) ∧ Xv + gq * (D % 256 ^ i) * 256 ^ j = R + (c + bb) * 256 ^ (i + j) ∧ Xv / 256 ^ (j + b.size) = R / 256 ^ (j + b.size) ∧ Below w.heap.size w wx) (fun _ _ v _ => b.size - (intOf v).toNat)
                case atStart => exact ⟨0, 0, 0, R, by omega, rfl, rfl, rfl, by omega, by omega, HCD.out, HCR.out, HBQ.out, by rw [Nat.pow_zero, Nat.mod_one]; simp, rfl, HBEL.out.drew⟩
                case round =>
                  obtain ⟨i, c, bb, Xv, hi, rfl, rfl, rfl, hc, hbb, hcd, hcr, hbq, heq, htop, hbel⟩ := hrel
                  have HEQ4 := Lib.hid heq
                  have HTOP := Lib.hid htop
                  have HC4 := Lib.hid (And.intro hcd (And.intro hcr (And.intro hbq hbel)))
                  clear heq htop hbq hbel
                  by_cases hlt : i < b.size
                  · -- SKIP3
                    have hjb := HJB.out
                    have hgl := HG255.out
                    have hc1 := hcd.cell (k := i) (by rw [le_length]; exact hlt)
                    have hc2 := hcr.cell (k := i + j) (by rw [le_length]; omega)
                    have hf2 := hcr.free (i + j)
                    rw [le_getD hlt] at hc1
                    rw [le_getD (by omega)] at hc2
                    obtain ⟨dI, hdI⟩ : ∃ d, D / 256 ^ i % 256 = d := ⟨_, rfl⟩
                    obtain ⟨x0, hx0⟩ : ∃ d, Xv / 256 ^ (i + j) % 256 = d := ⟨_, rfl⟩
                    have d1 : dI ≤ 255 := by omega
                    have x1 : x0 ≤ 255 := by omega
                    rw [hdI] at hc1
                    rw [hx0] at hc2
                    have HDI := Lib.hid hdI
                    have HX0 := Lib.hid hx0
                    have hprod : gq * dI ≤ 65025 := Nat.mul_le_mul hgl d1
                    have hpi : (gq : Int) * (dI : Int) ≤ 65025 := by have h : ((gq * dI : Nat) : Int) ≤ 65025 := by omega
                                                                     rwa [Int.natCast_mul] at h
                    have hpn : 0 ≤ (gq : Int) * (dI : Int) := Int.mul_nonneg (by omega) (by omega)
                    obtain ⟨S, hS⟩ : ∃ S, S = c + gq * dI := ⟨_, rfl⟩
                    have hSi : (c : Int) + (gq : Int) * (dI : Int) = (S : Int) := by rw [hS, Int.natCast_add, Int.natCast_mul]
                    have hSl : S ≤ 65280 := by omega
                    obtain ⟨m8, hm8⟩ : ∃ m8, m8 = S % 256 := ⟨_, rfl⟩
                    have hand : bits .and .i64 (S : Int) 255 = (m8 : Int) := by
                      rw [show (255 : Int) = ((255 : Nat) : Int) from rfl, i64_and_nat _ _ (by omega) (by omega), show (255 : Nat) = 2 ^ 8 - 1 from rfl, Nat.and_two_pow_sub_one_eq_mod, hm8]
                    have hm9 : m8 ≤ 255 := by omega
                    have HSS := Lib.hid (And.intro hS (And.intro hm8 hSl))
                    have FIN : Hid (∀ (xn b' : Nat) (vz : Int), xn < 256 → b' ≤ 1 → vz = (xn : Int) → xn + m8 + bb = x0 + 256 * b' → ∀ v4 v5 : Value, v4 = .int .i64 ((S / 256 : Nat) : Int) → v5 = .int .i64 (b' : Int) → ∃ i' c' bb' Xv' : Nat, i' ≤ b.size ∧ Value.int .i64 ((i : Int) + 1) = .int .i64 i' ∧ v4 = .int .i64 c' ∧ v5 = .int .i64 bb' ∧ c' ≤ 255 ∧ bb' ≤ 1 ∧ Ck (wr.setCell ⟨g1, i + j, none⟩ (.int .i64 vz)) w.heap.size 3 (le b.size D) ∧ Ck (wr.setCell ⟨g1, i + j, none⟩ (.int .i64 vz)) g1 3 (le (a.size + 1) Xv') ∧ Bk (wr.setCell ⟨g1, i + j, none⟩ (.int .i64 vz)) g2 5 (be N Q) ∧ Xv' + gq * (D % 256 ^ i') * 256 ^ j = R + (c' + bb') * 256 ^ (i' + j) ∧ Xv' / 256 ^ (j + b.size) = R / 256 ^ (j + b.size) ∧ Below w.heap.size w (wr.setCell ⟨g1, i + j, none⟩ (.int .i64 vz))) := Lib.hid (fun xn b' vz hxn hb' hvz hx v4 v5 e4 e5 => by
                      subst hvz
                      obtain ⟨kcd, kcr, kbq, kbel⟩ := HC4.out
                      have h1 := kcr.set (i + j) xn
                      rw [le_set (by omega) hxn] at h1
                      have hs2 := sub_digit (i := i) (j := j) (c := c) (b := bb) (xn := xn) (b' := b') HEQ4.out (by rw [HDI.out, ← hS, HX0.out, ← hm8]; exact hx)
                      rw [HDI.out, ← hS] at hs2
                      exact ⟨i + 1, S / 256, b', putD Xv (i + j) xn, hlt, by rw [Int.natCast_add]; rfl, e4, e5, by omega, hb', kcd.far HN01.out _, h1, kbq.far (Ne.symm HN12.out) _, hs2, by rw [putD_high hxn (by omega)]; exact HTOP.out, kbel.setCell HL1.out _⟩)
                    clear hdI hx0 hcd hcr hS hm8
                    by_cases hneg : x0 < m8 + bb
                    · go_wp2_with fail
                      refine ⟨FIN.out (x0 + 256 - m8 - bb) 1 _ (by omega) (by omega) ?_ (by omega) _ _ ?_ ?_, ?_⟩
                      · omega
                      · simp
                      · rfl
                      · simp [intOf]; omega
                    · go_wp2_with fail
                      refine ⟨FIN.out (x0 - m8 - bb) 0 _ (by omega) (by omega) ?_ (by omega) _ _ ?_ ?_, ?_⟩
                      · omega
                      · simp
                      · rfl
                      · simp [intOf]; omega
                    -- END3
                  · obtain rfl : i = b.size := by omega
                    have hjb := HJB.out
                    have hDlt : D < 256 ^ b.size := by rw [HDD.out]; exact HPL.out.2.1.1
                    have hc2 := hcr.cell (k := j + b.size) (by rw [le_length]; exact hjb)
                    rw [le_getD hjb, HTOP.out, HR1.out] at hc2
                    have hrr : r1 ≤ 255 := by have := HR1.out; omega
                    have HRR := Lib.hid hrr
                    have heq := HEQ4.out
                    rw [Nat.mod_eq_of_lt hDlt, Nat.add_comm b.size j] at heq
                    have HEQ5 := Lib.hid heq
                    clear heq hDlt hcd hcr HEQ4
                    go_wp2_with fail
                    have b5 : (-256 : Int) ≤ (r1 : Int) - (c : Int) - (bb : Int) := by omega
                    have b6 : (r1 : Int) - (c : Int) - (bb : Int) ≤ 255 := by omega
                    have KS5 : Hid (Rd5 w wr g1 g2 a.size b.size N D Q R j gq Xv ((r1 : Int) - (c : Int) - (bb : Int))) := Lib.hid (by
                      obtain ⟨kcd, kcr, kbq, kbel⟩ := HC4.out
                      exact ⟨kcd, kcr, kbq, top_start HEQ5.out HTOP.out HR1.out (top_small HRL.out (by rw [HDD.out]; exact HPL.out.2.1.1)), HTOP.out, HGE.out, kbel⟩)
                    obtain ⟨t0, ht0⟩ : ∃ t0 : Int, (r1 : Int) - (c : Int) - (bb : Int) = t0 := ⟨_, rfl⟩
                    rw [ht0] at b5 b6 KS5 ⊢
                    have HD0 : Hid (0 < D ∧ D < 256 ^ b.size) := Lib.hid (by
                      have h3 := HPL.out.2.1
                      rw [← HDD.out] at h3
                      exact ⟨Nat.lt_of_lt_of_le (Nat.mul_pos (by decide) (pow256_pos _)) h3.2, h3.1⟩)
                    have HTS : Hid (R / 256 ^ (j + b.size) < 256) := Lib.hid (top_small HRL.out HD0.out.2)
                    clear ht0 hc2 hrr HC4 HEQ5 HTOP HRR hc hbb hi HCD HCR HBQ HBEL HGE
                    go_loopw [18, 23] (fun gv tv wx => ∃ (g Xw : Nat) (t : Int), gv = .int .i64 g ∧ tv = .int .i64 t ∧ g ≤ 255 ∧ -256 ≤ t ∧ t ≤ 255 ∧ Rd5 w wx g1 g2 a.size b.size N D Q R j g Xw t) (fun gv _ _ => (intOf gv).toNat)
                    case atStart => exact ⟨gq, Xv, t0, rfl, rfl, HG255.out, b5, b6, KS5.out⟩
                    case round =>
                      clear KS5 b5 b6
                      obtain ⟨g, Xw, t, rfl, rfl, hg, ht1, ht2, hrd⟩ := hrel
                      have HRD := Lib.hid hrd
                      clear hrd
                      by_cases hneg : t < 0
                      · have hg1 : 1 ≤ g := (top_round (L' := Xw % 256 ^ (j + b.size) + D * 256 ^ j) (c := 0) HRD.out.eq (Nat.mod_lt _ (pow256_pos _)) hneg HD0.out.1 (pow256_pos j) (by rw [Nat.zero_mul, Nat.add_zero])).1
                        obtain ⟨k, rfl⟩ : ∃ k, g = k + 1 := ⟨g - 1, by omega⟩
                        have HG5 : Hid (k + 1 ≤ 255) := Lib.hid hg
                        have hk1 : (((k + 1 : Nat) : Int) - 1) = (k : Int) := by omega
                        have hk9 : k ≤ 255 := by omega
                        clear hg1 hg
                        go_wp2_with fail
                        go_loopw [24, 212] (fun cv iv wy => ∃ i c Yv : Nat, iv = .int .i64 i ∧ cv = .int .i64 c ∧ i ≤ b.size ∧ c ≤ 1 ∧ Rd6 w wy g1 g2 a.size b.size N D Q R j i c Xw Yv) (fun _ iv _ => b.size - (intOf iv).toNat)
                        case atStart => exact ⟨0, 0, Xw, rfl, rfl, Nat.zero_le _, by decide, ⟨HRD.out.cd, HRD.out.cr, HRD.out.bq, by rw [Nat.pow_zero, Nat.mod_one, Nat.zero_mul, Nat.zero_mul], rfl, HRD.out.bel⟩⟩
                        case round =>
                          obtain ⟨i, c, Yv, rfl, rfl, hi, hc, hr6⟩ := hrel
                          have HR6 := Lib.hid hr6
                          clear hr6
                          by_cases hlt : i < b.size
                          · -- SKIP4
                            have hjb := HJB.out
                            have hc1 := HR6.out.cd.cell (k := i) (by rw [le_length]; exact hlt)
                            have hc2 := HR6.out.cr.cell (k := i + j) (by rw [le_length]; omega)
                            have hf2 := HR6.out.cr.free (i + j)
                            rw [le_getD hlt] at hc1
                            rw [le_getD (by omega)] at hc2
                            obtain ⟨dI, hdI⟩ : ∃ d, D / 256 ^ i % 256 = d := ⟨_, rfl⟩
                            obtain ⟨x0, hx0⟩ : ∃ d, Yv / 256 ^ (i + j) % 256 = d := ⟨_, rfl⟩
                            have d1 : dI ≤ 255 := by omega
                            have x1 : x0 ≤ 255 := by omega
                            rw [hdI] at hc1
                            rw [hx0] at hc2
                            obtain ⟨p1, hp1⟩ : ∃ p, p = i + j := ⟨_, rfl⟩
                            rw [← hp1] at hc2 hf2
                            have z1 : p1 < a.size + 1 := by omega
                            have w1 : (p1 : Int) < (a.size : Int) + 1 := by omega
                            have i1 : (i : Int) < (b.size : Int) := by omega
                            obtain ⟨S, hS⟩ : ∃ S, S = c + (x0 + dI) := ⟨_, rfl⟩
                            have hSl : S ≤ 511 := by omega
                            obtain ⟨m8, hm8⟩ : ∃ m8, m8 = S % 256 := ⟨_, rfl⟩
                            have hm9 : m8 ≤ 255 := by omega
                            have FIN : Hid (∀ v4 : Value, v4 = .int .i64 ((S / 256 : Nat) : Int) → ∃ i' c' Yv' : Nat, Value.int .i64 ((i : Int) + 1) = .int .i64 i' ∧ v4 = .int .i64 c' ∧ i' ≤ b.size ∧ c' ≤ 1 ∧ Rd6 w ((wr.setCell ⟨g1, p1, none⟩ (.int .i64 (m8 : Int))).drew) g1 g2 a.size b.size N D Q R j i' c' Xw Yv') := Lib.hid (fun v4 e4 => by
                              have h1 := HR6.out.cr.set (i + j) m8
                              have hm : m8 = (c + (Yv / 256 ^ (i + j) % 256 + D / 256 ^ i % 256)) % 256 := by rw [hm8, hS, hx0, hdI]
                              have hs2 := add_digit HR6.out.eq
                              rw [← hm, hx0, hdI, ← hS] at hs2
                              rw [le_set (by omega) (by omega), ← hp1] at h1
                              rw [← hp1] at hs2
                              exact ⟨i + 1, S / 256, _, by rw [Int.natCast_add]; rfl, e4, hlt, by omega, ⟨HR6.out.cd.far HN01.out _, h1, HR6.out.bq.far (Ne.symm HN12.out) _, hs2, by rw [putD_high (by omega) (by omega)]; exact HR6.out.top, (HR6.out.bel.setCell HL1.out _).drew⟩⟩)
                            have hand : bits .and .i64 (S : Int) 255 = (m8 : Int) := (and255 (Nat.le_trans hSl (by decide))).trans (by rw [hm8])
                            have HSS : Hid ((c : Int) + ((x0 : Int) + (dI : Int)) = (S : Int)) := Lib.hid (by rw [hS]; rfl)
                            have HAND := Lib.hid hand
                            have s0 : (i : Int) + (j : Int) = (p1 : Int) := by rw [hp1]; rfl
                            have s1 : IntKind.i64.wrap ((i : Int) + (j : Int)) = (p1 : Int) := by rw [s0]; exact IntWalk.i64_in _ (by omega)
                            have HS0 := Lib.hid s0
                            clear hdI hx0 hS hm8 hp1 s0 hand
                            go_wp2_with fail
                            go_region_held3 (fun w' => w'.cell? ⟨g1, p1, none⟩ = some (.int .i64 x0) ∧ w'.cell? ⟨w.heap.size, i, none⟩ = some (.int .i64 dI)) (first | go_keep) (first | fail)
                            all_goals
                              have s0 := HS0.out
                              clear s1
                              go_wp2_with fail
                              rw [HSS.out, HAND.out]
                              exact ⟨FIN.out _ (by simp), by simp [intOf]; omega⟩
                            -- END4
                          · -- SKIP5
                            obtain rfl : i = b.size := by omega
                            have b7 : -256 ≤ t + (c : Int) := by omega
                            have b8 : t + (c : Int) ≤ 255 := by omega
                            have FIN : Hid (Rd5 w wr g1 g2 a.size b.size N D Q R j k Yv (t + (c : Int))) := Lib.hid (by
                              have heq := HR6.out.eq
                              rw [Nat.mod_eq_of_lt HD0.out.2] at heq
                              have h1 := top_round (L' := Yv % 256 ^ (j + b.size)) (c := c) HRD.out.eq (Nat.mod_lt _ (pow256_pos _)) hneg HD0.out.1 (pow256_pos j) (add_low heq HR6.out.top)
                              rw [Nat.add_sub_cancel] at h1
                              exact ⟨HR6.out.cd, HR6.out.cr, HR6.out.bq, h1.2.2, HR6.out.top.trans HRD.out.top, h1.2.1, HR6.out.bel⟩)
                            go_wp2_with fail
                            exact ⟨⟨k, Yv, t + (c : Int), rfl, rfl, hk9, b7, b8, FIN.out⟩, by simp [intOf]⟩
                            -- END5
                      · -- SKIP6
                        obtain ⟨e1, e2, e3⟩ := top_end HRD.out.eq (by omega) HD0.out.1 HD0.out.2 HRD.out.ge
                        subst e1
                        have hct := HRD.out.cr.cell (k := j + b.size) (by rw [le_length]; exact HJB.out)
                        have hfr := HRD.out.cr.free (j + b.size)
                        obtain ⟨pq, hpq⟩ : ∃ pq, pq = N - 1 - j := ⟨_, rfl⟩
                        have hjN := HJN.out
                        have hqi : wrap64 (wrap64 ((N : Int) - 1) - (j : Int)) = (pq : Int) := by unfold wrap64; omega
                        have hpN : pq < N := by omega
                        have hcq := HRD.out.bq.cell (k := pq) (by rw [be_length]; exact hpN)
                        have hfq := HRD.out.bq.free pq
                        have hjb := HJB.out
                        obtain ⟨p1, hp1⟩ : ∃ p, p = j + b.size := ⟨_, rfl⟩
                        rw [← hp1] at hct hfr hjb
                        have s0 : (j : Int) + (b.size : Int) = (p1 : Int) := by omega
                        have w1 : (p1 : Int) < (a.size : Int) + 1 := by omega
                        have hne := HN12.out
                        have FIN : Hid (∀ (z0 zg : Int), z0 = 0 → zg = (g : Int) → ∃ Q' R' : Nat, Ck ((wr.setCell ⟨g1, p1, none⟩ (.int .i64 z0)).setCell ⟨g2, pq, none⟩ (.int .u8 zg)) w.heap.size 3 (le b.size D) ∧ Ck ((wr.setCell ⟨g1, p1, none⟩ (.int .i64 z0)).setCell ⟨g2, pq, none⟩ (.int .u8 zg)) g1 3 (le (a.size + 1) R') ∧ Bk ((wr.setCell ⟨g1, p1, none⟩ (.int .i64 z0)).setCell ⟨g2, pq, none⟩ (.int .u8 zg)) g2 5 (be N Q') ∧ E = Q' * D + R' ∧ R' < D * 256 ^ j ∧ Q' % 256 ^ j = 0 ∧ Below w.heap.size w ((wr.setCell ⟨g1, p1, none⟩ (.int .i64 z0)).setCell ⟨g2, pq, none⟩ (.int .u8 zg))) := Lib.hid (fun z0 zg ez eg => by
                          subst ez
                          obtain ⟨h1, h2, h3⟩ := div_round HEQ.out HD0.out.1 HQM.out e2
                          have k1 := HRD.out.cr.set (j + b.size) 0
                          rw [le_set HJB.out (by decide), put_top HRD.out.top HTS.out, e3, ← hp1] at k1
                          have k2 := (HRD.out.bq.far (p := ⟨g1, p1, none⟩) (Ne.symm hne) (.int .i64 0)).set pq (UInt8.ofNat g)
                          rw [hpq, be_set hjN (by omega), toNat_ofNat8, Nat.mod_eq_of_lt (show g < 256 by omega), ← hpq, ← eg] at k2
                          exact ⟨putD Q j g, R % (D * 256 ^ j), (HRD.out.cd.far HN01.out _).far HN02.out _, k1.far hne _, k2, h1, h2, h3, (HRD.out.bel.setCell HL1.out _).setCell HL2.out _⟩)
                        clear e2 e3 hp1 hpq hNm
                        go_wp2_with fail
                        obtain ⟨Q', R', f1, f2, f3, f4, f5, f6, f7⟩ := FIN.out _ _ rfl rfl
                        go_roundw
                        case rel => exact ⟨j, Q', R', rfl, Nat.le_of_lt HJN.out, f1, f2, f3, f4, f5, f6, f7⟩
                        case measure => simp [intOf]
                        -- END6
              -- END8
/-- natural.divided for all canonical numbers. -/
theorem natural_dividedA (x y : Nat) (w : World) (hx : x < lim) (hy : 0 < y) :
    Calls Tryz.prog 43 #[.string (B x), .string (B y)] w fun e w' => e = .returned (.tuple #[.string (B (x / y)), .string (B (x % y))]) ∧ Below w.heap.size w w' := by
  by_cases h : x < 18446744073709551616 ∨ x < y
  · exact natural_divided8 x y w h hy
  · have := natural_dividedL (B x) (B y) w (by rw [num_B]) (by rw [num_B]) (by rw [num_B]; exact hx) (by rw [num_B]; exact hy) (by rw [num_B, num_B]; omega) (by rw [num_B]; omega)
    rw [num_B, num_B] at this
    exact this
theorem natural_DivModA (x y : Nat) (w : World) (hx : x < lim) (hy : y < lim) (h0 : 0 < y) :
    Calls Tryz.prog 27 #[.string (B x), .string (B y)] w fun e w' => e = .returned (.tuple #[.string (B (x / y)), .string (B (x % y)), .int .i64 0]) ∧ Below w.heap.size w w' := by
  have hvx := valid_B hx
  have hvy := valid_B hy
  have he := B_isEmpty_false (Nat.pos_iff_ne_zero.1 h0)
  have HD := Lib.hid (fun w => natural_dividedA x y w hx h0)
  clear hx hy h0
  go_enter Tryz.func27, Tryz.ntmps27
  go_wp2_with (first | (go_at_call 13; refine (natural_Valid _ _).mono ?_; rintro e w' ⟨rfl, rfl⟩) | (go_at_call 43; (with_reducible refine (HD.out _).mono ?_); rintro e w' ⟨rfl, hb1⟩))
  go_ret3
  exact ⟨rfl, hb1⟩
end Go.Proofs.YtcpglhjmhegfmaaGreatDoor
