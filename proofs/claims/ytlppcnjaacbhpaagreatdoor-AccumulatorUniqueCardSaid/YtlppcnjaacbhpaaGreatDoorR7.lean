/- The walks of the reference of layer 1: long division. -/
import Derived.Test.YtlppcnjaacbhpaaGreatDoorR6
namespace Go.Proofs.YtlppcnjaacbhpaaGreatDoor
open Go.RowKit
set_option maxRecDepth 100000
set_option linter.unusedVariables false
set_option maxHeartbeats 1000000

theorem be_get (n v t : Nat) (h : t < n) : (be n v)[t]'(by rw [be_length]; exact h) = UInt8.ofNat (v / 256 ^ (n - 1 - t)) := by
  induction n generalizing t with
  | zero => omega
  | succ n ih =>
    cases t with
    | zero => simp [be]
    | succ t =>
      simp only [be, List.getElem_cons_succ]
      rw [ih t (by omega)]
      congr 2
      congr 1; omega
theorem ofNat_congr {a b : Nat} (h : a % 256 = b % 256) : UInt8.ofNat a = UInt8.ofNat b := UInt8.toNat_inj.mp (by rw [toNat_ofNat8, toNat_ofNat8, h])
/-- Adding into one byte, without a carry. -/
theorem be_add (n v j d : Nat) (hj : j < n) (hd : v / 256 ^ j % 256 + d < 256) : be n (v + d * 256 ^ j) = (be n v).set (n - 1 - j) (UInt8.ofNat (v / 256 ^ j + d)) := by
  have hpj : 0 < 256 ^ j := Nat.pow_pos (by omega)
  have e0 : (v + d * 256 ^ j) / 256 ^ j = v / 256 ^ j + d := by rw [Nat.mul_comm d, Nat.add_mul_div_left _ _ hpj]
  apply List.ext_getElem
  · rw [List.length_set, be_length, be_length]
  · intro t h1 h2
    rw [be_length] at h1
    rw [be_get _ _ _ h1, List.getElem_set]
    by_cases ht : n - 1 - j = t
    · rw [if_pos ht, show n - 1 - t = j by omega, e0]
    · rw [if_neg ht, be_get _ _ _ h1]
      obtain ⟨k, hk⟩ : ∃ k, n - 1 - t = k := ⟨_, rfl⟩
      rw [hk]
      apply ofNat_congr
      rcases Nat.lt_or_ge k j with hl | hl
      · have e1 : d * 256 ^ j = 256 ^ k * (256 * (d * 256 ^ (j - k - 1))) := by
          rw [show 256 ^ j = 256 ^ k * (256 * 256 ^ (j - k - 1)) by rw [← Nat.pow_succ', ← Nat.pow_add]; congr 1; omega]
          rw [Nat.mul_left_comm, Nat.mul_left_comm d 256]
        rw [e1, Nat.add_mul_div_left _ _ (Nat.pow_pos (by omega))]
        omega
      · have hkj : k ≠ j := by omega
        have e2 : 256 ^ k = 256 ^ j * (256 * 256 ^ (k - j - 1)) := by rw [← Nat.pow_succ', ← Nat.pow_add]; congr 1; omega
        rw [e2, ← Nat.div_div_eq_div_mul, ← Nat.div_div_eq_div_mul, ← Nat.div_div_eq_div_mul, ← Nat.div_div_eq_div_mul, e0]
        congr 2
        omega
theorem bitsN_le {x k : Nat} (h : x < 2 ^ k) : bitsN x ≤ k := by
  unfold bitsN
  split
  · omega
  · rename_i h0
    have := (Nat.log2_lt h0).2 h
    omega
theorem div_step {p b y : Nat} (hb : b ≤ 1) (hy : 0 < y) : (2 * p + b) / y = 2 * (p / y) + (if y ≤ 2 * (p % y) + b then 1 else 0) ∧ (2 * p + b) % y = (if y ≤ 2 * (p % y) + b then 2 * (p % y) + b - y else 2 * (p % y) + b) := by
  have h := Nat.div_add_mod p y
  have hl := Nat.mod_lt p hy
  generalize p % y = r at *
  generalize p / y = q at *
  have e : 2 * p + b = 2 * r + b + y * (2 * q) := by rw [← h, Nat.mul_left_comm]; omega
  rw [e, Nat.add_mul_div_left _ _ hy, Nat.add_mul_mod_self_left]
  split
  · rename_i h1
    have e1 : (2 * r + b) / y = 1 := Nat.div_eq_of_lt_le (by omega) (by omega)
    have e2 : (2 * r + b) % y = 2 * r + b - y := by rw [Nat.mod_eq_sub_mod h1, Nat.mod_eq_of_lt (by omega)]
    rw [e1, e2]; exact ⟨by omega, rfl⟩
  · rename_i h1
    rw [Nat.div_eq_of_lt (by omega), Nat.mod_eq_of_lt (by omega)]; exact ⟨by omega, rfl⟩
theorem byte_room (Q t : Nat) (h : t < 8) : (Q * 2 ^ (t + 1)) % 256 + 2 ^ t < 256 := by
  match t, h with
  | 0, _ => first | (simp; done) | (simp; omega)
  | 1, _ => first | (simp; done) | (simp; omega)
  | 2, _ => first | (simp; done) | (simp; omega)
  | 3, _ => first | (simp; done) | (simp; omega)
  | 4, _ => first | (simp; done) | (simp; omega)
  | 5, _ => first | (simp; done) | (simp; omega)
  | 6, _ => first | (simp; done) | (simp; omega)
  | 7, _ => first | (simp; done) | (simp; omega)
/-- One more bit of the quotient. -/
theorem quo_bit (n Q i : Nat) (hi : i / 8 < n) : ∃ D : Nat, D = (Q * 2 ^ (i + 1)) / 256 ^ (i / 8) ∧ D % 256 + 2 ^ (i % 8) < 256 ∧ be n ((2 * Q + 1) * 2 ^ i) = (be n (Q * 2 ^ (i + 1))).set (n - 1 - i / 8) (UInt8.ofNat (D + 2 ^ (i % 8))) := by
  have hv : Q * 2 ^ (i + 1) / 256 ^ (i / 8) = Q * 2 ^ (i % 8 + 1) := by
    rw [← pow_256, show i + 1 = (i % 8 + 1) + 8 * (i / 8) by omega, Nat.pow_add, ← Nat.mul_assoc, Nat.mul_div_cancel _ (Nat.two_pow_pos _)]
  refine ⟨_, rfl, by rw [hv]; exact byte_room _ _ (Nat.mod_lt _ (by omega)), ?_⟩
  rw [← be_add n _ (i / 8) (2 ^ (i % 8)) hi (by rw [hv]; exact byte_room _ _ (Nat.mod_lt _ (by omega)))]
  congr 1
  rw [← pow_256, ← Nat.pow_add, show i % 8 + 8 * (i / 8) = i by omega, Nat.add_mul, Nat.one_mul, Nat.pow_succ]
  congr 1
  rw [Nat.mul_comm (2 ^ i), ← Nat.mul_assoc, Nat.mul_comm Q]
theorem be_zero (n : Nat) : be n 0 = List.replicate n 0 := by
  induction n with
  | zero => rfl
  | succ n ih => rw [be, ih, List.replicate_succ, Nat.zero_div]; rfl
theorem half_bit (x i : Nat) : x / 2 ^ i = 2 * (x / 2 ^ (i + 1)) + x / 2 ^ i % 2 := by
  rw [Nat.pow_succ, ← Nat.div_div_eq_div_mul]; omega
theorem B_one1 : (⟨#[1]⟩ : ByteArray) = B 1 := rfl
theorem r01_Plus_one (r : Nat) (w : World) (sa : (B r).size ≤ 200) :
    Calls Tryz.prog 92 #[.string (B r), .string ⟨#[1]⟩] w fun e w' => e = .returned (.string (B (r + 1))) ∧ Below w.heap.size w w' := by
  rw [B_one1]
  exact r01_Plus r 1 w sa (B_size_le'.2 (by decide))
theorem dbl (Q i : Nat) : (Q + Q) * 2 ^ i = Q * 2 ^ (i + 1) := by
  rw [← Nat.two_mul, Nat.mul_assoc, Nat.mul_left_comm, ← Nat.pow_succ']
theorem pow_le_64 {j t : Nat} (h : j < t) (ht : t ≤ 7) : 2 ^ j ≤ 64 := show 2 ^ j ≤ 2 ^ 6 from Nat.pow_le_pow_right (by omega) (by omega)
theorem pow_le_128 {t : Nat} (ht : t ≤ 7) : 2 ^ t ≤ 128 := show 2 ^ t ≤ 2 ^ 7 from Nat.pow_le_pow_right (by omega) ht
theorem ge_cmp {a b : Nat} (h : b ≤ a) : 0 ≤ cmpN a b := by
  unfold cmpN; rw [if_neg (by omega)]; split <;> omega
theorem lt_cmp {a b : Nat} (h : a < b) : ¬ 0 ≤ cmpN a b := by
  rw [cmpN_lt h]; omega
theorem B_le_size {a : Nat} {k : Nat} (h : a < 256 ^ k) : (B a).size ≤ k := B_size_le'.2 h

set_option maxHeartbeats 4000000 in
theorem r01_Over_long (x y : Nat) (w : World) (hx : x < lim) (hy : y < lim) (h0 : 0 < y) (h8 : ¬ ((B x).size ≤ 8 ∧ (B y).size ≤ 8)) :
    Calls Tryz.prog 58 #[.string (B x), .string (B y)] w fun e w' => e = .returned (.tuple #[.string (B (x / y)), .string (B (x % y))]) ∧ Below w.heap.size w w' := by
  have hbits := fun w => r01_bits (B x) w (valid_B hx)
  have hone := fun (i : Nat) w (hi : i ≤ 1000000) => r01_one (B x) i i w rfl hi (by have := B_size_le.2 hx; omega)
  simp only [num_B] at hone
  have hsx := B_size_le.2 hx
  have hsy := B_size_le.2 hy
  have hxp := num_lt (B x)
  rw [num_B] at hxp
  have hxl : x < 2 ^ (natBits (B x)) := by unfold natBits; rw [valid_B hx, if_pos rfl, num_B]; exact lt_pow_bitsN x
  have hNn : natBits (B x) ≤ 8 * (B x).size := by
    unfold natBits; rw [valid_B hx, if_pos rfl, num_B]
    exact bitsN_le (by rw [pow_256]; exact hxp)
  have hYL := B_size_le' (n := 2 * y) (k := 129)
  have hr2 : ∀ r, r < 2 * y → (B r).size ≤ 200 := fun r hr => by
    have : r < 256 ^ 129 := by
      have e : (256 : Nat) ^ 129 = lim * 256 := by rw [lim_eq, ← Nat.pow_succ]
      rw [e]; omega
    have := B_size_le'.2 this
    omega
  have HR2 := Lib.hid hr2
  obtain ⟨n, hn⟩ : ∃ n, (B x).size = n := ⟨_, rfl⟩
  obtain ⟨N, hN⟩ : ∃ N, natBits (B x) = N := ⟨_, rfl⟩
  have hmk := make_bytes n (by omega)
  rw [hn] at hsx hNn h8
  rw [hN] at hbits hxl hNn
  have HBITS := Lib.hid hbits
  have HONE := Lib.hid hone
  have HXL := Lib.hid hxl
  have HXP := Lib.hid (show x < 256 ^ n by rw [← hn]; exact hxp)
  have HSY := Lib.hid hsy
  have hen : ((B x).size : Int) = (n : Int) := by rw [hn]
  have HEN := Lib.hid hn
  have H8 : Hid (¬ ((B x).size ≤ 8 ∧ (B y).size ≤ 8)) := Lib.hid (by rw [hn]; exact h8)
  clear hbits hone hxl hxp hYL hr2 hN hx hy
  have hcase : (8 < n ∧ decide ((n : Int) ≤ 8) = false) ∨ (decide ((n : Int) ≤ 8) = true ∧ decide (((B y).size : Int) ≤ 8) = false) := by
    by_cases h : n ≤ 8
    · exact .inr ⟨by simp; omega, by simp; omega⟩
    · exact .inl ⟨by omega, by simp; omega⟩
  rcases hcase with ⟨_, kk1⟩ | ⟨kk1, kk2⟩
  all_goals
    clear h8
    go_enter Tryz.func58, Tryz.ntmps58
    go_wp2_with (first | (go_at_call 91; refine (HBITS.out _).mono ?_; rintro e w' ⟨rfl, rfl⟩))
    go_loopw [9, 10, 11, 12] (fun vr vi _ _ wr => ∃ k : Nat, k ≤ N ∧ vi = .int .i64 ((N : Int) - 1 - k) ∧ vr = .string (B (x / 2 ^ (N - k) % y)) ∧ Bk wr w.heap.size 5 (be n (x / 2 ^ (N - k) / y * 2 ^ (N - k))) ∧ Below w.heap.size w wr) (fun _ vi _ _ _ => (intOf vi + 1).toNat)
    case atStart => exact ⟨0, by omega, by simp, by rw [Nat.sub_zero, Nat.div_eq_of_lt HXL.out, Nat.zero_mod]; rfl, by rw [Nat.sub_zero, Nat.div_eq_of_lt HXL.out, Nat.zero_div, Nat.zero_mul, be_zero]; exact Bk.new w 5 (List.replicate n 0), (Below.refl _ _).alloc (Nat.le_refl _) _⟩
    case round =>
      obtain ⟨k, hk, rfl, rfl, hbk, hbel⟩ := hrel
      by_cases hlt : k < N
      · obtain ⟨i, hi⟩ : ∃ i : Nat, N - 1 - k = i := ⟨_, rfl⟩
        have ei : ((N : Int) - 1 - (k : Int)) = (i : Int) := by omega
        have eM : N - k = i + 1 := by omega
        have eM2 : N - (k + 1) = i := by omega
        have hib : i ≤ 1024 := by omega
        have hi8 : i / 8 < n := by omega
        rw [eM] at hbk
        rw [ei, eM]
        have hb1 : x / 2 ^ i % 2 ≤ 1 := by omega
        have hhalf := half_bit x i
        obtain ⟨b, hb⟩ : ∃ b, x / 2 ^ i % 2 = b := ⟨_, rfl⟩
        have hon := fun w => HONE.out i w (by omega)
        rw [hb] at hon hb1 hhalf
        obtain ⟨p, hp⟩ : ∃ p, x / 2 ^ (i + 1) = p := ⟨_, rfl⟩
        rw [hp] at hbk hhalf
        rw [hp]
        obtain ⟨hd1, hd2⟩ := div_step (p := p) hb1 h0
        have hq := quo_bit n (p / y) i hi8
        have hrl := Nat.mod_lt p h0
        obtain ⟨r, hr⟩ : ∃ r, p % y = r := ⟨_, rfl⟩
        obtain ⟨Q, hQ⟩ : ∃ Q, p / y = Q := ⟨_, rfl⟩
        rw [hr] at hd1 hd2 hrl
        rw [hQ] at hd1 hq hbk
        rw [hr]
        rw [← hhalf] at hd1 hd2
        have HD1 := Lib.hid hd1
        have HD2 := Lib.hid hd2
        have HQ := Lib.hid hq
        have HBK := Lib.hid hbk
        have HON := Lib.hid hon
        have E2 := Lib.hid eM2
        have HSr := Lib.hid (HR2.out r (by omega))
        have HS2 := Lib.hid (HR2.out (r + r) (by omega))
        have HI := Lib.hid hi
        obtain ⟨t, ht⟩ : ∃ t, i % 8 = t := ⟨_, rfl⟩
        obtain ⟨j, hj⟩ : ∃ j, i / 8 = j := ⟨_, rfl⟩
        have et : ((i : Int) % 8) = (t : Int) := by omega
        have ej : ((i : Int) / 8) = (j : Int) := by omega
        have ht8 : t ≤ 7 := by omega
        have hjn : j < n := by omega
        rw [ht, hj] at HQ
        have HS3 := Lib.hid (HR2.out (r + r + 1) (by omega))
        clear hd1 hd2 hq hbk hon eM eM2 hi ei hhalf hp hr hQ hb ht hj hi8
        have hb01 : b = 0 ∨ b = 1 := by omega
        rcases hb01 with rfl | rfl
        all_goals simp only [Nat.add_zero, Nat.two_mul] at HD1 HD2
        · rw [show ((0 : Nat) == 1) = false from rfl] at HON
          by_cases hge : y ≤ r + r
          · have hcm := ge_cmp hge
            have HORD := Lib.hid (fun w => r01_Order (r + r) y w (by have := HS2.out; omega) (by have := HSY.out; omega))
            have HMIN := Lib.hid (fun w => r01_Minus (r + r) y w (by have := HS2.out; omega) (by have := HSY.out; omega) hge)
            generalize cmpN (r + r) y = cv at *
            have HGE := Lib.hid hge
            clear hge
            go_wp2_with (first | (go_at_call 92; (with_reducible refine (r01_Plus r r _ HSr.out HSr.out).mono ?_); rintro e w1 ⟨rfl, hb1⟩) | (go_at_call 93; (with_reducible refine (HON.out _).mono ?_); rintro e w' ⟨rfl, rfl⟩) | (go_at_call 76; (with_reducible refine (HORD.out _).mono ?_); rintro e w3 ⟨rfl, hb3⟩) | (go_at_call 77; (with_reducible refine (HMIN.out _).mono ?_); rintro e w4 ⟨rfl, hb4⟩))
            have HB4 : Below w.heap.size w w4 := below2 (below2 (below2 hbel hb1) hb3) hb4
            have k1 := HBK.out.below hb1 HBK.out.lt
            have k3 := k1.below hb3 k1.lt
            have hbk4 := k3.below hb4 k3.lt
            obtain ⟨D, hD, hroom, hset⟩ := HQ.out
            have hcell := hbk4.cell (k := n - 1 - j) (by rw [be_length]; omega)
            have hfree := hbk4.free (n - 1 - j)
            have hgd : ((be n (Q * 2 ^ (i + 1))).getD (n - 1 - j) 0).toNat = D % 256 := by
              rw [getD_lt (by rw [be_length]; omega), be_get _ _ _ (by omega), toNat_ofNat8, show n - 1 - (n - 1 - j) = j by omega, hD]
            rw [hgd] at hcell
            have HBK4 := Lib.hid hbk4
            have HSET := Lib.hid hset
            have hp128 := pow_le_128 ht8
            obtain ⟨c, hc⟩ : ∃ c, D % 256 = c := ⟨_, rfl⟩
            rw [hc] at hcell hroom
            have HC := Lib.hid hc
            have HB4' := Lib.hid HB4
            clear hbk4 hset k1 k3 hgd hD hc HB4
            go_loop [11, 12] (fun vk vj => ∃ jj : Nat, jj ≤ t ∧ vj = .int .i64 jj ∧ vk = .int .u8 (2 ^ jj : Nat)) (fun _ vj => t - (intOf vj).toNat)
            case atStart => exact ⟨0, by omega, rfl, rfl⟩
            case round =>
              obtain ⟨jj, hjj, rfl, rfl⟩ := hrel
              by_cases hlj : jj < t
              · have h64 := pow_le_64 hlj ht8
                have k5 : decide ((jj : Int) < (t : Int)) = true := by simpa using hlj
                have hpw : 2 ^ jj * 2 = 2 ^ (jj + 1) := (Nat.pow_succ 2 jj).symm
                have HPW := Lib.hid hpw
                clear hpw
                generalize 2 ^ jj = kk at *
                go_wp2_with fail
                go_round
                case rel => exact ⟨jj + 1, by omega, by go_num, by rw [← HPW.out]; go_num⟩
                case measure => simp [intOf]; omega
              · obtain rfl : jj = t := by omega
                have k5 : decide ((jj : Int) < (jj : Int)) = false := by simp
                obtain ⟨kk, hkk⟩ : ∃ kk, 2 ^ jj = kk := ⟨_, rfl⟩
                rw [hkk] at hroom hp128 HSET
                rw [hkk]
                clear hkk
                go_wp2_with fail
                go_roundw
                case rel =>
                  refine ⟨k + 1, by omega, by have := HI.out; congr 1; omega, ?_, ?_, HB4'.out.setCell (by simp) _⟩
                  · rw [E2.out, HD2.out, if_pos HGE.out]
                  · rw [E2.out, HD1.out, if_pos HGE.out, show Q + Q + 1 = 2 * Q + 1 by omega, HSET.out]
                    have hh := HBK4.out.set (n - 1 - j) (UInt8.ofNat (D + kk))
                    rw [toNat_ofNat8, show (D + kk) % 256 = c + kk by have := HC.out; omega, Int.natCast_add] at hh
                    exact hh
                case measure => simp [intOf]
          · have hcm := lt_cmp (Nat.lt_of_not_le hge)
            have HORD := Lib.hid (fun w => r01_Order (r + r) y w (by have := HS2.out; omega) (by have := HSY.out; omega))
            generalize cmpN (r + r) y = cv at *
            have HGE := Lib.hid hge
            clear hge
            go_wp2_with (first | (go_at_call 92; (with_reducible refine (r01_Plus r r _ HSr.out HSr.out).mono ?_); rintro e w1 ⟨rfl, hb1⟩) | (go_at_call 93; (with_reducible refine (HON.out _).mono ?_); rintro e w' ⟨rfl, rfl⟩) | (go_at_call 76; (with_reducible refine (HORD.out _).mono ?_); rintro e w3 ⟨rfl, hb3⟩))
            go_roundw
            case rel =>
              have HB3 : Below w.heap.size w w3 := below2 (below2 hbel hb1) hb3
              have hbk3 : Bk w3 w.heap.size 5 (be n (Q * 2 ^ (i + 1))) := (HBK.out.below hb1 HBK.out.lt).below hb3 (by have := hb1.size; have := HBK.out.lt; omega)
              refine ⟨k + 1, by omega, by have := HI.out; congr 1; omega, ?_, ?_, HB3⟩
              · rw [E2.out, HD2.out, if_neg (by have := HGE.out; omega)]
              · rw [E2.out, HD1.out, if_neg (by have := HGE.out; omega), Nat.add_zero, dbl]
                exact hbk3
            case measure => simp [intOf]
        · rw [show ((1 : Nat) == 1) = true from rfl] at HON
          by_cases hge : y ≤ r + r + 1
          · have hcm := ge_cmp hge
            have HORD := Lib.hid (fun w => r01_Order (r + r + 1) y w (by have := HS3.out; omega) (by have := HSY.out; omega))
            have HMIN := Lib.hid (fun w => r01_Minus (r + r + 1) y w (by have := HS3.out; omega) (by have := HSY.out; omega) hge)
            generalize cmpN (r + r + 1) y = cv at *
            have HGE := Lib.hid hge
            clear hge
            go_wp2_with (first | (go_at_call 92; (with_reducible refine (r01_Plus r r _ HSr.out HSr.out).mono ?_); rintro e w1 ⟨rfl, hb1⟩) | (go_at_call 93; (with_reducible refine (HON.out _).mono ?_); rintro e w' ⟨rfl, rfl⟩) | (go_at_call 92; (with_reducible refine (r01_Plus_one (r + r) _ HS2.out).mono ?_); rintro e w2 ⟨rfl, hb2⟩) | (go_at_call 76; (with_reducible refine (HORD.out _).mono ?_); rintro e w3 ⟨rfl, hb3⟩) | (go_at_call 77; (with_reducible refine (HMIN.out _).mono ?_); rintro e w4 ⟨rfl, hb4⟩))
            have HB4 : Below w.heap.size w w4 := below2 (below2 (below2 (below2 hbel hb1) hb2) hb3) hb4
            have k1 := HBK.out.below hb1 HBK.out.lt
            have k2 := k1.below hb2 k1.lt
            have k3 := k2.below hb3 k2.lt
            have hbk4 := k3.below hb4 k3.lt
            obtain ⟨D, hD, hroom, hset⟩ := HQ.out
            have hcell := hbk4.cell (k := n - 1 - j) (by rw [be_length]; omega)
            have hfree := hbk4.free (n - 1 - j)
            have hgd : ((be n (Q * 2 ^ (i + 1))).getD (n - 1 - j) 0).toNat = D % 256 := by
              rw [getD_lt (by rw [be_length]; omega), be_get _ _ _ (by omega), toNat_ofNat8, show n - 1 - (n - 1 - j) = j by omega, hD]
            rw [hgd] at hcell
            have HBK4 := Lib.hid hbk4
            have HSET := Lib.hid hset
            have hp128 := pow_le_128 ht8
            obtain ⟨c, hc⟩ : ∃ c, D % 256 = c := ⟨_, rfl⟩
            rw [hc] at hcell hroom
            have HC := Lib.hid hc
            have HB4' := Lib.hid HB4
            clear hbk4 hset k1 k3 hgd hD hc HB4
            go_loop [11, 12] (fun vk vj => ∃ jj : Nat, jj ≤ t ∧ vj = .int .i64 jj ∧ vk = .int .u8 (2 ^ jj : Nat)) (fun _ vj => t - (intOf vj).toNat)
            case atStart => exact ⟨0, by omega, rfl, rfl⟩
            case round =>
              obtain ⟨jj, hjj, rfl, rfl⟩ := hrel
              by_cases hlj : jj < t
              · have h64 := pow_le_64 hlj ht8
                have k5 : decide ((jj : Int) < (t : Int)) = true := by simpa using hlj
                have hpw : 2 ^ jj * 2 = 2 ^ (jj + 1) := (Nat.pow_succ 2 jj).symm
                have HPW := Lib.hid hpw
                clear hpw
                generalize 2 ^ jj = kk at *
                go_wp2_with fail
                go_round
                case rel => exact ⟨jj + 1, by omega, by go_num, by rw [← HPW.out]; go_num⟩
                case measure => simp [intOf]; omega
              · obtain rfl : jj = t := by omega
                have k5 : decide ((jj : Int) < (jj : Int)) = false := by simp
                obtain ⟨kk, hkk⟩ : ∃ kk, 2 ^ jj = kk := ⟨_, rfl⟩
                rw [hkk] at hroom hp128 HSET
                rw [hkk]
                clear hkk
                go_wp2_with fail
                go_roundw
                case rel =>
                  refine ⟨k + 1, by omega, by have := HI.out; congr 1; omega, ?_, ?_, HB4'.out.setCell (by simp) _⟩
                  · rw [E2.out, HD2.out, if_pos HGE.out]
                  · rw [E2.out, HD1.out, if_pos HGE.out, show Q + Q + 1 = 2 * Q + 1 by omega, HSET.out]
                    have hh := HBK4.out.set (n - 1 - j) (UInt8.ofNat (D + kk))
                    rw [toNat_ofNat8, show (D + kk) % 256 = c + kk by have := HC.out; omega, Int.natCast_add] at hh
                    exact hh
                case measure => simp [intOf]
          · have hcm := lt_cmp (Nat.lt_of_not_le hge)
            have HORD := Lib.hid (fun w => r01_Order (r + r + 1) y w (by have := HS3.out; omega) (by have := HSY.out; omega))
            generalize cmpN (r + r + 1) y = cv at *
            have HGE := Lib.hid hge
            clear hge
            go_wp2_with (first | (go_at_call 92; (with_reducible refine (r01_Plus r r _ HSr.out HSr.out).mono ?_); rintro e w1 ⟨rfl, hb1⟩) | (go_at_call 93; (with_reducible refine (HON.out _).mono ?_); rintro e w' ⟨rfl, rfl⟩) | (go_at_call 92; (with_reducible refine (r01_Plus_one (r + r) _ HS2.out).mono ?_); rintro e w2 ⟨rfl, hb2⟩) | (go_at_call 76; (with_reducible refine (HORD.out _).mono ?_); rintro e w3 ⟨rfl, hb3⟩))
            go_roundw
            case rel =>
              have HB3 : Below w.heap.size w w3 := below2 (below2 (below2 hbel hb1) hb2) hb3
              have hbk3 : Bk w3 w.heap.size 5 (be n (Q * 2 ^ (i + 1))) := ((HBK.out.below hb1 HBK.out.lt).below hb2 (by have := hb1.size; have := HBK.out.lt; omega)).below hb3 (by have := hb1.size; have := hb2.size; have := HBK.out.lt; omega)
              refine ⟨k + 1, by omega, by have := HI.out; congr 1; omega, ?_, ?_, HB3⟩
              · rw [E2.out, HD2.out, if_neg (by have := HGE.out; omega)]
              · rw [E2.out, HD1.out, if_neg (by have := HGE.out; omega), Nat.add_zero, dbl]
                exact hbk3
            case measure => simp [intOf]
      · obtain rfl : k = N := by omega
        rw [Nat.sub_self, Nat.pow_zero, Nat.div_one, Nat.mul_one] at hbk
        rw [Nat.sub_self, Nat.pow_zero, Nat.div_one]
        have em : ((k : Int) - 1 - (k : Int)) = -1 := by omega
        rw [em]
        have HBK := Lib.hid hbk
        have HT := Lib.hid (trimL_be (show x / y < 256 ^ n from Nat.lt_of_le_of_lt (Nat.div_le_self _ _) HXP.out))
        clear hbk em
        go_wp2_with (first | (go_at_call 59; (refine (r01_trim' w.heap.size (be n (x / y)) n n _ _ (be_length _ _) (by omega) (by omega) HBK.out.row HT.out).mono ?_); rintro e w' ⟨rfl, rfl⟩))
        go_ret2
        exact ⟨rfl, hbel⟩

end Go.Proofs.YtlppcnjaacbhpaaGreatDoor
