/- The walk of the reference's package 06 (coins): attempt. -/
import Derived.Test.YteifbhmfjchfjaaGreatDoorCA
namespace Go.Proofs.YteifbhmfjchfjaaGreatDoor
open Go.RowKit
set_option maxRecDepth 100000
set_option linter.unusedVariables false
set_option maxHeartbeats 4000000

theorem r06_DecimalZ (z : Int) (w : World) (h0 : 0 ≤ z) (h1 : z ≤ 9223372036854775807) : Calls Tryz.prog 258 #[.int .i64 z] w fun e w' => e = .returned (.string (itS z)) ∧ Below w.heap.size w w' := by
  obtain ⟨n, rfl⟩ : ∃ n : Nat, z = (n : Int) := ⟨z.toNat, by omega⟩
  exact r06_Decimal n w (by omega)
theorem nil_app (s : ByteArray) : (⟨#[]⟩ : ByteArray) ++ s = s := (of_list (by rw [data_app]; rfl)).trans (of_list rfl).symm
theorem mod_half (b P : Nat) : (P ≤ b % (2 * P) → b % (2 * P) - P = b % P) ∧ (¬ P ≤ b % (2 * P) → b % (2 * P) = b % P) := by
  have e : b % (2 * P) % P = b % P := Nat.mod_mul_left_mod b 2 P
  have hlt : 0 < P → b % (2 * P) < 2 * P := fun h => Nat.mod_lt _ (by omega)
  generalize b % (2 * P) = r at *
  rw [← e]
  constructor
  · intro hp
    rcases Nat.eq_zero_or_pos P with h0 | h0
    · subst h0; simp
    · have h1 := hlt h0
      rw [Nat.mod_eq_sub_mod hp, Nat.mod_eq_of_lt (by omega)]
  · intro hp
    rw [Nat.mod_eq_of_lt (by omega)]
theorem r06_attempt (seed : ByteArray) (z a : Int) (len : Nat) (w : World) (hz0 : 0 ≤ z) (hz1 : z ≤ 2147483647) (ha0 : 0 ≤ a) (ha1 : a ≤ 1000) (hs : seed.size ≤ 100000) (hl0 : 1 ≤ len) (hl1 : len ≤ 64) :
    Calls Tryz.prog 214 #[.string seed, .int .i64 z, .int .i64 a, .int .i64 len] w fun e w' => e = .returned (.string (B (attN seed z a len))) ∧ Below w.heap.size w w' := by
  obtain ⟨M, hM⟩ : ∃ M, M = macS seed (nameS z a 0) := ⟨_, rfl⟩
  have hMz : M.size = 32 := by rw [hM]; exact macS_size _ _
  have hnz : (nameS z a 0).size ≤ 90000 := by
    have := itS_size z hz0 (by omega)
    have := itS_size a ha0 (by omega)
    have := itS_size 0 (by omega) (by omega)
    unfold nameS
    simp only [ByteArray.size_append]
    have e : (⟨#[46]⟩ : ByteArray).size = 1 := rfl
    omega
  have KM := fun w => r05_Mac seed (nameS z a 0) w hs hnz
  rw [← hM] at KM
  unfold nameS at KM
  have KZ := Lib.hid (fun w => r06_DecimalZ z w hz0 (by omega))
  have KA := Lib.hid (fun w => r06_DecimalZ a w ha0 (by omega))
  have K0 := Lib.hid (fun w => r06_DecimalZ 0 w (by omega) (by omega))
  have s1 := itS_size z hz0 (by omega)
  have s2 := itS_size a ha0 (by omega)
  have s3 := itS_size 0 (by omega) (by omega)
  obtain ⟨tz, htz⟩ : ∃ t, t = itS z := ⟨_, rfl⟩
  obtain ⟨ta, hta⟩ : ∃ t, t = itS a := ⟨_, rfl⟩
  obtain ⟨t0, ht0⟩ : ∃ t, t = itS 0 := ⟨_, rfl⟩
  rw [← htz] at KZ s1 KM
  rw [← hta] at KA s2 KM
  rw [← ht0] at K0 s3 KM
  have KM := Lib.hid KM
  obtain ⟨size, hsz⟩ : ∃ size, size = (len + 7) / 8 := ⟨_, rfl⟩
  have hs8 : 1 ≤ size ∧ size ≤ 8 := by omega
  have d1 : ((len : Int) + 7) / 8 = (size : Int) := by omega
  have d2 : Int.tdiv ((len : Int) + 7) 8 = (size : Int) := by rw [Int.tdiv_eq_ediv_of_nonneg (by omega)]; omega
  have p1 : (0 : Int) < (size : Int) := by omega
  have p2 : ¬ (32 : Int) < (size : Int) := by omega
  have w7 : wrap64 ((len : Int) + 7) = (len : Int) + 7 := IntWalk.wrap64_in _ (by omega)
  have w8 : wrap64 (size : Int) = (size : Int) := IntWalk.wrap64_in _ (by omega)
  have e1 := nil_app M
  have HSZ := Lib.hid hsz
  have HM := Lib.hid hM
  have HLEN := Lib.hid (And.intro hl0 hl1)
  have H8 := Lib.hid hs8
  clear htz hta ht0 hM hsz hnz hz0 hz1 ha0 ha1 hs hl0 hl1 hs8
  go_enter Tryz.func214, Tryz.ntmps214
  go_wp2_with fail
  refine wp_loop_rounds 2 ?_
  rw [rounds_succ]
  go_wp2_with (first
    | (go_at_call 258; (with_reducible refine (KZ.out _).mono ?_); rintro e w1 ⟨rfl, hb1⟩; have HB1 := Lib.hid hb1; clear hb1)
    | (go_at_call 258; (with_reducible refine (KA.out _).mono ?_); rintro e w2 ⟨rfl, hb2⟩; have HB2 := Lib.hid (HB1.out.trans (hb2.mono HB1.out.size)); clear hb2)
    | (go_at_call 258; (with_reducible refine (K0.out _).mono ?_); rintro e w3 ⟨rfl, hb3⟩; have HB3 := Lib.hid (HB2.out.trans (hb3.mono HB2.out.size)); clear hb3)
    | (go_at_call 257; (with_reducible refine (KM.out _).mono ?_); rintro e w4 ⟨rfl, hb4⟩; have HB4 := Lib.hid (HB3.out.trans (hb4.mono HB3.out.size)); clear hb4))
  rw [rounds_succ]
  obtain ⟨b, r, hbr, hrl⟩ : ∃ b r, M.data.toList = b :: r ∧ r.length = 31 := by
    have hl : M.data.toList.length = 32 := by rw [size_list, hMz]
    cases hm : M.data.toList with
    | nil => rw [hm] at hl; cases hl
    | cons b r => rw [hm] at hl; exact ⟨b, r, rfl, by simpa using hl⟩
  have hM0 : M[0]'(by rw [hMz]; decide) = b := by rw [← byte_get M 0 (by rw [hMz]; decide), hbr]; rfl
  have wb : wrap64 (b.toNat : Int) = (b.toNat : Int) := wrap64_byte b
  go_wp2_with fail
  clear w7 w8 d1 d2 p1 p2 e1
  obtain ⟨sh, hsh⟩ : ∃ sh, sh = 8 * size - len := ⟨_, rfl⟩
  have hsh2 : sh ≤ 7 ∧ 8 * size = len + sh := by have := HSZ.out; have := HLEN.out; omega
  have v3 : (8 * (size : Int) - (len : Int)) = (sh : Int) := by omega
  have q8 : (size : Int) ≤ 8 := by have := H8.out; omega
  have HSH := Lib.hid hsh2
  have HBR := Lib.hid hbr
  have HRL := Lib.hid hrl
  have WB := Lib.hid (show Value.int .i64 (wrap64 (b.toNat : Int)) = .int .i64 (b.toNat : Int) by rw [wb])
  clear wb
  obtain ⟨u1, u3, u4⟩ : wrap64 (8 * (size : Int)) = 8 * (size : Int) ∧ wrap64 (sh : Int) = (sh : Int) ∧ wrap64 (8 - (sh : Int)) = 8 - (sh : Int) := ⟨IntWalk.wrap64_in _ (by omega), IntWalk.wrap64_in _ (by omega), IntWalk.wrap64_in _ (by omega)⟩
  rw [WB.out]
  clear hsh hbr hrl hM0 s1 s2 s3 KZ KA K0 KM HB1 HB2 HB3
  go_loop [12, 13] (fun v12 v13 => ∃ (j F : Nat) (zi : Int), v12 = .int .i64 (F : Nat) ∧ v13 = .int .i64 zi ∧ zi = 7 - (j : Int) ∧ F = b.toNat % 2 ^ (8 - j) ∧ j ≤ sh) (fun _ v => (intOf v + 1).toNat)
  case atStart => exact ⟨0, b.toNat, 7, rfl, rfl, rfl, (Nat.mod_eq_of_lt (byte_lt b)).symm, Nat.zero_le _⟩
  case round =>
    obtain ⟨j, F, zi, rfl, rfl, hzi, hF, hj⟩ := hrel
    by_cases hlt : j < sh
    · obtain ⟨k, hk⟩ : ∃ k, k = 7 - j := ⟨_, rfl⟩
      obtain ⟨P, hP⟩ : ∃ P, P = 2 ^ k := ⟨_, rfl⟩
      have h2 := hsh2.1
      have hF2 : F = b.toNat % (2 * P) := by rw [hF, hP, show 8 - j = k + 1 by omega, Nat.pow_succ, Nat.mul_comm]
      have hnext : 8 - (j + 1) = k := by omega
      have hmod := mod_half b.toNat P
      rw [← hF2] at hmod
      have hk7 : k = 1 ∨ k = 2 ∨ k = 3 ∨ k = 4 ∨ k = 5 ∨ k = 6 ∨ k = 7 := by omega
      have hF256 : F < 256 := by rw [hF]; exact Nat.lt_of_le_of_lt (Nat.mod_le _ _) (byte_lt b)
      have HJ : Hid (∀ Fn : Nat, Fn = b.toNat % P → Fn = b.toNat % 2 ^ (8 - (j + 1))) := Lib.hid (fun Fn h => by rw [h, hnext, hP])
      have HLT := Lib.hid hlt
      have HJK := Lib.hid (show j + k = 7 by omega)
      clear hF hF2 hnext hj hlt h2 hk
      obtain rfl | rfl | rfl | rfl | rfl | rfl | rfl := hk7
      · obtain rfl : P = 2 := by rw [hP]
        obtain rfl : zi = 1 := by have := HJK.out; omega
        have HWR : Hid (2 ≤ F → Value.int .i64 (wrap64 ((F : Int) - 2)) = .int .i64 ((F - 2 : Nat) : Int)) := Lib.hid (fun h => by rw [IntWalk.wrap64_in _ (by omega)]; congr 1; omega)
        have g1 : decide (8 - (sh : Int) ≤ 1) = true := decide_eq_true (by have := HJK.out; have := HLT.out; omega)
        by_cases hge : 2 ≤ F
        · have g2 : decide ((2 : Int) ≤ (F : Int)) = true := decide_eq_true (by omega)
          have HG := Lib.hid hge
          have HM1 := Lib.hid (hmod.1 hge)
          clear hge hmod hP hF256 hzi
          go_wp2_with fail
          go_round
          case rel => exact ⟨j + 1, F - 2, 0, HWR.out HG.out, rfl, by have := HJK.out; omega, HJ.out _ HM1.out, HLT.out⟩
          case measure => decide
        · have g2 : decide ((2 : Int) ≤ (F : Int)) = false := decide_eq_false (by omega)
          have HM1 := Lib.hid (hmod.2 hge)
          clear hge hmod hP hF256 hzi
          go_wp2_with fail
          go_round
          case rel => exact ⟨j + 1, F, 0, rfl, rfl, by have := HJK.out; omega, HJ.out _ HM1.out, HLT.out⟩
          case measure => decide
      · obtain rfl : P = 4 := by rw [hP]
        obtain rfl : zi = 2 := by have := HJK.out; omega
        have HWR : Hid (4 ≤ F → Value.int .i64 (wrap64 ((F : Int) - 4)) = .int .i64 ((F - 4 : Nat) : Int)) := Lib.hid (fun h => by rw [IntWalk.wrap64_in _ (by omega)]; congr 1; omega)
        have g1 : decide (8 - (sh : Int) ≤ 2) = true := decide_eq_true (by have := HJK.out; have := HLT.out; omega)
        by_cases hge : 4 ≤ F
        · have g2 : decide ((4 : Int) ≤ (F : Int)) = true := decide_eq_true (by omega)
          have HG := Lib.hid hge
          have HM1 := Lib.hid (hmod.1 hge)
          clear hge hmod hP hF256 hzi
          go_wp2_with fail
          go_round
          case rel => exact ⟨j + 1, F - 4, 1, HWR.out HG.out, rfl, by have := HJK.out; omega, HJ.out _ HM1.out, HLT.out⟩
          case measure => decide
        · have g2 : decide ((4 : Int) ≤ (F : Int)) = false := decide_eq_false (by omega)
          have HM1 := Lib.hid (hmod.2 hge)
          clear hge hmod hP hF256 hzi
          go_wp2_with fail
          go_round
          case rel => exact ⟨j + 1, F, 1, rfl, rfl, by have := HJK.out; omega, HJ.out _ HM1.out, HLT.out⟩
          case measure => decide
      · obtain rfl : P = 8 := by rw [hP]
        obtain rfl : zi = 3 := by have := HJK.out; omega
        have HWR : Hid (8 ≤ F → Value.int .i64 (wrap64 ((F : Int) - 8)) = .int .i64 ((F - 8 : Nat) : Int)) := Lib.hid (fun h => by rw [IntWalk.wrap64_in _ (by omega)]; congr 1; omega)
        have g1 : decide (8 - (sh : Int) ≤ 3) = true := decide_eq_true (by have := HJK.out; have := HLT.out; omega)
        by_cases hge : 8 ≤ F
        · have g2 : decide ((8 : Int) ≤ (F : Int)) = true := decide_eq_true (by omega)
          have HG := Lib.hid hge
          have HM1 := Lib.hid (hmod.1 hge)
          clear hge hmod hP hF256 hzi
          go_wp2_with fail
          go_round
          case rel => exact ⟨j + 1, F - 8, 2, HWR.out HG.out, rfl, by have := HJK.out; omega, HJ.out _ HM1.out, HLT.out⟩
          case measure => decide
        · have g2 : decide ((8 : Int) ≤ (F : Int)) = false := decide_eq_false (by omega)
          have HM1 := Lib.hid (hmod.2 hge)
          clear hge hmod hP hF256 hzi
          go_wp2_with fail
          go_round
          case rel => exact ⟨j + 1, F, 2, rfl, rfl, by have := HJK.out; omega, HJ.out _ HM1.out, HLT.out⟩
          case measure => decide
      · obtain rfl : P = 16 := by rw [hP]
        obtain rfl : zi = 4 := by have := HJK.out; omega
        have HWR : Hid (16 ≤ F → Value.int .i64 (wrap64 ((F : Int) - 16)) = .int .i64 ((F - 16 : Nat) : Int)) := Lib.hid (fun h => by rw [IntWalk.wrap64_in _ (by omega)]; congr 1; omega)
        have g1 : decide (8 - (sh : Int) ≤ 4) = true := decide_eq_true (by have := HJK.out; have := HLT.out; omega)
        by_cases hge : 16 ≤ F
        · have g2 : decide ((16 : Int) ≤ (F : Int)) = true := decide_eq_true (by omega)
          have HG := Lib.hid hge
          have HM1 := Lib.hid (hmod.1 hge)
          clear hge hmod hP hF256 hzi
          go_wp2_with fail
          go_round
          case rel => exact ⟨j + 1, F - 16, 3, HWR.out HG.out, rfl, by have := HJK.out; omega, HJ.out _ HM1.out, HLT.out⟩
          case measure => decide
        · have g2 : decide ((16 : Int) ≤ (F : Int)) = false := decide_eq_false (by omega)
          have HM1 := Lib.hid (hmod.2 hge)
          clear hge hmod hP hF256 hzi
          go_wp2_with fail
          go_round
          case rel => exact ⟨j + 1, F, 3, rfl, rfl, by have := HJK.out; omega, HJ.out _ HM1.out, HLT.out⟩
          case measure => decide
      · obtain rfl : P = 32 := by rw [hP]
        obtain rfl : zi = 5 := by have := HJK.out; omega
        have HWR : Hid (32 ≤ F → Value.int .i64 (wrap64 ((F : Int) - 32)) = .int .i64 ((F - 32 : Nat) : Int)) := Lib.hid (fun h => by rw [IntWalk.wrap64_in _ (by omega)]; congr 1; omega)
        have g1 : decide (8 - (sh : Int) ≤ 5) = true := decide_eq_true (by have := HJK.out; have := HLT.out; omega)
        by_cases hge : 32 ≤ F
        · have g2 : decide ((32 : Int) ≤ (F : Int)) = true := decide_eq_true (by omega)
          have HG := Lib.hid hge
          have HM1 := Lib.hid (hmod.1 hge)
          clear hge hmod hP hF256 hzi
          go_wp2_with fail
          go_round
          case rel => exact ⟨j + 1, F - 32, 4, HWR.out HG.out, rfl, by have := HJK.out; omega, HJ.out _ HM1.out, HLT.out⟩
          case measure => decide
        · have g2 : decide ((32 : Int) ≤ (F : Int)) = false := decide_eq_false (by omega)
          have HM1 := Lib.hid (hmod.2 hge)
          clear hge hmod hP hF256 hzi
          go_wp2_with fail
          go_round
          case rel => exact ⟨j + 1, F, 4, rfl, rfl, by have := HJK.out; omega, HJ.out _ HM1.out, HLT.out⟩
          case measure => decide
      · obtain rfl : P = 64 := by rw [hP]
        obtain rfl : zi = 6 := by have := HJK.out; omega
        have HWR : Hid (64 ≤ F → Value.int .i64 (wrap64 ((F : Int) - 64)) = .int .i64 ((F - 64 : Nat) : Int)) := Lib.hid (fun h => by rw [IntWalk.wrap64_in _ (by omega)]; congr 1; omega)
        have g1 : decide (8 - (sh : Int) ≤ 6) = true := decide_eq_true (by have := HJK.out; have := HLT.out; omega)
        by_cases hge : 64 ≤ F
        · have g2 : decide ((64 : Int) ≤ (F : Int)) = true := decide_eq_true (by omega)
          have HG := Lib.hid hge
          have HM1 := Lib.hid (hmod.1 hge)
          clear hge hmod hP hF256 hzi
          go_wp2_with fail
          go_round
          case rel => exact ⟨j + 1, F - 64, 5, HWR.out HG.out, rfl, by have := HJK.out; omega, HJ.out _ HM1.out, HLT.out⟩
          case measure => decide
        · have g2 : decide ((64 : Int) ≤ (F : Int)) = false := decide_eq_false (by omega)
          have HM1 := Lib.hid (hmod.2 hge)
          clear hge hmod hP hF256 hzi
          go_wp2_with fail
          go_round
          case rel => exact ⟨j + 1, F, 5, rfl, rfl, by have := HJK.out; omega, HJ.out _ HM1.out, HLT.out⟩
          case measure => decide
      · obtain rfl : P = 128 := by rw [hP]
        obtain rfl : zi = 7 := by have := HJK.out; omega
        have HWR : Hid (128 ≤ F → Value.int .i64 (wrap64 ((F : Int) - 128)) = .int .i64 ((F - 128 : Nat) : Int)) := Lib.hid (fun h => by rw [IntWalk.wrap64_in _ (by omega)]; congr 1; omega)
        have g1 : decide (8 - (sh : Int) ≤ 7) = true := decide_eq_true (by have := HJK.out; have := HLT.out; omega)
        by_cases hge : 128 ≤ F
        · have g2 : decide ((128 : Int) ≤ (F : Int)) = true := decide_eq_true (by omega)
          have HG := Lib.hid hge
          have HM1 := Lib.hid (hmod.1 hge)
          clear hge hmod hP hF256 hzi
          go_wp2_with fail
          go_round
          case rel => exact ⟨j + 1, F - 128, 6, HWR.out HG.out, rfl, by have := HJK.out; omega, HJ.out _ HM1.out, HLT.out⟩
          case measure => decide
        · have g2 : decide ((128 : Int) ≤ (F : Int)) = false := decide_eq_false (by omega)
          have HM1 := Lib.hid (hmod.2 hge)
          clear hge hmod hP hF256 hzi
          go_wp2_with fail
          go_round
          case rel => exact ⟨j + 1, F, 6, rfl, rfl, by have := HJK.out; omega, HJ.out _ HM1.out, HLT.out⟩
          case measure => decide
    · obtain rfl : j = sh := by omega
      have g1 : decide (8 - (j : Int) ≤ zi) = false := decide_eq_false (by omega)
      obtain ⟨c, hc⟩ : ∃ c, c = UInt8.ofNat F := ⟨_, rfl⟩
      have hFl : F < 256 := by rw [hF]; exact Nat.lt_of_le_of_lt (Nat.mod_le _ _) (byte_lt b)
      have f1 : (F : Int) % 256 = (c.toNat : Int) := by rw [hc, UInt8.toNat_ofNat']; omega
      have f2 : IntKind.u8.wrap (F : Int) = (c.toNat : Int) := by rw [IntKind.wrap_u8]; exact f1
      obtain ⟨X, hX⟩ : ∃ X : ByteArray, X = ⟨#[c]⟩ ++ M.extract 1 size := ⟨_, rfl⟩
      have s8 := H8.out
      have hXz : X.size ≤ 100000 := by
        rw [hX, ByteArray.size_append, ByteArray.size_extract]
        have e : (⟨#[c]⟩ : ByteArray).size = 1 := rfl
        omega
      have hXn : num X = attN seed z a len := by
        have h1 := att_val seed z a len size j b r (by show (macS seed (nameS z a 0)).data.toList = _; rw [← HM.out]; exact HBR.out) HRL.out HSZ.out s8.1 (by omega) hsh2.2 hsh2.1
        rw [← h1, ← hF, ← hc]
        unfold num
        rw [hX, data_app, show M.extract 1 size = M.extract 1 (1 + (size - 1)) by congr 1; omega, str_mid M 1 (size - 1) (by omega), HBR.out]
        congr 1
        rw [show size = (size - 1) + 1 by omega]
        rfl
      have KC := fun w => r06_canonical X w hXz
      rw [hXn, hX] at KC
      have KC := Lib.hid KC
      have g2 : (1 : Int) ≤ (size : Int) := by omega
      have g3 : (size : Int) ≤ 32 := by omega
      have g4 : (M.extract 1 size).size ≤ 100 := by rw [ByteArray.size_extract]; omega
      have hcv : (convert 177 9 (.slice (some ⟨w4.heap.size, 0, none⟩) 1 1)).run Tryz.prog (w4.alloc (.cells #[.int .u8 c.toNat] 5)).drew = .ok (.string ⟨#[c]⟩) (w4.alloc (.cells #[.int .u8 c.toNat] 5)).drew :=
        conv_str (w := (w4.alloc (.cells #[.int .u8 c.toNat] 5)).drew) (row_one w4 c _ rfl 5) 1 1 rfl
      clear hlt hj hc hFl hX hXz hXn hF hzi hsh2
      go_wp2_with fail
      go_region_with (go_at_call 259; (with_reducible refine (KC.out _).mono ?_); rintro e w9 ⟨rfl, rfl⟩)
      all_goals
        go_wp2_with fail
        go_ret
        exact ⟨rfl, (HB4.out.alloc HB4.out.size _).drew⟩

end Go.Proofs.YteifbhmfjchfjaaGreatDoor
