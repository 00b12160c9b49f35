/- The walks of the reference's Prime and SafePrime (package 11). -/
import Derived.Test.YtdajbcohmnmbpaaGreatDoorCF
namespace Go.Proofs.YtdajbcohmnmbpaaGreatDoor
open Go.RowKit
set_option maxRecDepth 100000
set_option linter.unusedVariables false
set_option maxHeartbeats 4000000

theorem r11_Prime (bits : Int) (vals : List ByteArray) (A : Option Addr) (n c : Nat) (seed : ByteArray) (z : Int) (w : World) (hn : vals.length = n) (hm : n ≤ 1000) (h : SLs w w.heap.size A vals) (hs : seed.size ≤ 100000) :
    Calls Tryz.prog 51 #[.int .i64 bits, .agg #[.slice A n c, .string seed, .int .i64 z]] w fun e w' => searchPostR w.heap.size (primeD bits vals seed z) n seed vals e w' ∧ Below w.heap.size w w' := by
  have KG := Lib.hid (fun wq (h1 : Below w.heap.size w wq) => r06_Good vals A n c seed z wq hn (Nat.le_trans hm (by decide)) ((h.below h1).more h1.size))
  have HA0 := Lib.hid (AtS.start w A n c seed z)
  cases hg : goodT vals z
  · have hd : primeD bits vals seed z = (3, 0, 0) := by unfold primeD; rw [hg, if_neg (by decide)]
    rw [hg] at KG
    rw [hd]
    clear hn h hg hd
    go_enter Tryz.func51, Tryz.ntmps51
    go_wp2_with (first | (go_at_call 50; (with_reducible refine (KG.out _ HA0.out.a.bel).mono ?_); rintro e w1 ⟨rfl, hb1⟩; have HA1 := Lib.hid (HA0.out.next hb1); obtain ⟨r0, r1, r2, g0, g1, g2⟩ := HA1.out.a.r0; clear hb1))
    refine bodyPost_ret (v := .tuple #[.string ⟨#[]⟩, .agg #[.slice none 0 0, .string ⟨#[]⟩, .int .i64 0], .int .i64 3]) (by simp [results, Tryz.results51, go_sem, r0, r1, r2]) rfl ⟨.inr ⟨by decide, rfl⟩, HA1.out.a.bel3⟩
  · rw [hg] at KG
    by_cases hb : 2 ≤ bits ∧ bits ≤ 60
    · have hd : primeD bits vals seed z = searchS vals seed (2 ^ (bits.toNat - 1)) (tryP bits.toNat) 65536 z := by unfold primeD; rw [if_pos hg, if_pos hb]
      obtain ⟨b, hbn⟩ : ∃ b : Nat, bits = (b : Int) := ⟨bits.toNat, by omega⟩
      subst hbn
      have e : ((b : Nat) : Int).toNat = b := by omega
      rw [e] at hd
      obtain ⟨k, hk⟩ : ∃ k, k = b - 1 := ⟨_, rfl⟩
      rw [← hk] at hd
      have HDH := Lib.hid hd
      clear hd
      obtain ⟨k1, hk1⟩ : ∃ k1, k1 = b - 1 := ⟨_, rfl⟩
      have q1 : (b : Int) - 1 = (k1 : Int) := by omega
      have q2 : wrap64 (k1 : Int) = (k1 : Int) := IntWalk.wrap64_in _ (by omega)
      have Q1 : Hid (IntKind.i64.wrap ((b - 1 : Nat) : Int) = (k1 : Int)) := Lib.hid (by rw [← hk1]; first | exact q2 | (rw [IntKind.wrap_i64]; omega) | (unfold IntKind.wrap; exact q2) | (simp [IntKind.wrap]; omega) | (simp [go_sem]; omega))
      have hkk : k = k1 := by rw [hk, hk1]
      subst hkk
      have HK : Hid (b - 1 = k) := Lib.hid hk.symm
      have p1 : decide ((b : Int) < 2) = false := by rw [decide_eq_false_iff_not]; omega
      have p2 : decide ((60 : Int) < (b : Int)) = false := by rw [decide_eq_false_iff_not]; omega
      have hp59 : 2 ^ k ≤ 2 ^ 59 := Nat.pow_le_pow_right (by decide) (by omega)
      rw [show (2 : Nat) ^ 59 = 576460752303423488 by decide] at hp59
      obtain ⟨F, hF⟩ : ∃ F, F = 2 ^ k := ⟨_, rfl⟩
      have hf : ∀ x : Nat, x < 2 ^ k → F + 1 * x < 18446744073709551616 ∧ tryP b x = (F + 1 * x, isS (F + 1 * x) && (!false || isS ((F + 1 * x) / 2))) := by
        intro x hx
        have hx' : x < 2 ^ k := hx
        refine ⟨by omega, ?_⟩
        unfold tryP
        rw [← hk, hF, Nat.one_mul]
        simp
      have KPW := Lib.hid (fun w => r11_power k w (by omega))
      have hF64 : F < 18446744073709551616 := by omega
      have hk59 : k ≤ 59 := by omega
      have hd := HDH.out
      have KS := Lib.hid (fun wq (h1 : AtS w wq A n c seed z) => (show Calls Tryz.prog 118 #[.int .i64 k, .int .u64 F, .int .u64 1, .bool false, .agg #[.slice A n c, .string seed, .int .i64 z]] wq (fun e w' => searchPostR wq.heap.size (searchS vals seed (2 ^ k) (tryP b) 65536 z) n seed vals e w' ∧ Below wq.heap.size wq w') from r11_search vals A n c seed z k F 1 false (tryP b) wq hn hm ((h.below h1.a.bel).more h1.a.bel.size) hk59 hs hf))
      obtain ⟨d, hdd⟩ : ∃ d, d = searchS vals seed (2 ^ k) (tryP b) 65536 z := ⟨_, rfl⟩
      rw [← hdd] at KS hd
      have HDX := Lib.hid hd
      have HprimeDX := Lib.hid hdd
      clear HDH hd hdd
      rw [HDX.out]
      obtain ⟨P, hP⟩ : ∃ P, P = 2 ^ k := ⟨_, rfl⟩
      rw [← hP] at KPW
      rw [← hP] at hF
      subst hF
      by_cases h0 : d.1 = 0
      · have KS := Lib.hid (fun wq (h1 : AtS w wq A n c seed z) => (KS.out wq h1).mono (R' := fun e w' => (∃ A' c', e = .returned (.tuple #[.string (B d.2.1), .agg #[.slice A' n c', .string seed, .int .i64 d.2.2], .int .i64 0]) ∧ SLs w' w'.heap.size A' vals ∧ ∀ a, A' = some a → wq.heap.size ≤ a.block) ∧ Below wq.heap.size wq w') (by
          rintro e w' ⟨⟨_, hp⟩ | ⟨h, _⟩, hb⟩
          · exact ⟨hp, hb⟩
          · exact absurd h0 h))
        have H0 := Lib.hid h0
        clear hn h hg hb hf hF64 hk59 hp59 hk e hs hm hP h0
        go_enter Tryz.func51, Tryz.ntmps51
        go_wp2_with (first
          | (go_at_call 50; (with_reducible refine (KG.out _ HA0.out.a.bel).mono ?_); rintro e w1 ⟨rfl, hb1⟩; have HA1 := Lib.hid (HA0.out.next hb1); obtain ⟨t0, t1, t2, _, _⟩ := HA1.out.a; clear hb1))
        go_region_held3 (fun w' => w'.cell? ⟨w.heap.size, 0, none⟩ = some (.slice A n c) ∧ w'.cell? ⟨w.heap.size, 1, none⟩ = some (.string seed) ∧ w'.cell? ⟨w.heap.size, 2, none⟩ = some (.int .i64 z)) (first | go_keep) (first
          | (go_at_call 119; (try simp only [Q1.out]); (try simp only [HK.out]); (with_reducible refine (KPW.out _).mono ?_); rintro e w5 ⟨rfl, rfl⟩)
          | (go_at_call 118; (try simp only [Q1.out]); (try simp only [HK.out]); (with_reducible refine (KS.out _ (HA1.out.next (Below.refl _ _).drew)).mono ?_); rintro e w2 ⟨⟨A', c', rfl, hsl, hfr⟩, hb2⟩
             have HA2 := Lib.hid ((HA1.out.next (Below.refl _ _).drew).next hb2)
             have HSL := Lib.hid hsl
             have HFR := Lib.hid hfr
             obtain ⟨t0, t1, t2, _, _⟩ := HA2.out.a
             obtain ⟨r0, r1, r2, g0, g1, g2⟩ := HA2.out.a.r0
             clear hb2 hsl hfr))
        all_goals go_wp2_with fail
        refine bodyPost_ret (v := .tuple #[.string (B d.2.1), .agg #[.slice A' n c', .string seed, .int .i64 d.2.2], .int .i64 0]) (by simp [results, Tryz.results51, go_sem, r0, r1, r2]) rfl ⟨?_, HA2.out.a.bel3⟩
        have hlow : w.heap.size + 2 ≤ w1.drew.heap.size := HA1.out.two
        refine .inl ⟨H0.out, A', c', rfl, ?_, fun a e => by have := HFR.out a e; omega⟩
        have hfar := SLs.far (b := w.heap.size + 1) (x := .slice A' n c') (y := .string seed) (t := .int .i64 d.2.2) HSL.out (fun a e => by have := HFR.out a e; omega)
        exact hfar.more (by simp)
      · have KS := Lib.hid (fun wq (h1 : AtS w wq A n c seed z) => (KS.out wq h1).mono (R' := fun e w' => e = .returned (.tuple #[.string ⟨#[]⟩, .agg #[.slice none 0 0, .string ⟨#[]⟩, .int .i64 0], .int .i64 d.1]) ∧ Below wq.heap.size wq w') (by
          rintro e w' ⟨⟨h, _⟩ | ⟨_, hp⟩, hb⟩
          · exact absurd h h0
          · exact ⟨hp, hb⟩))
        have H0 := Lib.hid h0
        clear hn h hg hb hf hF64 hk59 hp59 hk e hs hm hP h0
        go_enter Tryz.func51, Tryz.ntmps51
        go_wp2_with (first
          | (go_at_call 50; (with_reducible refine (KG.out _ HA0.out.a.bel).mono ?_); rintro e w1 ⟨rfl, hb1⟩; have HA1 := Lib.hid (HA0.out.next hb1); obtain ⟨t0, t1, t2, _, _⟩ := HA1.out.a; clear hb1))
        go_region_held3 (fun w' => w'.cell? ⟨w.heap.size, 0, none⟩ = some (.slice A n c) ∧ w'.cell? ⟨w.heap.size, 1, none⟩ = some (.string seed) ∧ w'.cell? ⟨w.heap.size, 2, none⟩ = some (.int .i64 z)) (first | go_keep) (first
          | (go_at_call 119; (try simp only [Q1.out]); (try simp only [HK.out]); (with_reducible refine (KPW.out _).mono ?_); rintro e w5 ⟨rfl, rfl⟩)
          | (go_at_call 118; (try simp only [Q1.out]); (try simp only [HK.out]); (with_reducible refine (KS.out _ (HA1.out.next (Below.refl _ _).drew)).mono ?_); rintro e w2 ⟨rfl, hb2⟩
             have HA2 := Lib.hid ((HA1.out.next (Below.refl _ _).drew).next hb2)
             obtain ⟨t0, t1, t2, _, _⟩ := HA2.out.a
             obtain ⟨r0, r1, r2, g0, g1, g2⟩ := HA2.out.a.r0
             clear hb2))
        all_goals go_wp2_with fail
        refine bodyPost_ret (v := .tuple #[.string ⟨#[]⟩, .agg #[.slice none 0 0, .string ⟨#[]⟩, .int .i64 0], .int .i64 d.1]) (by simp [results, Tryz.results51, go_sem, r0, r1, r2]) rfl ⟨.inr ⟨H0.out, rfl⟩, HA2.out.a.bel3⟩
    · have hd : primeD bits vals seed z = (2, 0, 0) := by unfold primeD; rw [if_pos hg, if_neg hb]
      rw [hd]
      by_cases hlo : bits < 2
      · have p1 : decide (bits < 2) = true := decide_eq_true hlo
        clear hn h hg hd hb hlo
        go_enter Tryz.func51, Tryz.ntmps51
        go_wp2_with (first | (go_at_call 50; (with_reducible refine (KG.out _ HA0.out.a.bel).mono ?_); rintro e w1 ⟨rfl, hb1⟩; have HA1 := Lib.hid (HA0.out.next hb1); obtain ⟨r0, r1, r2, g0, g1, g2⟩ := HA1.out.a.r0; clear hb1))
        refine bodyPost_ret (v := .tuple #[.string ⟨#[]⟩, .agg #[.slice none 0 0, .string ⟨#[]⟩, .int .i64 0], .int .i64 2]) (by simp [results, Tryz.results51, go_sem, r0, r1, r2]) rfl ⟨.inr ⟨by decide, rfl⟩, HA1.out.a.bel3⟩
      · have p1 : decide (bits < 2) = false := decide_eq_false hlo
        have p2 : decide ((60 : Int) < bits) = true := by rw [decide_eq_true_eq]; omega
        clear hn h hg hd hb hlo
        go_enter Tryz.func51, Tryz.ntmps51
        go_wp2_with (first | (go_at_call 50; (with_reducible refine (KG.out _ HA0.out.a.bel).mono ?_); rintro e w1 ⟨rfl, hb1⟩; have HA1 := Lib.hid (HA0.out.next hb1); obtain ⟨r0, r1, r2, g0, g1, g2⟩ := HA1.out.a.r0; clear hb1))
        refine bodyPost_ret (v := .tuple #[.string ⟨#[]⟩, .agg #[.slice none 0 0, .string ⟨#[]⟩, .int .i64 0], .int .i64 2]) (by simp [results, Tryz.results51, go_sem, r0, r1, r2]) rfl ⟨.inr ⟨by decide, rfl⟩, HA1.out.a.bel3⟩
theorem r11_SafePrime (bits : Int) (vals : List ByteArray) (A : Option Addr) (n c : Nat) (seed : ByteArray) (z : Int) (w : World) (hn : vals.length = n) (hm : n ≤ 1000) (h : SLs w w.heap.size A vals) (hs : seed.size ≤ 100000) :
    Calls Tryz.prog 56 #[.int .i64 bits, .agg #[.slice A n c, .string seed, .int .i64 z]] w fun e w' => searchPostR w.heap.size (safeD bits vals seed z) n seed vals e w' ∧ Below w.heap.size w w' := by
  have KG := Lib.hid (fun wq (h1 : Below w.heap.size w wq) => r06_Good vals A n c seed z wq hn (Nat.le_trans hm (by decide)) ((h.below h1).more h1.size))
  have HA0 := Lib.hid (AtS.start w A n c seed z)
  cases hg : goodT vals z
  · have hd : safeD bits vals seed z = (3, 0, 0) := by unfold safeD; rw [hg, if_neg (by decide)]
    rw [hg] at KG
    rw [hd]
    clear hn h hg hd
    go_enter Tryz.func56, Tryz.ntmps56
    go_wp2_with (first | (go_at_call 50; (with_reducible refine (KG.out _ HA0.out.a.bel).mono ?_); rintro e w1 ⟨rfl, hb1⟩; have HA1 := Lib.hid (HA0.out.next hb1); obtain ⟨r0, r1, r2, g0, g1, g2⟩ := HA1.out.a.r0; clear hb1))
    refine bodyPost_ret (v := .tuple #[.string ⟨#[]⟩, .agg #[.slice none 0 0, .string ⟨#[]⟩, .int .i64 0], .int .i64 3]) (by simp [results, Tryz.results56, go_sem, r0, r1, r2]) rfl ⟨.inr ⟨by decide, rfl⟩, HA1.out.a.bel3⟩
  · rw [hg] at KG
    by_cases hb : 3 ≤ bits ∧ bits ≤ 60
    · have hd : safeD bits vals seed z = searchS vals seed (2 ^ (bits.toNat - 2)) (tryQ bits.toNat) 65536 z := by unfold safeD; rw [if_pos hg, if_pos hb]
      obtain ⟨b, hbn⟩ : ∃ b : Nat, bits = (b : Int) := ⟨bits.toNat, by omega⟩
      subst hbn
      have e : ((b : Nat) : Int).toNat = b := by omega
      rw [e] at hd
      obtain ⟨k, hk⟩ : ∃ k, k = b - 2 := ⟨_, rfl⟩
      rw [← hk] at hd
      have HDH := Lib.hid hd
      clear hd
      obtain ⟨k1, hk1⟩ : ∃ k1, k1 = b - 1 := ⟨_, rfl⟩
      have q1 : (b : Int) - 1 = (k1 : Int) := by omega
      have q2 : wrap64 (k1 : Int) = (k1 : Int) := IntWalk.wrap64_in _ (by omega)
      have Q1 : Hid (IntKind.i64.wrap ((b - 1 : Nat) : Int) = (k1 : Int)) := Lib.hid (by rw [← hk1]; first | exact q2 | (rw [IntKind.wrap_i64]; omega) | (unfold IntKind.wrap; exact q2) | (simp [IntKind.wrap]; omega) | (simp [go_sem]; omega))
      have QB1 : Hid (IntKind.i64.wrap (k1 : Int) = (k1 : Int)) := Lib.hid (by clear q2; rw [IntKind.wrap_i64]; omega)
      have QB2 : Hid (IntKind.i64.wrap (k : Int) = (k : Int)) := Lib.hid (by clear q2; rw [IntKind.wrap_i64]; omega)
      have HQ2 := Lib.hid q2
      clear q2
      have q3 : (b : Int) - 2 = (k : Int) := by omega
      have HQ4 := Lib.hid (show wrap64 (k : Int) = (k : Int) from IntWalk.wrap64_in _ (by omega))
      have HK : Hid (b - 2 = k) := Lib.hid hk.symm
      have p1 : decide ((b : Int) < 3) = false := by rw [decide_eq_false_iff_not]; omega
      have p2 : decide ((60 : Int) < (b : Int)) = false := by rw [decide_eq_false_iff_not]; omega
      have hp59 : 2 ^ k1 ≤ 2 ^ 59 := Nat.pow_le_pow_right (by decide) (by omega)
      rw [show (2 : Nat) ^ 59 = 576460752303423488 by decide] at hp59
      obtain ⟨A0, hA0⟩ : ∃ a, a = 2 ^ k1 := ⟨_, rfl⟩
      obtain ⟨K0, hK0⟩ : ∃ a, a = 2 ^ k := ⟨_, rfl⟩
      have hAK : A0 = 2 * K0 := by rw [hA0, hK0, show k1 = k + 1 by omega, Nat.pow_succ, Nat.mul_comm]
      rw [← hA0] at hp59
      have HA00 := Lib.hid hA0
      have HK00 := Lib.hid hK0
      clear hA0 hK0
      obtain ⟨F, hF⟩ : ∃ F, F = A0 + 1 := ⟨_, rfl⟩
      have hf : ∀ x : Nat, x < 2 ^ k → F + 2 * x < 18446744073709551616 ∧ tryQ b x = (F + 2 * x, isS (F + 2 * x) && (!true || isS ((F + 2 * x) / 2))) := by
        intro x hx
        rw [← HK00.out] at hx
        refine ⟨by omega, ?_⟩
        have e1 : F + 2 * x = 2 * (K0 + x) + 1 := by omega
        have e2 : (F + 2 * x) / 2 = K0 + x := by omega
        unfold tryQ
        rw [← hk, ← HK00.out, e2, e1]
        simp [Bool.and_comm]
      have KPW := Lib.hid (fun w => r11_power k1 w (by omega))
      have hF64 : F < 18446744073709551616 := by omega
      have hk59 : k ≤ 59 := by omega
      have hd := HDH.out
      have KS := Lib.hid (fun wq (h1 : AtS w wq A n c seed z) => (show Calls Tryz.prog 118 #[.int .i64 k, .int .u64 F, .int .u64 2, .bool true, .agg #[.slice A n c, .string seed, .int .i64 z]] wq (fun e w' => searchPostR wq.heap.size (searchS vals seed (2 ^ k) (tryQ b) 65536 z) n seed vals e w' ∧ Below wq.heap.size wq w') from r11_search vals A n c seed z k F 2 true (tryQ b) wq hn hm ((h.below h1.a.bel).more h1.a.bel.size) hk59 hs hf))
      obtain ⟨d, hdd⟩ : ∃ d, d = searchS vals seed (2 ^ k) (tryQ b) 65536 z := ⟨_, rfl⟩
      rw [← hdd] at KS hd
      have HDX := Lib.hid hd
      have HsafeDX := Lib.hid hdd
      clear HDH hd hdd
      rw [HDX.out]
      obtain ⟨P, hP⟩ : ∃ P, P = 2 ^ k1 := ⟨_, rfl⟩
      rw [← hP] at KPW
      have hPA : P = A0 := by rw [hP, HA00.out]
      have q5 : IntKind.u64.wrap ((P : Int) + 1) = (F : Int) := by rw [IntKind.wrap_u64]; omega
      clear hPA hAK HA00 HK00
      by_cases h0 : d.1 = 0
      · have KS := Lib.hid (fun wq (h1 : AtS w wq A n c seed z) => (KS.out wq h1).mono (R' := fun e w' => (∃ A' c', e = .returned (.tuple #[.string (B d.2.1), .agg #[.slice A' n c', .string seed, .int .i64 d.2.2], .int .i64 0]) ∧ SLs w' w'.heap.size A' vals ∧ ∀ a, A' = some a → wq.heap.size ≤ a.block) ∧ Below wq.heap.size wq w') (by
          rintro e w' ⟨⟨_, hp⟩ | ⟨h, _⟩, hb⟩
          · exact ⟨hp, hb⟩
          · exact absurd h0 h))
        have H0 := Lib.hid h0
        clear hn h hg hb hf hF64 hk59 hp59 hk hk1 e hs hm hF hP h0
        have q2 := HQ2.out
        have q4 := HQ4.out
        go_enter Tryz.func56, Tryz.ntmps56
        go_wp2_with (first
          | (go_at_call 50; (with_reducible refine (KG.out _ HA0.out.a.bel).mono ?_); rintro e w1 ⟨rfl, hb1⟩; have HA1 := Lib.hid (HA0.out.next hb1); obtain ⟨t0, t1, t2, _, _⟩ := HA1.out.a; clear hb1))
        go_region_held3 (fun w' => w'.cell? ⟨w.heap.size, 0, none⟩ = some (.slice A n c) ∧ w'.cell? ⟨w.heap.size, 1, none⟩ = some (.string seed) ∧ w'.cell? ⟨w.heap.size, 2, none⟩ = some (.int .i64 z)) (first | go_keep) (first
          | (go_at_call 119; (try simp only [Q1.out]); (try simp only [QB1.out]); (try simp only [QB2.out]); (try simp only [HK.out]); (with_reducible refine (KPW.out _).mono ?_); rintro e w5 ⟨rfl, rfl⟩)
          | (go_at_call 118; (try simp only [Q1.out]); (try simp only [QB1.out]); (try simp only [QB2.out]); (try simp only [HK.out]); (with_reducible refine (KS.out _ (HA1.out.next (Below.refl _ _).drew)).mono ?_); rintro e w2 ⟨⟨A', c', rfl, hsl, hfr⟩, hb2⟩
             have HA2 := Lib.hid ((HA1.out.next (Below.refl _ _).drew).next hb2)
             have HSL := Lib.hid hsl
             have HFR := Lib.hid hfr
             obtain ⟨t0, t1, t2, _, _⟩ := HA2.out.a
             obtain ⟨r0, r1, r2, g0, g1, g2⟩ := HA2.out.a.r0
             clear hb2 hsl hfr))
        all_goals go_wp2_with fail
        refine bodyPost_ret (v := .tuple #[.string (B d.2.1), .agg #[.slice A' n c', .string seed, .int .i64 d.2.2], .int .i64 0]) (by simp [results, Tryz.results56, go_sem, r0, r1, r2]) rfl ⟨?_, HA2.out.a.bel3⟩
        have hlow : w.heap.size + 2 ≤ w1.drew.heap.size := HA1.out.two
        refine .inl ⟨H0.out, A', c', rfl, ?_, fun a e => by have := HFR.out a e; omega⟩
        have hfar := SLs.far (b := w.heap.size + 1) (x := .slice A' n c') (y := .string seed) (t := .int .i64 d.2.2) HSL.out (fun a e => by have := HFR.out a e; omega)
        exact hfar.more (by simp)
      · have KS := Lib.hid (fun wq (h1 : AtS w wq A n c seed z) => (KS.out wq h1).mono (R' := fun e w' => e = .returned (.tuple #[.string ⟨#[]⟩, .agg #[.slice none 0 0, .string ⟨#[]⟩, .int .i64 0], .int .i64 d.1]) ∧ Below wq.heap.size wq w') (by
          rintro e w' ⟨⟨h, _⟩ | ⟨_, hp⟩, hb⟩
          · exact absurd h h0
          · exact ⟨hp, hb⟩))
        have H0 := Lib.hid h0
        clear hn h hg hb hf hF64 hk59 hp59 hk hk1 e hs hm hF hP h0
        have q2 := HQ2.out
        have q4 := HQ4.out
        go_enter Tryz.func56, Tryz.ntmps56
        go_wp2_with (first
          | (go_at_call 50; (with_reducible refine (KG.out _ HA0.out.a.bel).mono ?_); rintro e w1 ⟨rfl, hb1⟩; have HA1 := Lib.hid (HA0.out.next hb1); obtain ⟨t0, t1, t2, _, _⟩ := HA1.out.a; clear hb1))
        go_region_held3 (fun w' => w'.cell? ⟨w.heap.size, 0, none⟩ = some (.slice A n c) ∧ w'.cell? ⟨w.heap.size, 1, none⟩ = some (.string seed) ∧ w'.cell? ⟨w.heap.size, 2, none⟩ = some (.int .i64 z)) (first | go_keep) (first
          | (go_at_call 119; (try simp only [Q1.out]); (try simp only [QB1.out]); (try simp only [QB2.out]); (try simp only [HK.out]); (with_reducible refine (KPW.out _).mono ?_); rintro e w5 ⟨rfl, rfl⟩)
          | (go_at_call 118; (try simp only [Q1.out]); (try simp only [QB1.out]); (try simp only [QB2.out]); (try simp only [HK.out]); (with_reducible refine (KS.out _ (HA1.out.next (Below.refl _ _).drew)).mono ?_); rintro e w2 ⟨rfl, hb2⟩
             have HA2 := Lib.hid ((HA1.out.next (Below.refl _ _).drew).next hb2)
             obtain ⟨t0, t1, t2, _, _⟩ := HA2.out.a
             obtain ⟨r0, r1, r2, g0, g1, g2⟩ := HA2.out.a.r0
             clear hb2))
        all_goals go_wp2_with fail
        refine bodyPost_ret (v := .tuple #[.string ⟨#[]⟩, .agg #[.slice none 0 0, .string ⟨#[]⟩, .int .i64 0], .int .i64 d.1]) (by simp [results, Tryz.results56, go_sem, r0, r1, r2]) rfl ⟨.inr ⟨H0.out, rfl⟩, HA2.out.a.bel3⟩
    · have hd : safeD bits vals seed z = (2, 0, 0) := by unfold safeD; rw [if_pos hg, if_neg hb]
      rw [hd]
      by_cases hlo : bits < 3
      · have p1 : decide (bits < 3) = true := decide_eq_true hlo
        clear hn h hg hd hb hlo
        go_enter Tryz.func56, Tryz.ntmps56
        go_wp2_with (first | (go_at_call 50; (with_reducible refine (KG.out _ HA0.out.a.bel).mono ?_); rintro e w1 ⟨rfl, hb1⟩; have HA1 := Lib.hid (HA0.out.next hb1); obtain ⟨r0, r1, r2, g0, g1, g2⟩ := HA1.out.a.r0; clear hb1))
        refine bodyPost_ret (v := .tuple #[.string ⟨#[]⟩, .agg #[.slice none 0 0, .string ⟨#[]⟩, .int .i64 0], .int .i64 2]) (by simp [results, Tryz.results56, go_sem, r0, r1, r2]) rfl ⟨.inr ⟨by decide, rfl⟩, HA1.out.a.bel3⟩
      · have p1 : decide (bits < 3) = false := decide_eq_false hlo
        have p2 : decide ((60 : Int) < bits) = true := by rw [decide_eq_true_eq]; omega
        clear hn h hg hd hb hlo
        go_enter Tryz.func56, Tryz.ntmps56
        go_wp2_with (first | (go_at_call 50; (with_reducible refine (KG.out _ HA0.out.a.bel).mono ?_); rintro e w1 ⟨rfl, hb1⟩; have HA1 := Lib.hid (HA0.out.next hb1); obtain ⟨r0, r1, r2, g0, g1, g2⟩ := HA1.out.a.r0; clear hb1))
        refine bodyPost_ret (v := .tuple #[.string ⟨#[]⟩, .agg #[.slice none 0 0, .string ⟨#[]⟩, .int .i64 0], .int .i64 2]) (by simp [results, Tryz.results56, go_sem, r0, r1, r2]) rfl ⟨.inr ⟨by decide, rfl⟩, HA1.out.a.bel3⟩

end Go.Proofs.YtdajbcohmnmbpaaGreatDoor
