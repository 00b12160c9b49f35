/- The walks of the reference's Main and Whole (package 11). -/
import Derived.Test.YtdajbcohmnmbpaaGreatDoorFM
import Derived.Test.YtdajbcohmnmbpaaGreatDoorCG
namespace Go.Proofs.YtdajbcohmnmbpaaGreatDoor
open Go.RowKit
set_option maxRecDepth 100000
set_option linter.unusedVariables false
set_option maxHeartbeats 4000000

theorem SLs.farA {w : World} {A : Option Addr} {vals : List ByteArray} {p : Addr} {v : Value} (h : SLs w w.heap.size A vals) (hp : ∀ a, A = some a → p.block ≠ a.block) : SLs (w.setCell p v) (w.setCell p v).heap.size A vals := by
  intro hne
  obtain ⟨ad, e, hb, hc⟩ := h hne
  refine ⟨ad, e, by simpa using hb, fun j hj => ?_⟩
  refine (World.cell?_setCell_other _ _ _ _ (fun e2 => hp ad e ?_)).trans (hc j hj)
  rw [e2, block_of_add]
theorem SLs.farA3 {w : World} {b : Nat} {A : Option Addr} {vals : List ByteArray} {x y t : Value} (h : SLs w w.heap.size A vals) (hp : ∀ a, A = some a → b ≠ a.block) :
    SLs (((w.setCell ⟨b, 0, none⟩ x).setCell ⟨b, 1, none⟩ y).setCell ⟨b, 2, none⟩ t) (((w.setCell ⟨b, 0, none⟩ x).setCell ⟨b, 1, none⟩ y).setCell ⟨b, 2, none⟩ t).heap.size A vals := ((h.farA (p := ⟨b, 0, none⟩) hp).farA (p := ⟨b, 1, none⟩) hp).farA (p := ⟨b, 2, none⟩) hp
theorem SLs.farA2 {w : World} {b : Nat} {A : Option Addr} {vals : List ByteArray} {x y : Value} (h : SLs w w.heap.size A vals) (hp : ∀ a, A = some a → b ≠ a.block) :
    SLs ((w.setCell ⟨b, 0, none⟩ x).setCell ⟨b, 1, none⟩ y) ((w.setCell ⟨b, 0, none⟩ x).setCell ⟨b, 1, none⟩ y).heap.size A vals := (h.farA (p := ⟨b, 0, none⟩) hp).farA (p := ⟨b, 1, none⟩) hp
/-- What Main finds behind its prime. -/
def mainR (R : Option Nat) (q : Nat) (zz : Int) : Int × Nat × Nat × Int := match R with
  | some m => (0, m, q, zz)
  | none => (12, 0, 0, 0)
/-- What the reference's Main hands back; the tape's row reads as before. -/
def mainPostR (d : Int × Nat × Nat × Int) (n : Nat) (seed : ByteArray) (vals : List ByteArray) (e : Ending) (w' : World) : Prop :=
  (d.1 = 0 ∧ ∃ A' c', e = .returned (.tuple #[.agg #[.string (B d.2.1), .string (B d.2.2.1)], .agg #[.slice A' n c', .string seed, .int .i64 d.2.2.2], .int .i64 0]) ∧ SLs w' w'.heap.size A' vals) ∨
  (d.1 ≠ 0 ∧ e = .returned (.tuple #[.agg #[.string ⟨#[]⟩, .string ⟨#[]⟩], .agg #[.slice none 0 0, .string ⟨#[]⟩, .int .i64 0], .int .i64 d.1]))
/-- What the reference's Whole hands back; the tape's row reads as before. -/
def wholePostR (d : Int × Nat × Nat × Int) (n : Nat) (seed : ByteArray) (vals : List ByteArray) (e : Ending) (w' : World) : Prop :=
  (d.1 = 0 ∧ ∃ A' c', e = .returned (.tuple #[.agg #[.string (B (d.2.1 * d.2.2.1)), .string ⟨#[]⟩], .agg #[.string (B d.2.1), .string (B d.2.2.1)], .agg #[.slice A' n c', .string seed, .int .i64 d.2.2.2], .int .i64 0]) ∧ SLs w' w'.heap.size A' vals) ∨
  (d.1 ≠ 0 ∧ e = .returned (.tuple #[.agg #[.string ⟨#[]⟩, .string ⟨#[]⟩], .agg #[.string ⟨#[]⟩, .string ⟨#[]⟩], .agg #[.slice none 0 0, .string ⟨#[]⟩, .int .i64 0], .int .i64 d.1]))
theorem r11_Main (bits : Int) (vals : List ByteArray) (A : Option Addr) (n c : Nat) (seed : ByteArray) (z : Int) (w : World) (hn : vals.length = n) (hm : n ≤ 1000) (h : SLs w w.heap.size A vals) (hs : seed.size ≤ 100000) :
    Calls Tryz.prog 15 #[.int .i64 bits, .agg #[.slice A n c, .string seed, .int .i64 z]] w fun e w' => mainPostR (mainD bits vals seed z) n seed vals e w' ∧ Below w.heap.size w w' := by
  have KF := Lib.hid (fun wq (h1 : Below w.heap.size w wq) => r06_Good vals A n c seed z wq hn (Nat.le_trans hm (by decide)) ((h.below h1).more h1.size))
  have HA0 := Lib.hid (BoxM.start w A n c seed z)
  cases hg : goodT vals z
  · have hd : mainD bits vals seed z = (3, 0, 0, 0) := by unfold mainD; rw [hg, if_neg (by decide)]
    rw [hg] at KF
    rw [hd]
    clear hn h hg hd
    go_enter Tryz.func15, Tryz.ntmps15
    go_wp2_with (first | (go_at_call 50; (with_reducible refine (KF.out _ HA0.out.bel).mono ?_); rintro e w1 ⟨rfl, hb1⟩
                          have HA1 := Lib.hid (HA0.out.next hb1)
                          obtain ⟨q0, q1, q2, q3⟩ := HA1.out.g0
                          obtain ⟨r0, r1, r2, g0, g1, g2⟩ := HA1.out.r0
                          clear hb1))
    refine bodyPost_ret (v := .tuple #[.agg #[.string ⟨#[]⟩, .string ⟨#[]⟩], .agg #[.slice none 0 0, .string ⟨#[]⟩, .int .i64 0], .int .i64 3]) (by simp [results, Tryz.results15, go_sem, q0, q1, r0, r1, r2]) rfl ⟨.inr ⟨by decide, rfl⟩, HA1.out.bel5⟩
  · rw [hg] at KF
    by_cases hb : 2 ≤ bits ∧ bits ≤ 40
    · have p1 : decide (bits < 2) = false := by rw [decide_eq_false_iff_not]; omega
      have p2 : decide ((40 : Int) < bits) = false := by rw [decide_eq_false_iff_not]; omega
      have hd : mainD bits vals seed z = (if (primeD bits vals seed z).1 = 0 then mainR (mainL (primeD bits vals seed z).2.1 32768 2) (primeD bits vals seed z).2.1 (primeD bits vals seed z).2.2 else ((primeD bits vals seed z).1, 0, 0, 0)) := by unfold mainD; rw [if_pos hg, if_pos hb]; rfl
      have KP := Lib.hid (fun wq (h1 : Below w.heap.size w wq) => r11_Prime bits vals A n c seed z wq hn hm ((h.below h1).more h1.size) hs)
      have hfound := @primeD_found bits vals seed z
      obtain ⟨d, hdd⟩ : ∃ d, d = primeD bits vals seed z := ⟨_, rfl⟩
      rw [← hdd] at KP hd hfound
      have HDD := Lib.hid hdd
      have HG := Lib.hid hg
      by_cases h0 : d.1 = 0
      · obtain ⟨_, _, _, _, hq1, _, _⟩ := hfound h0
        obtain ⟨q, hq⟩ : ∃ q, q = d.2.1 := ⟨_, rfl⟩
        rw [if_pos h0, ← hq] at hd
        rw [← hq] at hq1
        have hq40 : q < 1099511627776 := Nat.lt_of_lt_of_le hq1 (Nat.pow_le_pow_right (by decide) (by omega : bits.toNat ≤ 40))
        rw [hd]
        have KP2 : Hid (∀ wq, Below w.heap.size w wq → Calls Tryz.prog 51 #[.int .i64 bits, .agg #[.slice A n c, .string seed, .int .i64 z]] wq fun e w' => (∃ A' c', e = .returned (.tuple #[.string (B q), .agg #[.slice A' n c', .string seed, .int .i64 d.2.2], .int .i64 0]) ∧ SLs w' w'.heap.size A' vals ∧ ∀ a, A' = some a → wq.heap.size ≤ a.block) ∧ Below wq.heap.size wq w') := Lib.hid (fun wq h1 => (KP.out wq h1).mono (by
          rintro e w' ⟨⟨_, A', c', rfl, hs2, hf2⟩ | ⟨h, _⟩, hb⟩
          · exact ⟨⟨A', c', by rw [hq], hs2, hf2⟩, hb⟩
          · exact absurd h0 h))
        have KSM := Lib.hid (fun w => r01_Small_B q w (Nat.lt_trans hq40 (by decide)))
        have KO := Lib.hid (fun (m : Nat) w (hm : m < 18446744073709551616) => r01_Of m w hm)
        have KI := Lib.hid (fun (m : Nat) w (hm : m < 18446744073709551616) => r11_isPrime m w hm)
        obtain ⟨zz, hzz⟩ : ∃ zz, zz = d.2.2 := ⟨_, rfl⟩
        rw [← hzz] at KP2 ⊢
        have HQ := Lib.hid hq40
        obtain ⟨T, hT2⟩ : ∃ T, T = 32768 := ⟨_, rfl⟩
        obtain ⟨R, hR⟩ : ∃ R, R = mainL q 32768 2 := ⟨_, rfl⟩
        rw [← hR]
        rw [← hT2] at hR
        have HTT := Lib.hid hT2
        have HR := Lib.hid hR
        clear hn h hg hd hdd hb hs hm KP hfound hq1 hq40 h0 hq hzz hT2 hR
        go_enter Tryz.func15, Tryz.ntmps15
        go_wp2_with (first
          | (go_at_call 50; (with_reducible refine (KF.out _ HA0.out.bel).mono ?_); rintro e w1 ⟨rfl, hb1⟩
             have HA1 := Lib.hid (HA0.out.next hb1)
             obtain ⟨t0, t1, t2, _, _, _, _, _, _⟩ := HA1.out
             clear hb1)
          | (go_at_call 51; (with_reducible refine (KP2.out _ HA1.out.bel).mono ?_); rintro e w2 ⟨⟨A', c', rfl, hsl, hfr⟩, hb2⟩
             have HA2 := Lib.hid (HA1.out.next hb2)
             have HSL2 := Lib.hid hsl
             have HFR : Hid (∀ a, A' = some a → w.heap.size + 1 + 1 < a.block) := Lib.hid (fun a ha => Nat.lt_of_lt_of_le (Array.getElem?_eq_some_iff.1 HA1.out.r).1 (hfr a ha))
             obtain ⟨t0, t1, t2, f0, f1, f2, _, _, _⟩ := HA2.out
             clear hb2 hsl hfr)
          | (go_at_call 52; (with_reducible refine (KSM.out _).mono ?_); rintro e w3 ⟨rfl, rfl⟩))
        have HA3 := Lib.hid (HA2.out.put (A' := A') (n' := n) (c' := c') (seed' := seed) (z' := zz))
        have HSL3 : Hid (SLs (((w2.setCell ⟨w.heap.size, 0, none⟩ (.slice A' n c')).setCell ⟨w.heap.size, 1, none⟩ (.string seed)).setCell ⟨w.heap.size, 2, none⟩ (.int .i64 zz)) (((w2.setCell ⟨w.heap.size, 0, none⟩ (.slice A' n c')).setCell ⟨w.heap.size, 1, none⟩ (.string seed)).setCell ⟨w.heap.size, 2, none⟩ (.int .i64 zz)).heap.size A' vals) := Lib.hid (HSL2.out.farA3 (fun a ha => by have := HFR.out a ha; omega))
        clear t0 t1 t2 f0 f1 f2 HA2 HA1 HA0 KF KP2 KSM
        go_loopw [11] (fun v wr => ∃ K i : Nat, v = .int .u64 K ∧ K = 2 + 2 * i ∧ i ≤ 32768 ∧ BoxM w wr A' n c' seed zz ∧ mainL q (T - i) K = R ∧ SLs wr wr.heap.size A' vals) (fun v _ => 65540 - (intOf v).toNat)
        case atStart => exact ⟨2, 0, rfl, rfl, Nat.zero_le _, HA3.out, HR.out.symm, HSL3.out⟩
        case round =>
          clear HA3 HSL3 HSL2
          obtain ⟨K, i, rfl, hKi, hi, hbx, hml, hsw⟩ := hrel
          have HSW := Lib.hid hsw
          have HA := Lib.hid hbx
          have HML := Lib.hid hml
          obtain ⟨t0, t1, t2, f0, f1, f2, _, _, _⟩ := hbx
          clear hml hsw
          by_cases hlt : i < 32768
          · have hK : K ≤ 65536 := by omega
            obtain ⟨P, hP⟩ : ∃ P, P = K * q := ⟨_, rfl⟩
            have hP2 : P ≤ 65536 * 1099511627776 := by rw [hP]; exact Nat.mul_le_mul hK (Nat.le_of_lt HQ.out)
            obtain ⟨M, hM⟩ : ∃ M, M = P + 1 := ⟨_, rfl⟩
            have hM64 : M < 18446744073709551616 := by omega
            have m1 : IntKind.u64.wrap ((K : Int) * (q : Int)) = (P : Int) := by
              have e : (K : Int) * (q : Int) = ((K * q : Nat) : Int) := (Int.natCast_mul K q).symm
              rw [e, ← hP, IntKind.wrap_u64]
              omega
            have m2 : IntKind.u64.wrap ((P : Int) + 1) = (M : Int) := by rw [hM, IntKind.wrap_u64]; omega
            have m3 : IntKind.u64.wrap ((K : Int) + 2) = ((K + 2 : Nat) : Int) := by rw [IntKind.wrap_u64]; omega
            have p3 : decide ((K : Int) ≤ 65536) = true := by rw [decide_eq_true_eq]; omega
            have KIM := Lib.hid (KI.out M wr hM64)
            have KOM := Lib.hid (fun w => KO.out M w hM64)
            have hMM : K * q + 1 = M := by rw [hM, hP]
            have HMM := Lib.hid hMM
            have HK := Lib.hid (And.intro hKi (And.intro hlt hK))
            clear hKi hi hK hP2 hM64 hP hM hMM hlt
            cases hp : isS M
            · rw [hp] at KIM
              have HP := Lib.hid hp
              clear hp
              go_wp2_with (first
                | (go_at_call 53; (with_reducible refine KIM.out.mono ?_); rintro e w4 ⟨rfl, hb4⟩; have HA4 := Lib.hid (HA.out.next hb4); have HS4 := Lib.hid (HSW.out.to hb4)))
              go_roundw
              case rel => exact ⟨K + 2, i + 1, rfl, by have := HK.out.1; omega, HK.out.2.1, HA4.out, by rw [← HML.out, show T - i = (T - (i + 1)) + 1 by have := HTT.out; have := HK.out.2.1; omega, mainL_on (by rw [HMM.out]; exact HP.out)], HS4.out⟩
              case measure => exact measK HK.out.2.2
            · rw [hp] at KIM
              have HP := Lib.hid hp
              clear hp
              go_wp2_with (first
                | (go_at_call 53; (with_reducible refine KIM.out.mono ?_); rintro e w4 ⟨rfl, hb4⟩
                   have HA4 := Lib.hid (HA.out.next hb4)
                   have HS4 := Lib.hid (HSW.out.to hb4)
                   obtain ⟨t0, t1, t2, f0, f1, f2, _, _, _⟩ := HA4.out
                   clear hb4))
              have hR : R = some M := by
                rw [← HML.out, show T - i = (T - (i + 1)) + 1 by have := HTT.out; have := HK.out.2.1; omega, mainL_hit (by rw [HMM.out]; exact HP.out), HMM.out]
              have HR2 := Lib.hid hR
              clear hR
              go_region_held3 (fun w' => w'.cell? ⟨w.heap.size, 0, none⟩ = some (.slice A' n c') ∧ w'.cell? ⟨w.heap.size, 1, none⟩ = some (.string seed) ∧ w'.cell? ⟨w.heap.size, 2, none⟩ = some (.int .i64 zz)) (first | (with_reducible exact ⟨keep5 t0, keep5 t1, keep5 t2⟩) | go_keep)
                (first
                  | (go_at_call 54; (with_reducible refine (KOM.out _).mono ?_); rintro e w6 ⟨rfl, hb6⟩
                     have HA6 : Hid (BoxM w w6 A' n c' seed zz) := by first | exact Lib.hid (HA4.out.next hb6) | exact Lib.hid ((HA4.out.next (Below.refl _ _).drew).next hb6)
                     have HS6 : Hid (SLs w6 w6.heap.size A' vals) := by first | exact Lib.hid (HS4.out.to hb6) | exact Lib.hid ((HS4.out.to (Below.refl _ _).drew).to hb6)
                     obtain ⟨t0, t1, t2, f0, f1, f2, _, _, _⟩ := HA6.out
                     obtain ⟨q0, q1, q2, q3⟩ := HA6.out.g0
                     obtain ⟨r0, r1, r2, g0, g1, g2⟩ := HA6.out.r0))
              all_goals
                go_wp2_with fail
                refine bodyPost_ret (v := .tuple #[.agg #[.string (B M), .string (B q)], .agg #[.slice A' n c', .string seed, .int .i64 zz], .int .i64 0]) (by simp [results, Tryz.results15, go_sem, q0, q1, r0, r1, r2]) rfl ⟨?_, HA6.out.bel5⟩
                rw [HR2.out]
                exact .inl ⟨rfl, A', c', rfl, (HS6.out.farA2 (fun a ha => by have := HFR.out a ha; omega)).farA3 (fun a ha => by have := HFR.out a ha; omega)⟩
          · have hK : K = 65538 := by omega
            have p3 : decide ((K : Int) ≤ 65536) = false := by rw [decide_eq_false_iff_not]; omega
            have hR : R = none := by
              rw [← HML.out, show T - i = 0 by have := HTT.out; omega]
              rfl
            have HR2 := Lib.hid hR
            obtain ⟨q0, q1, q2, q3⟩ := HA.out.g0
            obtain ⟨r0, r1, r2, g0, g1, g2⟩ := HA.out.r0
            clear hlt hK hKi hi hR
            go_wp2_with fail
            refine bodyPost_ret (v := .tuple #[.agg #[.string ⟨#[]⟩, .string ⟨#[]⟩], .agg #[.slice none 0 0, .string ⟨#[]⟩, .int .i64 0], .int .i64 12]) (by simp [results, Tryz.results15, go_sem, q0, q1, r0, r1, r2]) rfl ⟨?_, HA.out.bel5⟩
            rw [HR2.out]
            exact .inr ⟨(by decide : (12 : Int) ≠ 0), rfl⟩
      · rw [if_neg h0] at hd
        rw [hd]
        have KP2 : Hid (∀ wq, Below w.heap.size w wq → Calls Tryz.prog 51 #[.int .i64 bits, .agg #[.slice A n c, .string seed, .int .i64 z]] wq fun e w' => e = .returned (.tuple #[.string ⟨#[]⟩, .agg #[.slice none 0 0, .string ⟨#[]⟩, .int .i64 0], .int .i64 d.1]) ∧ Below wq.heap.size wq w') := Lib.hid (fun wq h1 => (KP.out wq h1).mono (by
          rintro e w' ⟨⟨h, _⟩ | ⟨_, hp⟩, hb⟩
          · exact absurd h h0
          · exact ⟨hp, hb⟩))
        have H0 := Lib.hid h0
        obtain ⟨er, her⟩ : ∃ er, er = d.1 := ⟨_, rfl⟩
        have hne : (er == 0) = false := by rw [her, beq_eq_false_iff_ne]; exact h0
        rw [← her] at KP2 H0 ⊢
        clear hn h hg hd hdd hb hs hm KP hfound h0 her
        go_enter Tryz.func15, Tryz.ntmps15
        go_wp2_with (first
          | (go_at_call 50; (with_reducible refine (KF.out _ HA0.out.bel).mono ?_); rintro e w1 ⟨rfl, hb1⟩
             have HA1 := Lib.hid (HA0.out.next hb1)
             obtain ⟨t0, t1, t2, _, _, _, _, _, _⟩ := HA1.out
             clear hb1)
          | (go_at_call 51; (with_reducible refine (KP2.out _ HA1.out.bel).mono ?_); rintro e w2 ⟨rfl, hb2⟩
             have HA2 := Lib.hid (HA1.out.next hb2)
             have HA3 := Lib.hid (HA2.out.put (A' := none) (n' := 0) (c' := 0) (seed' := ⟨#[]⟩) (z' := 0))
             obtain ⟨t0, t1, t2, f0, f1, f2, _, _, _⟩ := HA2.out
             obtain ⟨q0, q1, q2, q3⟩ := HA3.out.g0
             obtain ⟨r0, r1, r2, g0, g1, g2⟩ := HA3.out.r0
             clear hb2))
        refine bodyPost_ret (v := .tuple #[.agg #[.string ⟨#[]⟩, .string ⟨#[]⟩], .agg #[.slice none 0 0, .string ⟨#[]⟩, .int .i64 0], .int .i64 er]) (by simp [results, Tryz.results15, go_sem, q0, q1, r0, r1, r2]) rfl ⟨.inr ⟨H0.out, rfl⟩, HA3.out.bel5⟩
    · have hd : mainD bits vals seed z = (2, 0, 0, 0) := by unfold mainD; rw [if_pos hg, if_neg hb]
      rw [hd]
      by_cases hlo : bits < 2
      · have p1 : decide (bits < 2) = true := decide_eq_true hlo
        clear hn h hg hd hb hlo
        go_enter Tryz.func15, Tryz.ntmps15
        go_wp2_with (first | (go_at_call 50; (with_reducible refine (KF.out _ HA0.out.bel).mono ?_); rintro e w1 ⟨rfl, hb1⟩
                              have HA1 := Lib.hid (HA0.out.next hb1)
                              obtain ⟨q0, q1, q2, q3⟩ := HA1.out.g0
                              obtain ⟨r0, r1, r2, g0, g1, g2⟩ := HA1.out.r0
                              clear hb1))
        refine bodyPost_ret (v := .tuple #[.agg #[.string ⟨#[]⟩, .string ⟨#[]⟩], .agg #[.slice none 0 0, .string ⟨#[]⟩, .int .i64 0], .int .i64 2]) (by simp [results, Tryz.results15, go_sem, q0, q1, r0, r1, r2]) rfl ⟨.inr ⟨by decide, rfl⟩, HA1.out.bel5⟩
      · have p1 : decide (bits < 2) = false := decide_eq_false hlo
        have p2 : decide ((40 : Int) < bits) = true := by rw [decide_eq_true_eq]; omega
        clear hn h hg hd hb hlo
        go_enter Tryz.func15, Tryz.ntmps15
        go_wp2_with (first | (go_at_call 50; (with_reducible refine (KF.out _ HA0.out.bel).mono ?_); rintro e w1 ⟨rfl, hb1⟩
                              have HA1 := Lib.hid (HA0.out.next hb1)
                              obtain ⟨q0, q1, q2, q3⟩ := HA1.out.g0
                              obtain ⟨r0, r1, r2, g0, g1, g2⟩ := HA1.out.r0
                              clear hb1))
        refine bodyPost_ret (v := .tuple #[.agg #[.string ⟨#[]⟩, .string ⟨#[]⟩], .agg #[.slice none 0 0, .string ⟨#[]⟩, .int .i64 0], .int .i64 2]) (by simp [results, Tryz.results15, go_sem, q0, q1, r0, r1, r2]) rfl ⟨.inr ⟨by decide, rfl⟩, HA1.out.bel5⟩

theorem r11_Whole (bits : Int) (vals : List ByteArray) (A : Option Addr) (n c : Nat) (seed : ByteArray) (z : Int) (w : World) (hn : vals.length = n) (hm : n ≤ 1000) (h : SLs w w.heap.size A vals) (hs : seed.size ≤ 100000) :
    Calls Tryz.prog 17 #[.int .i64 bits, .agg #[.slice A n c, .string seed, .int .i64 z]] w fun e w' => wholePostR (wholeD bits vals seed z) n seed vals e w' ∧ Below w.heap.size w w' := by
  have KF := Lib.hid (fun wq (h1 : Below w.heap.size w wq) => r06_Good vals A n c seed z wq hn (Nat.le_trans hm (by decide)) ((h.below h1).more h1.size))
  have HA0 := Lib.hid (BoxW.start w A n c seed z)
  cases hg : goodT vals z
  · have hd : wholeD bits vals seed z = (3, 0, 0, 0) := by unfold wholeD; rw [hg, if_neg (by decide)]
    rw [hg] at KF
    rw [hd]
    clear hn h hg hd
    go_enter Tryz.func17, Tryz.ntmps17
    go_wp2_with (first | (go_at_call 50; (with_reducible refine (KF.out _ HA0.out.bel).mono ?_); rintro e w1 ⟨rfl, hb1⟩
                          have HA1 := Lib.hid (HA0.out.next hb1)
                          obtain ⟨t0, t1, t2, _, _, _, _, _, _, _⟩ := HA1.out
                          obtain ⟨q0, q1, q2, q3⟩ := HA1.out.g0
                          obtain ⟨d0, d1, d2, d3⟩ := HA1.out.d0
                          obtain ⟨r0, r1, r2, g0, g1, g2⟩ := HA1.out.r0
                          clear hb1))
    refine bodyPost_ret (v := .tuple #[.agg #[.string ⟨#[]⟩, .string ⟨#[]⟩], .agg #[.string ⟨#[]⟩, .string ⟨#[]⟩], .agg #[.slice none 0 0, .string ⟨#[]⟩, .int .i64 0], .int .i64 3]) (by simp [results, Tryz.results17, go_sem, q0, q1, d0, d1, r0, r1, r2]) rfl ⟨.inr ⟨by decide, rfl⟩, HA1.out.bel7⟩
  · rw [hg] at KF
    by_cases hb : 3 ≤ bits ∧ bits ≤ 32
    · have p1 : decide (bits < 3) = false := by rw [decide_eq_false_iff_not]; omega
      have p2 : decide ((32 : Int) < bits) = false := by rw [decide_eq_false_iff_not]; omega
      have hd : wholeD bits vals seed z = (if (safeD bits vals seed z).1 = 0 then
    (if (wholeL bits vals seed (safeD bits vals seed z).2.1 64 (safeD bits vals seed z).2.2).1 = 0
      then (0, (safeD bits vals seed z).2.1, (wholeL bits vals seed (safeD bits vals seed z).2.1 64 (safeD bits vals seed z).2.2).2)
      else ((wholeL bits vals seed (safeD bits vals seed z).2.1 64 (safeD bits vals seed z).2.2).1, 0, 0, 0)) else ((safeD bits vals seed z).1, 0, 0, 0)) := by unfold wholeD; rw [if_pos hg, if_pos hb]
      have KS := Lib.hid (fun (zi : Int) (A' : Option Addr) (c' : Nat) wq (h1 : Below w.heap.size w wq) (h2 : SLs wq wq.heap.size A' vals) => r11_SafePrime bits vals A' n c' seed zi wq hn hm h2 hs)
      have KB := Lib.hid (fun (zi : Int) (h0 : (safeD bits vals seed zi).1 = 0) => (show (safeD bits vals seed zi).2.1 < 4294967296 from Nat.lt_of_lt_of_le (safeD_found h0).2.2.2.2.1 (Nat.pow_le_pow_right (by decide) (by omega : bits.toNat ≤ 32))))
      have HS := Lib.hid h
      have HG := Lib.hid hg
      have HB := Lib.hid hb
      by_cases h0 : (safeD bits vals seed z).1 = 0
      · rw [if_pos h0] at hd
        have hp32 := KB.out z h0
        obtain ⟨z1, hz1⟩ : ∃ z1, z1 = (safeD bits vals seed z).2.2 := ⟨_, rfl⟩
        obtain ⟨p, hp⟩ : ∃ p, p = (safeD bits vals seed z).2.1 := ⟨_, rfl⟩
        rw [← hz1, ← hp] at hd
        rw [← hp] at hp32
        obtain ⟨T, hT2⟩ : ∃ T, T = 64 := ⟨_, rfl⟩
        obtain ⟨R, hR⟩ : ∃ R, R = wholeL bits vals seed p 64 z1 := ⟨_, rfl⟩
        rw [← hR] at hd
        rw [← hT2] at hR
        have hd : wholeD bits vals seed z = wholeR p R := hd
        rw [hd]
        have KP : Hid (∀ wq, Below w.heap.size w wq → Calls Tryz.prog 56 #[.int .i64 bits, .agg #[.slice A n c, .string seed, .int .i64 z]] wq fun e w' => (∃ A1 c1, e = .returned (.tuple #[.string (B p), .agg #[.slice A1 n c1, .string seed, .int .i64 z1], .int .i64 0]) ∧ SLs w' w'.heap.size A1 vals ∧ ∀ a, A1 = some a → wq.heap.size ≤ a.block) ∧ Below wq.heap.size wq w') := Lib.hid (fun wq h1 => (KS.out z A c wq h1 ((HS.out.below h1).more h1.size)).mono (by
          rintro e w' ⟨⟨_, A1, c1, rfl, hs, hf⟩ | ⟨h, _⟩, hb⟩
          · exact ⟨⟨A1, c1, by rw [hz1, hp], hs, hf⟩, hb⟩
          · exact absurd h0 h))
        have HP32 := Lib.hid hp32
        have HTT := Lib.hid hT2
        have HR := Lib.hid hR
        clear hn h hg hd hb hs hm h0 hz1 hp hp32 hT2 hR
        go_enter Tryz.func17, Tryz.ntmps17
        go_wp2_with (first
          | (go_at_call 50; (with_reducible refine (KF.out _ HA0.out.bel).mono ?_); rintro e w1 ⟨rfl, hb1⟩
             have HA1 := Lib.hid (HA0.out.next hb1)
             obtain ⟨t0, t1, t2, _, _, _, _, _, _, _⟩ := HA1.out
             clear hb1)
          | (go_at_call 56; (with_reducible refine (KP.out _ HA1.out.bel).mono ?_); rintro e w2 ⟨⟨A1, c1, rfl, hsl, hfr⟩, hb2⟩
             have HFR1 : Hid (∀ a, A1 = some a → w.heap.size < a.block) := Lib.hid (fun a ha => by have := Nat.lt_of_lt_of_le (Array.getElem?_eq_some_iff.1 HA1.out.r).1 (hfr a ha); omega)
             have HA2 := Lib.hid (HA1.out.next hb2)
             have HSL2 := Lib.hid hsl
             obtain ⟨t0, t1, t2, f0, f1, f2, _, _, _, _⟩ := HA2.out
             clear hb2 hsl hfr))
        have HA3 := Lib.hid (HA2.out.put (A' := A1) (n' := n) (c' := c1) (seed' := seed) (z' := z1))
        have HSL3 := Lib.hid (SLs.farA3 (b := w.heap.size) (x := .slice A1 n c1) (y := .string seed) (t := .int .i64 z1) HSL2.out (fun a ha => by have := HFR1.out a ha; omega))
        clear t0 t1 t2 f0 f1 f2 HA2 HA1 HA0 KF KP HSL2
        go_loopw [10] (fun v wr => ∃ (i : Nat) (A' : Option Addr) (c' : Nat) (zi : Int), v = .int .i64 i ∧ i ≤ 64 ∧ BoxW w wr A' n c' seed zi ∧ SLs wr wr.heap.size A' vals ∧ wholeL bits vals seed p (T - i) zi = R) (fun v _ => T - (intOf v).toNat)
        case atStart => exact ⟨0, _, _, _, rfl, Nat.zero_le _, HA3.out, HSL3.out, HR.out.symm⟩
        case round =>
          clear HA3 HSL3
          obtain ⟨i, A', c', zi, rfl, hi, hbx, hsl, hwl⟩ := hrel
          have HA := Lib.hid hbx
          have HWL := Lib.hid hwl
          have HSL := Lib.hid hsl
          obtain ⟨t0, t1, t2, f0, f1, f2, _, _, _, _⟩ := hbx
          clear hwl hsl
          by_cases hlt : i < 64
          · have p3 : decide ((i : Int) < 64) = true := by rw [decide_eq_true_eq]; omega
            have HLT := Lib.hid hlt
            have KW := KS.out zi A' c' wr HA.out.bel HSL.out
            have hT1 : T - i = (T - (i + 1)) + 1 := by have := HTT.out; omega
            have HT1 := Lib.hid hT1
            obtain ⟨d, hdd⟩ : ∃ d, d = safeD bits vals seed zi := ⟨_, rfl⟩
            rw [← hdd] at KW
            have HDD := Lib.hid hdd
            by_cases h0 : d.1 = 0
            · have hq32 := KB.out zi (by rw [← hdd]; exact h0)
              rw [← hdd] at hq32
              obtain ⟨q, hq⟩ : ∃ q, q = d.2.1 := ⟨_, rfl⟩
              obtain ⟨z2, hz2⟩ : ∃ z2, z2 = d.2.2 := ⟨_, rfl⟩
              rw [← hq] at hq32
              have KE := Lib.hid (KW.mono (R' := fun e w' => (∃ A2 c2, e = .returned (.tuple #[.string (B q), .agg #[.slice A2 n c2, .string seed, .int .i64 z2], .int .i64 0]) ∧ SLs w' w'.heap.size A2 vals ∧ ∀ a, A2 = some a → wr.heap.size ≤ a.block) ∧ Below wr.heap.size wr w') (by
                rintro e w' ⟨⟨_, A2, c2, rfl, hs, hf⟩ | ⟨h, _⟩, hb⟩
                · exact ⟨⟨A2, c2, by rw [hq, hz2], hs, hf⟩, hb⟩
                · exact absurd h0 h))
              by_cases hqp : q = p
              · have hwl : wholeL bits vals seed p (T - (i + 1)) z2 = R := by
                  rw [← HWL.out, HT1.out, wholeL_on (by rw [← hdd]; exact h0) (by rw [← hdd, ← hq]; exact hqp), ← hdd, hz2]
                have HWL2 := Lib.hid hwl
                have p4 : ((B q).toList == (B p).toList) = true := by rw [hqp]; simp
                clear hlt hdd h0 hq32 hq hz2 hqp hwl KW hi hT1
                go_wp2_with (first
                  | (go_at_call 56; (with_reducible refine KE.out.mono ?_); rintro e w2 ⟨⟨A2, c2, rfl, hsl, hfr⟩, hb2⟩
                     have HA2 := Lib.hid (HA.out.next hb2)
                     have HA3 := Lib.hid (HA2.out.next ((Below.refl _ _).alloc (Nat.le_refl _) (.cells #[.slice A2 n c2, .string seed, .int .i64 z2] 24)))
                     have HSL3 := Lib.hid (SLs.farA3 (b := w.heap.size) (x := .slice A2 n c2) (y := .string seed) (t := .int .i64 z2) (hsl.to ((Below.refl _ _).alloc (Nat.le_refl _) (.cells #[.slice A2 n c2, .string seed, .int .i64 z2] 24))) (fun a ha => by have := Nat.lt_of_lt_of_le (Array.getElem?_eq_some_iff.1 HA.out.r).1 (hfr a ha); omega))
                     have HA4 := Lib.hid (HA3.out.put (A' := A2) (n' := n) (c' := c2) (seed' := seed) (z' := z2))
                     have e0 : ¬ w2.heap.size = w.heap.size := Nat.ne_of_gt (cell_in HA2.out.t0)
                     have e1 : ¬ w.heap.size = w2.heap.size := Nat.ne_of_lt (cell_in HA2.out.t0)
                     obtain ⟨t0, t1, t2, f0, f1, f2, _, _, _, _⟩ := HA3.out
                     clear hb2 hsl hfr))
                go_roundw
                case measure => exact measW (by rw [HTT.out]; exact HLT.out) HLT.out
                case rel => exact ⟨i + 1, A2, c2, z2, step64w HLT.out, HLT.out, HA4.out, HSL3.out, HWL2.out⟩
              · have hR : wholeR p R = (0, p, q, z2) := by
                  rw [← HWL.out, HT1.out, wholeL_hit (by rw [← hdd]; exact h0) (by rw [← hdd, ← hq]; exact hqp), ← hdd, wholeR, if_pos h0, hq, hz2]
                have HR2 := Lib.hid hR
                have p4 : ((B q).toList == (B p).toList) = false := by rw [B_beq]; exact decide_eq_false hqp
                have KM := Lib.hid (fun w => r01_MulV p q w (u64_lt_lim (Nat.lt_trans HP32.out (by decide))) (u64_lt_lim (Nat.lt_trans hq32 (by decide))) (u64_lt_lim (by have := Nat.mul_lt_mul'' HP32.out hq32; omega)))
                clear hlt hdd h0 hq32 hq hz2 hqp hR KW hi hT1
                go_wp2_with (first
                  | (go_at_call 56; (with_reducible refine KE.out.mono ?_); rintro e w2 ⟨⟨A2, c2, rfl, hsl, hfr⟩, hb2⟩
                     have HA2 := Lib.hid (HA.out.next hb2)
                     have HA3 := Lib.hid (HA2.out.next ((Below.refl _ _).alloc (Nat.le_refl _) (.cells #[.slice A2 n c2, .string seed, .int .i64 z2] 24)))
                     have HSL3 := Lib.hid (SLs.farA3 (b := w.heap.size) (x := .slice A2 n c2) (y := .string seed) (t := .int .i64 z2) (hsl.to ((Below.refl _ _).alloc (Nat.le_refl _) (.cells #[.slice A2 n c2, .string seed, .int .i64 z2] 24))) (fun a ha => by have := Nat.lt_of_lt_of_le (Array.getElem?_eq_some_iff.1 HA.out.r).1 (hfr a ha); omega))
                     have HA4 := Lib.hid (HA3.out.put (A' := A2) (n' := n) (c' := c2) (seed' := seed) (z' := z2))
                     have e0 : ¬ w2.heap.size = w.heap.size := Nat.ne_of_gt (cell_in HA2.out.t0)
                     have e1 : ¬ w.heap.size = w2.heap.size := Nat.ne_of_lt (cell_in HA2.out.t0)
                     obtain ⟨t0, t1, t2, f0, f1, f2, _, _, _, _⟩ := HA3.out
                     have HFR : Hid (∀ a, A2 = some a → w.heap.size + 1 + 1 + 1 < a.block) := Lib.hid (fun a ha => Nat.lt_of_lt_of_le (Array.getElem?_eq_some_iff.1 HA.out.r).1 (hfr a ha))
                     clear hb2 hsl hfr)
                  | (go_at_call 57; (with_reducible refine (KM.out _).mono ?_); rintro e w5 ⟨rfl, hb5⟩
                     have HA5 := Lib.hid (HA4.out.next hb5)
                     have HSL5 := Lib.hid (HSL3.out.to hb5)
                     obtain ⟨t0, t1, t2, f0, f1, f2, _, _, _, _⟩ := HA5.out
                     obtain ⟨q0, q1, q2, q3⟩ := HA5.out.g0
                     obtain ⟨d0, d1, d2, d3⟩ := HA5.out.d0
                     obtain ⟨r0, r1, r2, g0, g1, g2⟩ := HA5.out.r0
                     clear hb5))
                have HA5' := Lib.hid HA5.out
                clear KB KS KM KE HA HA2 HA3 HA4 HSL HSL3 HWL HDD HT1 HTT HLT HS HG HB HP32 e0 e1 p1 p2 p3 p4
                go_region
                all_goals
                  go_wp2_with fail
                  refine bodyPost_ret (v := .tuple #[.agg #[.string (B (p * q)), .string ⟨#[]⟩], .agg #[.string (B p), .string (B q)], .agg #[.slice A2 n c2, .string seed, .int .i64 z2], .int .i64 0]) (by simp [results, Tryz.results17, go_sem, q0, q1, d0, d1, r0, r1, r2]) rfl ⟨?_, (HA5.out.bel7).drew⟩
                  rw [HR2.out]
                  have hfr := HFR.out
                  have h7 := ((HSL5.out.farA2 (b := w.heap.size + 1) (x := .string (B (p * q))) (y := .string ⟨#[]⟩) (fun a ha => by have := hfr a ha; omega)).farA2 (b := w.heap.size + 1 + 1) (x := .string (B p)) (y := .string (B q)) (fun a ha => by have := hfr a ha; omega)).farA3 (b := w.heap.size + 1 + 1 + 1) (x := .slice A2 n c2) (y := .string seed) (t := .int .i64 z2) (fun a ha => by have := hfr a ha; omega)
                  exact .inl ⟨rfl, A2, c2, rfl, by first | exact h7.drewG | exact h7⟩
            · have hR : wholeR p R = (d.1, 0, 0, 0) := by
                rw [← HWL.out, HT1.out, wholeL_err (by rw [← hdd]; exact h0), ← hdd, wholeR, if_neg h0]
              have HR2 := Lib.hid hR
              obtain ⟨er, her⟩ : ∃ er, er = d.1 := ⟨_, rfl⟩
              have hne : (er == 0) = false := by rw [her, beq_eq_false_iff_ne]; exact h0
              have KE := Lib.hid (KW.mono (R' := fun e w' => e = .returned (.tuple #[.string ⟨#[]⟩, .agg #[.slice none 0 0, .string ⟨#[]⟩, .int .i64 0], .int .i64 er]) ∧ Below wr.heap.size wr w') (by
                rintro e w' ⟨⟨h, _⟩ | ⟨_, hp⟩, hb⟩
                · exact absurd h h0
                · rw [her]; exact ⟨hp, hb⟩))
              have H0 := Lib.hid h0
              rw [← her] at HR2 H0
              clear hlt hdd h0 hR KW hi hT1 her
              go_wp2_with (first
                | (go_at_call 56; (with_reducible refine KE.out.mono ?_); rintro e w2 ⟨rfl, hb2⟩
                   have HA2 := Lib.hid (HA.out.next hb2)
                   have HA3 := Lib.hid (HA2.out.next ((Below.refl _ _).alloc (Nat.le_refl _) (.cells #[.slice none 0 0, .string ⟨#[]⟩, .int .i64 0] 24)))
                   have e0 : ¬ w2.heap.size = w.heap.size := Nat.ne_of_gt (cell_in HA2.out.t0)
                   have e1 : ¬ w.heap.size = w2.heap.size := Nat.ne_of_lt (cell_in HA2.out.t0)
                   obtain ⟨q0, q1, q2, q3⟩ := HA3.out.g0
                   obtain ⟨d0, d1, d2, d3⟩ := HA3.out.d0
                   obtain ⟨r0, r1, r2, g0, g1, g2⟩ := HA3.out.r0
                   clear hb2))
              refine bodyPost_ret (v := .tuple #[.agg #[.string ⟨#[]⟩, .string ⟨#[]⟩], .agg #[.string ⟨#[]⟩, .string ⟨#[]⟩], .agg #[.slice none 0 0, .string ⟨#[]⟩, .int .i64 0], .int .i64 er]) (by simp [results, Tryz.results17, go_sem, q0, q1, d0, d1, r0, r1, r2]) rfl ⟨?_, HA3.out.bel7⟩
              rw [HR2.out]
              exact .inr ⟨H0.out, rfl⟩
          · have p3 : decide ((i : Int) < 64) = false := by rw [decide_eq_false_iff_not]; omega
            have hR : wholeR p R = (12, 0, 0, 0) := by
              rw [← HWL.out, show T - i = 0 by have := HTT.out; omega]
              rfl
            have HR2 := Lib.hid hR
            obtain ⟨q0, q1, q2, q3⟩ := HA.out.g0
            obtain ⟨d0, d1, d2, d3⟩ := HA.out.d0
            obtain ⟨r0, r1, r2, g0, g1, g2⟩ := HA.out.r0
            clear hlt hi hR
            go_wp2_with fail
            refine bodyPost_ret (v := .tuple #[.agg #[.string ⟨#[]⟩, .string ⟨#[]⟩], .agg #[.string ⟨#[]⟩, .string ⟨#[]⟩], .agg #[.slice none 0 0, .string ⟨#[]⟩, .int .i64 0], .int .i64 12]) (by simp [results, Tryz.results17, go_sem, q0, q1, d0, d1, r0, r1, r2]) rfl ⟨?_, HA.out.bel7⟩
            rw [HR2.out]
            exact .inr ⟨(by decide : (12 : Int) ≠ 0), rfl⟩
      · rw [if_neg h0] at hd
        rw [hd]
        have KP : Hid (∀ wq, Below w.heap.size w wq → Calls Tryz.prog 56 #[.int .i64 bits, .agg #[.slice A n c, .string seed, .int .i64 z]] wq fun e w' => e = .returned (.tuple #[.string ⟨#[]⟩, .agg #[.slice none 0 0, .string ⟨#[]⟩, .int .i64 0], .int .i64 (safeD bits vals seed z).1]) ∧ Below wq.heap.size wq w') := Lib.hid (fun wq h1 => (KS.out z A c wq h1 ((HS.out.below h1).more h1.size)).mono (by
          rintro e w' ⟨⟨h, _⟩ | ⟨_, hp⟩, hb⟩
          · exact absurd h h0
          · exact ⟨hp, hb⟩))
        have H0 := Lib.hid h0
        obtain ⟨er, her⟩ : ∃ er, er = (safeD bits vals seed z).1 := ⟨_, rfl⟩
        have hne : (er == 0) = false := by rw [her, beq_eq_false_iff_ne]; exact h0
        rw [← her] at KP H0 ⊢
        clear hn h hg hd hb hs hm h0 her
        go_enter Tryz.func17, Tryz.ntmps17
        go_wp2_with (first
          | (go_at_call 50; (with_reducible refine (KF.out _ HA0.out.bel).mono ?_); rintro e w1 ⟨rfl, hb1⟩
             have HA1 := Lib.hid (HA0.out.next hb1)
             obtain ⟨t0, t1, t2, _, _, _, _, _, _, _⟩ := HA1.out
             clear hb1)
          | (go_at_call 56; (with_reducible refine (KP.out _ HA1.out.bel).mono ?_); rintro e w2 ⟨rfl, hb2⟩
             have HA2 := Lib.hid (HA1.out.next hb2)
             have HA3 := Lib.hid (HA2.out.put (A' := none) (n' := 0) (c' := 0) (seed' := ⟨#[]⟩) (z' := 0))
             obtain ⟨t0, t1, t2, f0, f1, f2, _, _, _, _⟩ := HA2.out
             obtain ⟨q0, q1, q2, q3⟩ := HA3.out.g0
             obtain ⟨d0, d1, d2, d3⟩ := HA3.out.d0
             obtain ⟨r0, r1, r2, g0, g1, g2⟩ := HA3.out.r0
             clear hb2))
        refine bodyPost_ret (v := .tuple #[.agg #[.string ⟨#[]⟩, .string ⟨#[]⟩], .agg #[.string ⟨#[]⟩, .string ⟨#[]⟩], .agg #[.slice none 0 0, .string ⟨#[]⟩, .int .i64 0], .int .i64 er]) (by simp [results, Tryz.results17, go_sem, q0, q1, d0, d1, r0, r1, r2]) rfl ⟨.inr ⟨H0.out, rfl⟩, HA3.out.bel7⟩
    · have hd : wholeD bits vals seed z = (2, 0, 0, 0) := by unfold wholeD; rw [if_pos hg, if_neg hb]
      rw [hd]
      by_cases hlo : bits < 3
      · have p1 : decide (bits < 3) = true := decide_eq_true hlo
        clear hn h hg hd hb hlo
        go_enter Tryz.func17, Tryz.ntmps17
        go_wp2_with (first | (go_at_call 50; (with_reducible refine (KF.out _ HA0.out.bel).mono ?_); rintro e w1 ⟨rfl, hb1⟩
                              have HA1 := Lib.hid (HA0.out.next hb1)
                              obtain ⟨t0, t1, t2, _, _, _, _, _, _, _⟩ := HA1.out
                              obtain ⟨q0, q1, q2, q3⟩ := HA1.out.g0
                              obtain ⟨d0, d1, d2, d3⟩ := HA1.out.d0
                              obtain ⟨r0, r1, r2, g0, g1, g2⟩ := HA1.out.r0
                              clear hb1))
        refine bodyPost_ret (v := .tuple #[.agg #[.string ⟨#[]⟩, .string ⟨#[]⟩], .agg #[.string ⟨#[]⟩, .string ⟨#[]⟩], .agg #[.slice none 0 0, .string ⟨#[]⟩, .int .i64 0], .int .i64 2]) (by simp [results, Tryz.results17, go_sem, q0, q1, d0, d1, r0, r1, r2]) rfl ⟨.inr ⟨by decide, rfl⟩, HA1.out.bel7⟩
      · have p1 : decide (bits < 3) = false := decide_eq_false hlo
        have p2 : decide ((32 : Int) < bits) = true := by rw [decide_eq_true_eq]; omega
        clear hn h hg hd hb hlo
        go_enter Tryz.func17, Tryz.ntmps17
        go_wp2_with (first | (go_at_call 50; (with_reducible refine (KF.out _ HA0.out.bel).mono ?_); rintro e w1 ⟨rfl, hb1⟩
                              have HA1 := Lib.hid (HA0.out.next hb1)
                              obtain ⟨t0, t1, t2, _, _, _, _, _, _, _⟩ := HA1.out
                              obtain ⟨q0, q1, q2, q3⟩ := HA1.out.g0
                              obtain ⟨d0, d1, d2, d3⟩ := HA1.out.d0
                              obtain ⟨r0, r1, r2, g0, g1, g2⟩ := HA1.out.r0
                              clear hb1))
        refine bodyPost_ret (v := .tuple #[.agg #[.string ⟨#[]⟩, .string ⟨#[]⟩], .agg #[.string ⟨#[]⟩, .string ⟨#[]⟩], .agg #[.slice none 0 0, .string ⟨#[]⟩, .int .i64 0], .int .i64 2]) (by simp [results, Tryz.results17, go_sem, q0, q1, d0, d1, r0, r1, r2]) rfl ⟨.inr ⟨by decide, rfl⟩, HA1.out.bel7⟩



end Go.Proofs.YtdajbcohmnmbpaaGreatDoor
