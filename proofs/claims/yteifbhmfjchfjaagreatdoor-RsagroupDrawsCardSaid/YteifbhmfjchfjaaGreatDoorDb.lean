/- The walks of Square on both sides. -/
import Derived.Test.YteifbhmfjchfjaaGreatDoorDa
import Derived.Test.YteifbhmfjchfjaaGreatDoorRG
import Derived.Test.YteifbhmfjchfjaaGreatDoorR8
import Derived.Test.YteifbhmfjchfjaaGreatDoorCD
namespace Go.Proofs.YteifbhmfjchfjaaGreatDoor
open Go.RowKit
set_option maxRecDepth 100000
set_option linter.unusedVariables false
set_option maxHeartbeats 4000000

theorem u64_of_size' {m : ByteArray} (h : m.size ≤ 8) : num m < 18446744073709551616 := natSmall_bound m h
theorem goodS_pos {M : Nat} {o : ByteArray} (h : goodS (B M) o = true) : 1 ≤ M := by
  have hv := goodS_valid h
  unfold goodS at h
  simp only [Bool.and_eq_true, decide_eq_true_eq] at h
  rcases Nat.eq_zero_or_pos M with e | e
  · subst e
    have h1 := h.1.2
    exact absurd h1 (by decide)
  · exact e
theorem rsagroup_Square (m o : ByteArray) (vals : List ByteArray) (A : Option Addr) (n c : Nat) (seed : ByteArray) (z : Int) (w : World) (sm : m.size ≤ 8) (hn : vals.length = n) (hm : n ≤ 1000) (h : SLs w w.heap.size A vals) (hs : seed.size ≤ 100000) (hT10 : Tab10 w) :
    Calls Tryz.prog 29 #[.agg #[.string m, .string o], .agg #[.slice A n c, .string seed, .int .i64 z]] w fun e w' => searchPost (squD vals seed m o z) n seed vals e w' ∧ Below w.heap.size w w' := by
  have HA0 := Lib.hid (SqB.start w m o A n c seed z)
  have KWF := Lib.hid (fun wq (h1 : Below w.heap.size w wq) => rsagroup_wellFormed vals A n c seed z wq hn hm (h.to h1) hs (hT10.below h1))
  have KV1 := Lib.hid (fun w => natural_Valid m w)
  have KV2 := Lib.hid (fun w => natural_Valid o w)
  have sm5 : m.size ≤ 100000 := by omega
  have KGD := Lib.hid (fun w => rsagroup_good m o w sm5)
  have hD : squD vals seed m o z = if (valid m && valid o) && goodT vals z then (if goodS m o = true then squL vals seed m o 64 z else (13, 0, 0)) else (3, 0, 0) := rfl
  obtain ⟨D, hDD⟩ : ∃ D, D = squD vals seed m o z := ⟨_, rfl⟩
  rw [← hDD] at hD ⊢
  by_cases hf : ((valid m && valid o) && goodT vals z) = true
  · rw [if_pos hf] at hD
    rw [Bool.and_eq_true, Bool.and_eq_true] at hf
    obtain ⟨⟨hvm, hvo⟩, hgt⟩ := hf
    obtain ⟨M, rfl⟩ : ∃ M, m = B M := ⟨num m, (B_num hvm).symm⟩
    rw [hvm] at KV1
    rw [hvo] at KV2
    rw [hgt] at KWF
    cases hg : goodS (B M) o
    · rw [hg] at KGD hD
      rw [if_neg (by decide)] at hD
      have HD := Lib.hid hD
      clear hD hDD hg hn hm h hs sm sm5 hvm hvo hgt hT10
      go_enter Tryz.func29, Tryz.ntmps29
      go_wp2_with (first
        | (go_at_call 86; (with_reducible refine (KV1.out _).mono ?_); rintro e w0 ⟨rfl, rfl⟩)
        | (go_at_call 86; (with_reducible refine (KV2.out _).mono ?_); rintro e w0 ⟨rfl, rfl⟩)
        | (go_at_call 87; (with_reducible refine (KWF.out _ HA0.out.bel).mono ?_); rintro e w1 ⟨rfl, hb1⟩
           have HA1 := Lib.hid (HA0.out.next hb1)
           obtain ⟨g0, g1, t0, t1, t2, _, _, _, _, _⟩ := HA1.out
           clear hb1)
        | (go_at_call 88; (with_reducible refine (KGD.out _).mono ?_); rintro e w2 ⟨rfl, hb2⟩
           have HA2 := Lib.hid (HA1.out.next hb2)
           obtain ⟨r0, r1, r2, h0, h1, h2⟩ := HA2.out.r0
           clear hb2))
      rw [HD.out]
      exact bodyPost_ret (v := .tuple #[.string ⟨#[]⟩, .agg #[.slice none 0 0, .string ⟨#[]⟩, .int .i64 0], .int .i64 13]) (by simp [results, Tryz.results29, go_sem, r0, r1, r2]) rfl ⟨.inr ⟨by decide, rfl⟩, HA2.out.bel3⟩
    · rw [if_pos hg] at hD
      rw [hg] at KGD
      have hM1 : M < 18446744073709551616 := by have := u64_of_size' sm; rwa [num_B] at this
      have hM0 : 1 ≤ M := goodS_pos hg
      have HM := Lib.hid (And.intro hM0 hM1)
      have HSM := Lib.hid sm
      have HS := Lib.hid h
      have HN := Lib.hid hn
      have HHS := Lib.hid (And.intro hs hm)
      have HT := Lib.hid hT10
      obtain ⟨T, hT2⟩ : ∃ T, T = 64 := ⟨_, rfl⟩
      rw [← hT2] at hD
      have HTT := Lib.hid hT2
      have HD := Lib.hid hD
      clear hD hDD hg hn hm h hs sm sm5 hvm hvo hgt hT2 hM0 hM1 hT10
      go_enter Tryz.func29, Tryz.ntmps29
      go_wp2_with (first
        | (go_at_call 86; (with_reducible refine (KV1.out _).mono ?_); rintro e w0 ⟨rfl, rfl⟩)
        | (go_at_call 86; (with_reducible refine (KV2.out _).mono ?_); rintro e w0 ⟨rfl, rfl⟩)
        | (go_at_call 87; (with_reducible refine (KWF.out _ HA0.out.bel).mono ?_); rintro e w1 ⟨rfl, hb1⟩
           have HA1 := Lib.hid (HA0.out.next hb1)
           obtain ⟨g0, g1, t0, t1, t2, _, _, _, _, _⟩ := HA1.out
           clear hb1)
        | (go_at_call 88; (with_reducible refine (KGD.out _).mono ?_); rintro e w2 ⟨rfl, hb2⟩
           have HA2 := Lib.hid (HA1.out.next hb2)
           clear hb2))
      clear t0 t1 t2 g0 g1
      go_loopw [32] (fun v wr => ∃ (i : Nat) (A' : Option Addr) (c' : Nat), v = .int .i64 i ∧ i ≤ 64 ∧ SqB w wr (B M) o A' n c' seed (z + i) ∧ SLs wr wr.heap.size A' vals ∧ squL vals seed (B M) o (T - i) (z + i) = D) (fun v _ => T - (intOf v).toNat)
      case atStart => exact ⟨0, A, c, rfl, by decide, by simpa using HA2.out, (HS.out.below HA2.out.bel).more HA2.out.bel.size, by rw [HD.out]; simp⟩
      case round =>
        clear HA0 HA1 HA2
        obtain ⟨i, A', c', rfl, hi, hat, hsl, hse⟩ := hrel
        have HA := Lib.hid hat
        have HSL := Lib.hid hsl
        have HSE := Lib.hid hse
        clear hat hsl hse
        by_cases hlt : i < 64
        · obtain ⟨zi, hzi⟩ : ∃ zi, zi = z + (i : Int) := ⟨_, rfl⟩
          rw [← hzi] at HA HSE
          obtain ⟨d, hd⟩ : ∃ d, d = belowS vals seed zi M := ⟨_, rfl⟩
          have hd' : d = belowS vals seed zi (num (B M)) := by rw [num_B]; exact hd
          have hKB := coins_Below vals A' n c' seed zi M wr HN.out HHS.out.2 HSL.out HM.out.1 HM.out.2 HHS.out.1 (HT.out.below HA.out.bel)
          rw [← hd] at hKB
          have t0 := HA.out.t0
          have t1 := HA.out.t1
          have t2 := HA.out.t2
          have g0 := HA.out.g0
          have p1 : decide ((i : Int) < 64) = true := by rw [decide_eq_true_eq]; omega
          have HLT := Lib.hid hlt
          have HZI := Lib.hid hzi
          have HDD := Lib.hid hd'
          by_cases h0 : d.1 = 0
          · have hx : d.2 < M := by rw [hd]; exact belowS_lt HM.out.1 (by rw [← hd]; exact h0)
            obtain ⟨x, hxd⟩ : ∃ x, x = d.2 := ⟨_, rfl⟩
            have KE := Lib.hid (hKB.mono (R' := fun e w' => (∃ g, e = .returned (.tuple #[.string (B x), .agg #[.slice (some ⟨g, 0, none⟩) n n, .string seed, .int .i64 (zi + 1)], .int .i64 0]) ∧ SLs w' w'.heap.size (some ⟨g, 0, none⟩) vals) ∧ Below wr.heap.size wr w') (by
              rintro e w' ⟨⟨_, hp⟩ | ⟨h, _⟩, hb⟩
              · rw [hxd]; exact ⟨hp, hb⟩
              · exact absurd h0 h))
            rw [← hxd] at hx
            have KHA := Lib.hid (fun w => rsagroup_Has (B M) o (B x) w HSM.out)
            have HXX := Lib.hid (And.intro hxd (And.intro hx h0))
            cases hh : hasS (B M) o (B x)
            · rw [hh] at KHA
              have hse : squL vals seed (B M) o (T - (i + 1)) (z + (i + 1 : Nat)) = D := by
                rw [← HSE.out, show T - i = (T - (i + 1)) + 1 by have := HTT.out; omega]
                rw [squL_on (by rw [← HDD.out]; exact h0) (by rw [← HDD.out, ← hxd]; exact hh)]
                rw [zi_next HZI.out]
              have HSE2 := Lib.hid hse
              clear hKB hlt hzi hd hd' h0 hi hx hxd hh hse
              go_wp2_with (first
                | (go_at_call 89; (with_reducible refine KE.out.mono ?_); rintro e w2 ⟨⟨g, rfl, hsl⟩, hb2⟩
                   have HA2 := Lib.hid (HA.out.next hb2)
                   have HSL2 := Lib.hid hsl
                   skip
                   have HA3 := Lib.hid (HA2.out.box (.cells #[.slice (some ⟨g, 0, none⟩) n n, .string seed, .int .i64 (zi + 1)] 24))
                   have lt2 := HA2.out.lt
                   obtain ⟨g0, g1, t0, t1, t2, f0, f1, f2, _, _⟩ := HA3.out
                   have e0 : ¬ w2.heap.size = w.heap.size := by omega
                   have e1 : ¬ w.heap.size = w2.heap.size := by omega
                   have e2 : ¬ w2.heap.size = w.heap.size + 1 := by omega
                   have e3 : ¬ w.heap.size + 1 = w2.heap.size := by omega
                   have HB2 := Lib.hid hb2
                   clear hb2 hsl lt2)
                | (go_at_call 90; have HA4 := Lib.hid (HA3.out.put (A' := (some ⟨g, 0, none⟩)) (n' := n) (c' := n) (seed' := seed) (z' := zi + 1)); (with_reducible refine (KHA.out _).mono ?_); rintro e w4 ⟨rfl, hb4⟩
                   have HA5 := Lib.hid (HA4.out.next hb4)
                   have HSL5 : Hid (SLs w4 w4.heap.size (some ⟨g, 0, none⟩) vals) := Lib.hid (SLs.last HSL2.out HA3.out.t0 hb4)
                   clear hb4))
              go_roundw
              case rel => exact ⟨i + 1, (some ⟨g, 0, none⟩), n, step64 (Nat.lt_trans HLT.out (by decide)), HLT.out, by have := HA5.out; rwa [zi_next HZI.out], HSL5.out, HSE2.out⟩
              case measure => exact measT (by rw [HTT.out]; exact HLT.out) (Nat.lt_trans HLT.out (by decide))
            · rw [hh] at KHA
              obtain ⟨y, hy⟩ : ∃ y, y = x * x % M := ⟨_, rfl⟩
              have hse : D = (0, y, zi + 1) := by
                rw [← HSE.out, show T - i = (T - (i + 1)) + 1 by have := HTT.out; have := HLT.out; omega]
                rw [squL_hit (by rw [← HDD.out]; exact h0) (by rw [← HDD.out, ← hxd]; exact hh), ← HDD.out, ← hxd, num_B, ← hy]
              have HSE2 := Lib.hid hse
              have KMU := Lib.hid (fun w => modular_Mul x x M w (Nat.lt_trans hx HM.out.2) (Nat.lt_trans hx HM.out.2) HM.out.2 HM.out.1)
              rw [← hy] at KMU
              clear hKB hlt hzi hd hd' h0 hi hx hxd hh hse hy
              go_wp2_with (first
                | (go_at_call 89; (with_reducible refine KE.out.mono ?_); rintro e w2 ⟨⟨g, rfl, hsl⟩, hb2⟩
                   have HA2 := Lib.hid (HA.out.next hb2)
                   have HSL2 := Lib.hid hsl
                   skip
                   have HA3 := Lib.hid (HA2.out.box (.cells #[.slice (some ⟨g, 0, none⟩) n n, .string seed, .int .i64 (zi + 1)] 24))
                   have lt2 := HA2.out.lt
                   obtain ⟨g0, g1, t0, t1, t2, f0, f1, f2, _, _⟩ := HA3.out
                   have e0 : ¬ w2.heap.size = w.heap.size := by omega
                   have e1 : ¬ w.heap.size = w2.heap.size := by omega
                   have e2 : ¬ w2.heap.size = w.heap.size + 1 := by omega
                   have e3 : ¬ w.heap.size + 1 = w2.heap.size := by omega
                   have HB2 := Lib.hid hb2
                   clear hb2 hsl lt2)
                | (go_at_call 90; have HA4 := Lib.hid (HA3.out.put (A' := (some ⟨g, 0, none⟩)) (n' := n) (c' := n) (seed' := seed) (z' := zi + 1)); (with_reducible refine (KHA.out _).mono ?_); rintro e w4 ⟨rfl, hb4⟩
                   have HA5 := Lib.hid (HA4.out.next hb4)
                   have HSL5 : Hid (SLs w4 w4.heap.size (some ⟨g, 0, none⟩) vals) := Lib.hid (SLs.last HSL2.out HA3.out.t0 hb4)
                   obtain ⟨g0, g1, t0, t1, t2, f0, f1, f2, _, _⟩ := HA5.out
                   clear hb4)
                | (go_at_call 91; (with_reducible refine (KMU.out _).mono ?_); rintro e w6 ⟨rfl, hb6⟩
                   have HA6 := Lib.hid (HA5.out.next hb6)
                   have HSL6 : Hid (SLs w6 w6.heap.size (some ⟨g, 0, none⟩) vals) := Lib.hid (HSL5.out.to hb6)
                   obtain ⟨g0, g1, t0, t1, t2, f0, f1, f2, _, _⟩ := HA6.out
                   obtain ⟨r0, r1, r2, h0, h1, h2⟩ := HA6.out.r0
                   clear hb6))
              go_region_held3 (fun w' => w'.cell? ⟨w.heap.size + 1, 0, none⟩ = some (.slice (some ⟨g, 0, none⟩) n n) ∧ w'.cell? ⟨w.heap.size + 1, 1, none⟩ = some (.string seed) ∧ w'.cell? ⟨w.heap.size + 1, 2, none⟩ = some (.int .i64 (zi + 1))) (first | go_keep) (first | fail)
              all_goals
                go_wp2_with fail
                rw [HSE2.out]
                refine bodyPost_ret (v := .tuple #[.string (B y), .agg #[.slice (some ⟨g, 0, none⟩) n n, .string seed, .int .i64 (zi + 1)], .int .i64 0]) (by simp [results, Tryz.results29, go_sem, r0, r1, r2]) rfl ⟨.inl ⟨rfl, _, rfl, by first | exact SLs.put0' HSL6.out r0 | exact SLs.put0' (SLs.to HSL6.out (Below.refl _ _).drew) r0 | exact SLs.to (SLs.put0' HSL6.out r0) (Below.refl _ _).drew⟩, by first | exact HA6.out.bel3 | exact HA6.out.drew.bel3 | exact HA6.out.bel3.drew⟩
          · have KE := Lib.hid (hKB.mono (R' := fun e w' => e = .returned (.tuple #[.string ⟨#[]⟩, .agg #[.slice none 0 0, .string ⟨#[]⟩, .int .i64 0], .int .i64 d.1]) ∧ Below wr.heap.size wr w') (by
              rintro e w' ⟨⟨h, _⟩ | ⟨_, hp⟩, hb⟩
              · exact absurd h h0
              · exact ⟨hp, hb⟩))
            have hDe : D = (d.1, 0, 0) := by
              rw [← HSE.out, hd', show T - i = (T - i - 1) + 1 by have := HTT.out; omega]
              exact squL_err (by rw [← hd']; exact h0)
            obtain ⟨er, her⟩ : ∃ er, er = d.1 := ⟨_, rfl⟩
            have hne : (er == 0) = false := by rw [her, beq_eq_false_iff_ne]; exact h0
            rw [← her] at KE hDe
            have HER := Lib.hid (show er ≠ 0 by rw [her]; exact h0)
            have HDE := Lib.hid hDe
            clear hKB hlt hzi hd hd' h0 hDe hi her
            go_wp2_with (first
              | (go_at_call 89; (with_reducible refine KE.out.mono ?_); rintro e w2 ⟨rfl, hb2⟩
                 have HA2 := Lib.hid (HA.out.next hb2)
                 have HA3 := Lib.hid (HA2.out.box (.cells #[.slice none 0 0, .string ⟨#[]⟩, .int .i64 0] 24))
                 have lt2 := HA2.out.lt
                 obtain ⟨g0, g1, t0, t1, t2, f0, f1, f2, _, _⟩ := HA3.out
                 obtain ⟨r0, r1, r2, h0, h1, h2⟩ := HA2.out.r0
                 have ltx := HA2.out.lt
                 have e0 : ¬ w2.heap.size = w.heap.size := by { omega }
                 have e1 : ¬ w.heap.size = w2.heap.size := by { omega }
                 have e2 : ¬ w2.heap.size = w.heap.size + 1 := by { omega }
                 have e3 : ¬ w.heap.size + 1 = w2.heap.size := by { omega }
                 have e4 : ¬ w2.heap.size = w.heap.size + 1 + 1 := by { omega }
                 have e5 : ¬ w.heap.size + 1 + 1 = w2.heap.size := by { omega }
                 clear hb2))
            rw [HDE.out]
            exact bodyPost_ret (v := .tuple #[.string ⟨#[]⟩, .agg #[.slice none 0 0, .string ⟨#[]⟩, .int .i64 0], .int .i64 er]) (by simp [results, Tryz.results29, go_sem, r0, r1, r2, ltx]) rfl ⟨.inr ⟨HER.out, rfl⟩, by first | exact HA3.out.bel3 | exact HA2.out.bel3.alloc (by have := HA2.out.lt; simp; omega) _⟩
        · have p1 : decide ((i : Int) < 64) = false := by rw [decide_eq_false_iff_not]; omega
          have hDe : D = (14, 0, 0) := by
            rw [← HSE.out, show T - i = 0 by have := HTT.out; omega]
            rfl
          have HDE := Lib.hid hDe
          obtain ⟨r0, r1, r2, h0, h1, h2⟩ := HA.out.r0
          clear hlt hDe hi
          go_wp2_with fail
          rw [HDE.out]
          exact bodyPost_ret (v := .tuple #[.string ⟨#[]⟩, .agg #[.slice none 0 0, .string ⟨#[]⟩, .int .i64 0], .int .i64 14]) (by simp [results, Tryz.results29, go_sem, r0, r1, r2]) rfl ⟨.inr ⟨by decide, rfl⟩, HA.out.bel3⟩
  · rw [if_neg hf] at hD
    have HD := Lib.hid hD
    clear hD hDD hn hm h hs sm sm5 hT10
    cases hvm : valid m
    · rw [hvm] at KV1
      clear hf hvm
      go_enter Tryz.func29, Tryz.ntmps29
      go_wp2_with (first
        | (go_at_call 86; (with_reducible refine (KV1.out _).mono ?_); rintro e w0 ⟨rfl, rfl⟩))
      obtain ⟨r0, r1, r2, h0, h1, h2⟩ := HA0.out.r0
      rw [HD.out]
      exact bodyPost_ret (v := .tuple #[.string ⟨#[]⟩, .agg #[.slice none 0 0, .string ⟨#[]⟩, .int .i64 0], .int .i64 3]) (by simp [results, Tryz.results29, go_sem, r0, r1, r2]) rfl ⟨.inr ⟨by decide, rfl⟩, by first | exact HA0.out.bel3 | exact HA0.out.bel⟩
    · cases hvo : valid o
      · rw [hvm] at KV1
        rw [hvo] at KV2
        clear hf hvm hvo
        go_enter Tryz.func29, Tryz.ntmps29
        go_wp2_with (first
          | (go_at_call 86; (with_reducible refine (KV1.out _).mono ?_); rintro e w0 ⟨rfl, rfl⟩)
          | (go_at_call 86; (with_reducible refine (KV2.out _).mono ?_); rintro e w0 ⟨rfl, rfl⟩))
        obtain ⟨r0, r1, r2, h0, h1, h2⟩ := HA0.out.r0
        rw [HD.out]
        exact bodyPost_ret (v := .tuple #[.string ⟨#[]⟩, .agg #[.slice none 0 0, .string ⟨#[]⟩, .int .i64 0], .int .i64 3]) (by simp [results, Tryz.results29, go_sem, r0, r1, r2]) rfl ⟨.inr ⟨by decide, rfl⟩, by first | exact HA0.out.bel3 | exact HA0.out.bel⟩
      · have hgt : goodT vals z = false := by
          rw [hvm, hvo] at hf
          simpa using hf
        rw [hvm] at KV1
        rw [hvo] at KV2
        rw [hgt] at KWF
        clear hf hvm hvo hgt
        go_enter Tryz.func29, Tryz.ntmps29
        go_wp2_with (first
          | (go_at_call 86; (with_reducible refine (KV1.out _).mono ?_); rintro e w0 ⟨rfl, rfl⟩)
          | (go_at_call 86; (with_reducible refine (KV2.out _).mono ?_); rintro e w0 ⟨rfl, rfl⟩)
          | (go_at_call 87; (with_reducible refine (KWF.out _ HA0.out.bel).mono ?_); rintro e w1 ⟨rfl, hb1⟩
             have HA1 := Lib.hid (HA0.out.next hb1)
             obtain ⟨r0, r1, r2, h0, h1, h2⟩ := HA1.out.r0
             clear hb1))
        rw [HD.out]
        exact bodyPost_ret (v := .tuple #[.string ⟨#[]⟩, .agg #[.slice none 0 0, .string ⟨#[]⟩, .int .i64 0], .int .i64 3]) (by simp [results, Tryz.results29, go_sem, r0, r1, r2]) rfl ⟨.inr ⟨by decide, rfl⟩, HA1.out.bel3⟩
theorem r10_Square (m o : ByteArray) (vals : List ByteArray) (A : Option Addr) (n c : Nat) (seed : ByteArray) (z : Int) (w : World) (sm : m.size ≤ 8) (hn : vals.length = n) (hm : n ≤ 1000) (h : SLs w w.heap.size A vals) (hs : seed.size ≤ 100000) :
    Calls Tryz.prog 30 #[.agg #[.string m, .string o], .agg #[.slice A n c, .string seed, .int .i64 z]] w fun e w' => searchPostR w.heap.size (squD vals seed m o z) n seed vals e w' ∧ Below w.heap.size w w' := by
  have HA0 := Lib.hid (SqB.start w m o A n c seed z)
  have KWF := Lib.hid (fun wq (h1 : Below w.heap.size w wq) => r06_Good vals A n c seed z wq hn (Nat.le_trans hm (by decide)) (h.to h1))
  have KV1 := Lib.hid (fun w => r10_canonical m o w)
  have sm5 : m.size ≤ 100000 := by omega
  have KGD := Lib.hid (fun w => r10_Good m o w sm5)
  have hD : squD vals seed m o z = if (valid m && valid o) && goodT vals z then (if goodS m o = true then squL vals seed m o 64 z else (13, 0, 0)) else (3, 0, 0) := rfl
  obtain ⟨D, hDD⟩ : ∃ D, D = squD vals seed m o z := ⟨_, rfl⟩
  rw [← hDD] at hD ⊢
  by_cases hf : ((valid m && valid o) && goodT vals z) = true
  · rw [if_pos hf] at hD
    rw [Bool.and_eq_true, Bool.and_eq_true] at hf
    obtain ⟨⟨hvm, hvo⟩, hgt⟩ := hf
    obtain ⟨M, rfl⟩ : ∃ M, m = B M := ⟨num m, (B_num hvm).symm⟩
    rw [hvm, hvo] at KV1
    rw [hgt] at KWF
    cases hg : goodS (B M) o
    · rw [hg] at KGD hD
      rw [if_neg (by decide)] at hD
      have HD := Lib.hid hD
      clear hD hDD hg hn hm h hs sm sm5 hvm hvo hgt 
      go_enter Tryz.func30, Tryz.ntmps30
      go_wp2_with (first
        | (go_at_call 92; (with_reducible refine (KV1.out _).mono ?_); rintro e w0 ⟨rfl, hb0⟩
           have HAx := Lib.hid (HA0.out.next hb0)
           obtain ⟨g0, g1, t0, t1, t2, _, _, _, _, _⟩ := HAx.out
           clear hb0)
        | (go_at_call 72; (with_reducible refine (KWF.out _ HAx.out.bel).mono ?_); rintro e w1 ⟨rfl, hb1⟩
           have HA1 := Lib.hid (HAx.out.next hb1)
           obtain ⟨g0, g1, t0, t1, t2, _, _, _, _, _⟩ := HA1.out
           clear hb1)
        | (go_at_call 93; (with_reducible refine (KGD.out _).mono ?_); rintro e w2 ⟨rfl, hb2⟩
           have HA2 := Lib.hid (HA1.out.next hb2)
           obtain ⟨r0, r1, r2, h0, h1, h2⟩ := HA2.out.r0
           clear hb2))
      rw [HD.out]
      exact bodyPost_ret (v := .tuple #[.string ⟨#[]⟩, .agg #[.slice none 0 0, .string ⟨#[]⟩, .int .i64 0], .int .i64 13]) (by simp [results, Tryz.results30, go_sem, r0, r1, r2]) rfl ⟨.inr ⟨by decide, rfl⟩, HA2.out.bel3⟩
    · rw [if_pos hg] at hD
      rw [hg] at KGD
      have hM1 : M < 18446744073709551616 := by have := u64_of_size' sm; rwa [num_B] at this
      have hM0 : 1 ≤ M := goodS_pos hg
      have HM := Lib.hid (And.intro hM0 hM1)
      have HSM := Lib.hid sm
      have HS := Lib.hid h
      have HN := Lib.hid hn
      have HHS := Lib.hid (And.intro hs hm)

      obtain ⟨T, hT2⟩ : ∃ T, T = 64 := ⟨_, rfl⟩
      rw [← hT2] at hD
      have HTT := Lib.hid hT2
      have HD := Lib.hid hD
      clear hD hDD hg hn hm h hs sm sm5 hvm hvo hgt hT2 hM0 hM1 
      go_enter Tryz.func30, Tryz.ntmps30
      go_wp2_with (first
        | (go_at_call 92; (with_reducible refine (KV1.out _).mono ?_); rintro e w0 ⟨rfl, hb0⟩
           have HAx := Lib.hid (HA0.out.next hb0)
           obtain ⟨g0, g1, t0, t1, t2, _, _, _, _, _⟩ := HAx.out
           clear hb0)
        | (go_at_call 72; (with_reducible refine (KWF.out _ HAx.out.bel).mono ?_); rintro e w1 ⟨rfl, hb1⟩
           have HA1 := Lib.hid (HAx.out.next hb1)
           obtain ⟨g0, g1, t0, t1, t2, _, _, _, _, _⟩ := HA1.out
           clear hb1)
        | (go_at_call 93; (with_reducible refine (KGD.out _).mono ?_); rintro e w2 ⟨rfl, hb2⟩
           have HA2 := Lib.hid (HA1.out.next hb2)
           clear hb2))
      clear t0 t1 t2 g0 g1
      go_loopw [7] (fun v wr => ∃ (i : Nat) (A' : Option Addr) (c' : Nat), v = .int .i64 i ∧ i ≤ 64 ∧ SqB w wr (B M) o A' n c' seed (z + i) ∧ SLs wr wr.heap.size A' vals ∧ squL vals seed (B M) o (T - i) (z + i) = D) (fun v _ => T - (intOf v).toNat)
      case atStart => exact ⟨0, A, c, rfl, by decide, by simpa using HA2.out, (HS.out.below HA2.out.bel).more HA2.out.bel.size, by rw [HD.out]; simp⟩
      case round =>
        clear HA0 HA1 HA2
        obtain ⟨i, A', c', rfl, hi, hat, hsl, hse⟩ := hrel
        have HA := Lib.hid hat
        have HSL := Lib.hid hsl
        have HSE := Lib.hid hse
        clear hat hsl hse
        by_cases hlt : i < 64
        · obtain ⟨zi, hzi⟩ : ∃ zi, zi = z + (i : Int) := ⟨_, rfl⟩
          rw [← hzi] at HA HSE
          obtain ⟨d, hd⟩ : ∃ d, d = belowS vals seed zi M := ⟨_, rfl⟩
          have hd' : d = belowS vals seed zi (num (B M)) := by rw [num_B]; exact hd
          have hKB := r06_Below vals A' n c' seed zi M wr HN.out HHS.out.2 HSL.out HM.out.1 HM.out.2 HHS.out.1
          rw [← hd] at hKB
          have t0 := HA.out.t0
          have t1 := HA.out.t1
          have t2 := HA.out.t2
          have g0 := HA.out.g0
          have p1 : decide ((i : Int) < 64) = true := by rw [decide_eq_true_eq]; omega
          have HLT := Lib.hid hlt
          have HZI := Lib.hid hzi
          have HDD := Lib.hid hd'
          by_cases h0 : d.1 = 0
          · have hx : d.2 < M := by rw [hd]; exact belowS_lt HM.out.1 (by rw [← hd]; exact h0)
            obtain ⟨x, hxd⟩ : ∃ x, x = d.2 := ⟨_, rfl⟩
            have KE := Lib.hid (hKB.mono (R' := fun e w' => (∃ A2 c2, e = .returned (.tuple #[.string (B x), .agg #[.slice A2 n c2, .string seed, .int .i64 (zi + 1)], .int .i64 0]) ∧ SLs w' w'.heap.size A2 vals ∧ ∀ a, A2 = some a → wr.heap.size ≤ a.block) ∧ Below wr.heap.size wr w') (by
              rintro e w' ⟨⟨_, hp⟩ | ⟨h, _⟩, hb⟩
              · rw [hxd]; exact ⟨hp, hb⟩
              · exact absurd h0 h))
            rw [← hxd] at hx
            have KHA := Lib.hid (fun w => r10_Has (B M) o (B x) w HSM.out)
            have HXX := Lib.hid (And.intro hxd (And.intro hx h0))
            cases hh : hasS (B M) o (B x)
            · rw [hh] at KHA
              have hse : squL vals seed (B M) o (T - (i + 1)) (z + (i + 1 : Nat)) = D := by
                rw [← HSE.out, show T - i = (T - (i + 1)) + 1 by have := HTT.out; omega]
                rw [squL_on (by rw [← HDD.out]; exact h0) (by rw [← HDD.out, ← hxd]; exact hh)]
                rw [zi_next HZI.out]
              have HSE2 := Lib.hid hse
              clear hKB hlt hzi hd hd' h0 hi hx hxd hh hse
              go_wp2_with (first
                | (go_at_call 94; (with_reducible refine KE.out.mono ?_); rintro e w2 ⟨⟨A2, c2, rfl, hsl, hfr⟩, hb2⟩
                   have HA2 := Lib.hid (HA.out.next hb2)
                   have HSL2 := Lib.hid hsl
                   have HFR := Lib.hid (fun a e => Nat.lt_of_lt_of_le HA.out.lt (hfr a e)); clear hfr
                   have HA3 := Lib.hid (HA2.out.box (.cells #[.slice A2 n c2, .string seed, .int .i64 (zi + 1)] 24))
                   have lt2 := HA2.out.lt
                   obtain ⟨g0, g1, t0, t1, t2, f0, f1, f2, _, _⟩ := HA3.out
                   have e0 : ¬ w2.heap.size = w.heap.size := by omega
                   have e1 : ¬ w.heap.size = w2.heap.size := by omega
                   have e2 : ¬ w2.heap.size = w.heap.size + 1 := by omega
                   have e3 : ¬ w.heap.size + 1 = w2.heap.size := by omega
                   have HB2 := Lib.hid hb2
                   clear hb2 hsl lt2)
                | (go_at_call 95; have HA4 := Lib.hid (HA3.out.put (A' := A2) (n' := n) (c' := c2) (seed' := seed) (z' := zi + 1)); (with_reducible refine (KHA.out _).mono ?_); rintro e w4 ⟨rfl, hb4⟩
                   have HA5 := Lib.hid (HA4.out.next hb4)
                   have HSL5 : Hid (SLs w4 w4.heap.size A2 vals) := Lib.hid ((SLs.far (b := w.heap.size + 1) (x := .slice A2 n c2) (y := .string seed) (t := .int .i64 (zi + 1)) (HSL2.out.to ((Below.refl _ _).alloc (Nat.le_refl _) (.cells #[.slice A2 n c2, .string seed, .int .i64 (zi + 1)] 24))) (fun a e => by have := HFR.out a e; omega) |>.more (by simp)).to hb4)
                   clear hb4))
              go_roundw
              case rel => exact ⟨i + 1, A2, c2, step64 (Nat.lt_trans HLT.out (by decide)), HLT.out, by have := HA5.out; rwa [zi_next HZI.out], HSL5.out, HSE2.out⟩
              case measure => exact measT (by rw [HTT.out]; exact HLT.out) (Nat.lt_trans HLT.out (by decide))
            · rw [hh] at KHA
              obtain ⟨y, hy⟩ : ∃ y, y = x * x % M := ⟨_, rfl⟩
              have hse : D = (0, y, zi + 1) := by
                rw [← HSE.out, show T - i = (T - (i + 1)) + 1 by have := HTT.out; have := HLT.out; omega]
                rw [squL_hit (by rw [← HDD.out]; exact h0) (by rw [← HDD.out, ← hxd]; exact hh), ← HDD.out, ← hxd, num_B, ← hy]
              have HSE2 := Lib.hid hse
              have KMU := Lib.hid (fun w => r03_Mul x x M w hx hx HM.out.2)
              rw [← hy] at KMU
              clear hKB hlt hzi hd hd' h0 hi hx hxd hh hse hy
              go_wp2_with (first
                | (go_at_call 94; (with_reducible refine KE.out.mono ?_); rintro e w2 ⟨⟨A2, c2, rfl, hsl, hfr⟩, hb2⟩
                   have HA2 := Lib.hid (HA.out.next hb2)
                   have HSL2 := Lib.hid hsl
                   have HFR := Lib.hid (fun a e => Nat.lt_of_lt_of_le HA.out.lt (hfr a e)); clear hfr
                   have HA3 := Lib.hid (HA2.out.box (.cells #[.slice A2 n c2, .string seed, .int .i64 (zi + 1)] 24))
                   have lt2 := HA2.out.lt
                   obtain ⟨g0, g1, t0, t1, t2, f0, f1, f2, _, _⟩ := HA3.out
                   have e0 : ¬ w2.heap.size = w.heap.size := by omega
                   have e1 : ¬ w.heap.size = w2.heap.size := by omega
                   have e2 : ¬ w2.heap.size = w.heap.size + 1 := by omega
                   have e3 : ¬ w.heap.size + 1 = w2.heap.size := by omega
                   have HB2 := Lib.hid hb2
                   clear hb2 hsl lt2)
                | (go_at_call 95; have HA4 := Lib.hid (HA3.out.put (A' := A2) (n' := n) (c' := c2) (seed' := seed) (z' := zi + 1)); (with_reducible refine (KHA.out _).mono ?_); rintro e w4 ⟨rfl, hb4⟩
                   have HA5 := Lib.hid (HA4.out.next hb4)
                   have HSL5 : Hid (SLs w4 w4.heap.size A2 vals) := Lib.hid ((SLs.far (b := w.heap.size + 1) (x := .slice A2 n c2) (y := .string seed) (t := .int .i64 (zi + 1)) (HSL2.out.to ((Below.refl _ _).alloc (Nat.le_refl _) (.cells #[.slice A2 n c2, .string seed, .int .i64 (zi + 1)] 24))) (fun a e => by have := HFR.out a e; omega) |>.more (by simp)).to hb4)
                   obtain ⟨g0, g1, t0, t1, t2, f0, f1, f2, _, _⟩ := HA5.out
                   clear hb4)
                | (go_at_call 96; (with_reducible refine (KMU.out _).mono ?_); rintro e w6 ⟨rfl, hb6⟩
                   have HA6 := Lib.hid (HA5.out.next hb6)
                   have HSL6 : Hid (SLs w6 w6.heap.size A2 vals) := Lib.hid (HSL5.out.to hb6)
                   obtain ⟨g0, g1, t0, t1, t2, f0, f1, f2, _, _⟩ := HA6.out
                   obtain ⟨r0, r1, r2, h0, h1, h2⟩ := HA6.out.r0
                   clear hb6))
              go_region_held3 (fun w' => w'.cell? ⟨w.heap.size + 1, 0, none⟩ = some (.slice A2 n c2) ∧ w'.cell? ⟨w.heap.size + 1, 1, none⟩ = some (.string seed) ∧ w'.cell? ⟨w.heap.size + 1, 2, none⟩ = some (.int .i64 (zi + 1))) (first | go_keep) (first | fail)
              all_goals
                go_wp2_with fail
                rw [HSE2.out]
                refine bodyPost_ret (v := .tuple #[.string (B y), .agg #[.slice A2 n c2, .string seed, .int .i64 (zi + 1)], .int .i64 0]) (by simp [results, Tryz.results30, go_sem, r0, r1, r2]) rfl ⟨.inl ⟨rfl, A2, c2, rfl, by first | exact (SLs.far (b := w.heap.size + 1 + 1) HSL6.out (fun a e => by have := HFR.out a e; omega)).more (by simp) | exact (SLs.far (b := w.heap.size + 1 + 1) (HSL6.out.to (Below.refl _ _).drew) (fun a e => by have := HFR.out a e; omega)).more (by simp) | exact SLs.to ((SLs.far (b := w.heap.size + 1 + 1) HSL6.out (fun a e => by have := HFR.out a e; omega)).more (by simp)) (Below.refl _ _).drew, fun a e => by have := HFR.out a e; omega⟩, by first | exact HA6.out.bel3 | exact HA6.out.drew.bel3 | exact HA6.out.bel3.drew⟩
          · have KE := Lib.hid (hKB.mono (R' := fun e w' => e = .returned (.tuple #[.string ⟨#[]⟩, .agg #[.slice none 0 0, .string ⟨#[]⟩, .int .i64 0], .int .i64 d.1]) ∧ Below wr.heap.size wr w') (by
              rintro e w' ⟨⟨h, _⟩ | ⟨_, hp⟩, hb⟩
              · exact absurd h h0
              · exact ⟨hp, hb⟩))
            have hDe : D = (d.1, 0, 0) := by
              rw [← HSE.out, hd', show T - i = (T - i - 1) + 1 by have := HTT.out; omega]
              exact squL_err (by rw [← hd']; exact h0)
            obtain ⟨er, her⟩ : ∃ er, er = d.1 := ⟨_, rfl⟩
            have hne : (er == 0) = false := by rw [her, beq_eq_false_iff_ne]; exact h0
            rw [← her] at KE hDe
            have HER := Lib.hid (show er ≠ 0 by rw [her]; exact h0)
            have HDE := Lib.hid hDe
            clear hKB hlt hzi hd hd' h0 hDe hi her
            go_wp2_with (first
              | (go_at_call 94; (with_reducible refine KE.out.mono ?_); rintro e w2 ⟨rfl, hb2⟩
                 have HA2 := Lib.hid (HA.out.next hb2)
                 have HA3 := Lib.hid (HA2.out.box (.cells #[.slice none 0 0, .string ⟨#[]⟩, .int .i64 0] 24))
                 have lt2 := HA2.out.lt
                 obtain ⟨g0, g1, t0, t1, t2, f0, f1, f2, _, _⟩ := HA3.out
                 obtain ⟨r0, r1, r2, h0, h1, h2⟩ := HA2.out.r0
                 have ltx := HA2.out.lt
                 have e0 : ¬ w2.heap.size = w.heap.size := by { omega }
                 have e1 : ¬ w.heap.size = w2.heap.size := by { omega }
                 have e2 : ¬ w2.heap.size = w.heap.size + 1 := by { omega }
                 have e3 : ¬ w.heap.size + 1 = w2.heap.size := by { omega }
                 have e4 : ¬ w2.heap.size = w.heap.size + 1 + 1 := by { omega }
                 have e5 : ¬ w.heap.size + 1 + 1 = w2.heap.size := by { omega }
                 clear hb2))
            rw [HDE.out]
            exact bodyPost_ret (v := .tuple #[.string ⟨#[]⟩, .agg #[.slice none 0 0, .string ⟨#[]⟩, .int .i64 0], .int .i64 er]) (by simp [results, Tryz.results30, go_sem, r0, r1, r2, ltx]) rfl ⟨.inr ⟨HER.out, rfl⟩, by first | exact HA3.out.bel3 | exact HA2.out.bel3.alloc (by have := HA2.out.lt; simp; omega) _⟩
        · have p1 : decide ((i : Int) < 64) = false := by rw [decide_eq_false_iff_not]; omega
          have hDe : D = (14, 0, 0) := by
            rw [← HSE.out, show T - i = 0 by have := HTT.out; omega]
            rfl
          have HDE := Lib.hid hDe
          obtain ⟨r0, r1, r2, h0, h1, h2⟩ := HA.out.r0
          clear hlt hDe hi
          go_wp2_with fail
          rw [HDE.out]
          exact bodyPost_ret (v := .tuple #[.string ⟨#[]⟩, .agg #[.slice none 0 0, .string ⟨#[]⟩, .int .i64 0], .int .i64 14]) (by simp [results, Tryz.results30, go_sem, r0, r1, r2]) rfl ⟨.inr ⟨by decide, rfl⟩, HA.out.bel3⟩
  · rw [if_neg hf] at hD
    have HD := Lib.hid hD
    clear hD hDD hn hm h hs sm sm5 
    cases hv : (valid m && valid o)
    · rw [hv] at KV1
      clear hf hv
      go_enter Tryz.func30, Tryz.ntmps30
      go_wp2_with (first
        | (go_at_call 92; (with_reducible refine (KV1.out _).mono ?_); rintro e w0 ⟨rfl, hb0⟩
           have HAx := Lib.hid (HA0.out.next hb0)
           obtain ⟨r0, r1, r2, h0, h1, h2⟩ := HAx.out.r0
           clear hb0))
      rw [HD.out]
      exact bodyPost_ret (v := .tuple #[.string ⟨#[]⟩, .agg #[.slice none 0 0, .string ⟨#[]⟩, .int .i64 0], .int .i64 3]) (by simp [results, Tryz.results30, go_sem, r0, r1, r2]) rfl ⟨.inr ⟨by decide, rfl⟩, HAx.out.bel3⟩
    · have hgt : goodT vals z = false := by
        rw [hv] at hf
        simpa using hf
      rw [hv] at KV1
      rw [hgt] at KWF
      clear hf hv hgt
      go_enter Tryz.func30, Tryz.ntmps30
      go_wp2_with (first
        | (go_at_call 92; (with_reducible refine (KV1.out _).mono ?_); rintro e w0 ⟨rfl, hb0⟩
           have HAx := Lib.hid (HA0.out.next hb0)
           obtain ⟨g0, g1, t0, t1, t2, _, _, _, _, _⟩ := HAx.out
           clear hb0)
        | (go_at_call 72; (with_reducible refine (KWF.out _ HAx.out.bel).mono ?_); rintro e w1 ⟨rfl, hb1⟩
           have HA1 := Lib.hid (HAx.out.next hb1)
           obtain ⟨r0, r1, r2, h0, h1, h2⟩ := HA1.out.r0
           clear hb1))
      rw [HD.out]
      exact bodyPost_ret (v := .tuple #[.string ⟨#[]⟩, .agg #[.slice none 0 0, .string ⟨#[]⟩, .int .i64 0], .int .i64 3]) (by simp [results, Tryz.results30, go_sem, r0, r1, r2]) rfl ⟨.inr ⟨by decide, rfl⟩, HA1.out.bel3⟩

end Go.Proofs.YteifbhmfjchfjaaGreatDoor
