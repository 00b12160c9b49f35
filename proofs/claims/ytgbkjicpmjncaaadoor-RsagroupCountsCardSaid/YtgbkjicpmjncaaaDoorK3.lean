/- The law RsagroupCounts returns true, where the group is good and small. -/
import Derived.Test.YtgbkjicpmjncaaaDoorK2
import Derived.Deep.RegionHeld3
import Derived.Deep.DeepCutAuto
import Derived.Deep.CutBlock
namespace Go.Proofs.YtgbkjicpmjncaaaDoor
open Go.RowKit
set_option maxRecDepth 100000
set_option linter.unusedVariables false
set_option maxHeartbeats 1000000

theorem sq_u64 {x n : Nat} (h : x < n) (hn : n ≤ 1000) : ∃ p R : Nat, x * x = p ∧ x * x % n = R ∧ R < n ∧ ((x : Int) * (x : Int)) = (p : Int) ∧ IntKind.u64.wrap (p : Int) = (p : Int) ∧ ((p : Int).tmod (n : Int)) = (R : Int) ∧ ((p : Int) % (n : Int)) = (R : Int) := by
  have hp : x * x < 1000000 := by
    have := Nat.mul_le_mul (show x ≤ 999 by omega) (show x ≤ 999 by omega)
    omega
  refine ⟨x * x, x * x % n, rfl, rfl, Nat.mod_lt _ (by omega), (Int.natCast_mul x x).symm, ?_, ?_, by simp⟩
  · generalize x * x = p at *
    rw [IntKind.wrap_u64]; omega
  · rw [Int.tmod_eq_emod_of_nonneg (by omega)]; simp
theorem mul_u64 {x g n : Nat} (h : x < n) (hg : g < n) (hn : n ≤ 1000) : ∃ p R : Nat, x * g = p ∧ x * g % n = R ∧ R < n ∧ ((x : Int) * (g : Int)) = (p : Int) ∧ IntKind.u64.wrap (p : Int) = (p : Int) ∧ ((p : Int).tmod (n : Int)) = (R : Int) ∧ ((p : Int) % (n : Int)) = (R : Int) := by
  have hp : x * g < 1000000 := by
    have := Nat.mul_le_mul (show x ≤ 999 by omega) (show g ≤ 999 by omega)
    omega
  refine ⟨x * g, x * g % n, rfl, rfl, Nat.mod_lt _ (by omega), (Int.natCast_mul x g).symm, ?_, ?_, by simp⟩
  · generalize x * g = p at *
    rw [IntKind.wrap_u64]; omega
  · rw [Int.tmod_eq_emod_of_nonneg (by omega)]; simp
set_option maxHeartbeats 8000000 in
theorem law_counts_main (m o p q : ByteArray) (n P Q M : Nat) (w : World) (hT : Tab w) (sm : m.size ≤ 8) (hf : fewS [o, p, q] = true) (hc : checkS m o p q = 0) (hG : Good m o p q n P Q M) :
    Calls Tryd.prog 4 #[.agg #[.string m, .string o], .agg #[.string p, .string q]] w fun r w' => r = .returned (.bool true) ∧ Below w.heap.size w w' := by
  have HG := Lib.hid hG
  have HT := Lib.hid hT
  have HAW := Lib.hid law10_awake
  have hst : CtAt w m o p q (((w.alloc (.cells #[.string m, .string o] 24)).alloc (.cells #[.string p, .string q] 26)).alloc (.cells #[.string o, .string p, .string q] 22)) :=
    ⟨by simp [go_sem], by simp [go_sem], by simp [go_sem], by simp [go_sem], ((hT.alloc _).alloc _).alloc _, (((Below.refl _ _).alloc (Nat.le_refl _) _).alloc (by simp) _).alloc (by simp; omega) _, by simp⟩
  have hrow : SRow (((w.alloc (.cells #[.string m, .string o] 24)).alloc (.cells #[.string p, .string q] 26)).alloc (.cells #[.string o, .string p, .string q] 22)) (w.heap.size + 1 + 1) [o, p, q] := by
    have := SRow.new ((w.alloc (.cells #[.string m, .string o] 24)).alloc (.cells #[.string p, .string q] 26)) 22 [o, p, q]
    simp only [World.size_alloc] at this
    exact this
  have hfew := law10_few [o, p, q] 3 (w.heap.size + 1 + 1) _ rfl (by decide) hrow
  rw [hf] at hfew
  have HS := Lib.hid hst
  have HFW := Lib.hid hfew
  have hck := fun w hT => rsagroup_Check m o p q w sm hT
  rw [hc] at hck
  have HCK := Lib.hid hck
  have hsm := fun w => natural_Small m w
  rw [hG.small] at hsm
  have HSM := Lib.hid hsm
  have ho := fun w hT => rsagroup_Order p q w hT
  rw [hG.order] at ho
  have HO := Lib.hid ho
  have HSM2 := Lib.hid (fun w => natural_Small' M w (by have := hG.mle; omega))
  have n1000 := hG.n1000
  have n8 := hG.n8
  have k1 : decide ((1000 : Int) < (n : Int)) = false := by simp; omega
  have hmk := make_ints n (by omega)
  clear hst hrow hfew hck hsm ho hG hf hc hT
  go_enter Tryd.func4, Tryd.ntmps4
  go_wp2_with (first | (go_at_call 11; (with_reducible refine (HSM.out _).mono ?_); rintro e w' ⟨rfl, rfl⟩) | (go_at_call 5; refine HFW.out.mono ?_; rintro e w' ⟨rfl, rfl⟩) | (go_at_call 6; refine (HCK.out _ HS.out.tab).mono ?_; rintro e w1 ⟨rfl, hb1⟩; have n1 := HS.out.next hb1; have p0 := n1.d0; have p1 := n1.d1; have H1 := Lib.hid n1; clear n1) | (go_at_call 12; refine (HO.out _ H1.out.tab).mono ?_; rintro e w2 ⟨rfl, hb2⟩; have n2 := H1.out.next hb2; have c0 := n2.c0; have c1 := n2.c1; have d0 := n2.d0; have d1 := n2.d1; have H2 := Lib.hid n2; clear n2) | (go_at_call 11; (with_reducible refine (HSM2.out _).mono ?_); rintro e w' ⟨rfl, rfl⟩))
  obtain ⟨r, hr⟩ : ∃ r, w2.heap.size = r := ⟨_, rfl⟩
  have hr1 := H2.out.size
  have HR0 := RowS.new w2 n
  have H3 := H2.out.next ((Below.refl w2.heap.size w2).alloc (Nat.le_refl _) (.cells (intCells (List.replicate n 0)) 3))
  rw [hr] at hr1 HR0 ⊢
  have HW := Lib.hid hr1
  have hl1 := HG.out.counts
  clear hb1 hb2 p0 p1 c0 c1 d0 d1 HSM HCK HFW HO HSM2 HS H1 H2 hmk k1 hr1 hr
  generalize w2.alloc (.cells (intCells (List.replicate n 0)) 3) = w3 at *
  go_loopw [12] (fun vx wr => ∃ x S : Nat, vx = .int .u64 x ∧ 1 ≤ x ∧ x ≤ n ∧ loop1 n P Q M (n - x) x S = true ∧ CtAt w m o p q wr ∧ RowS wr r n S) (fun vx _ => n - (intOf vx).toNat)
  case atStart => exact ⟨1, 0, rfl, by decide, by omega, hl1, H3, HR0⟩
  case round =>
    obtain ⟨x, S, rfl, hx1, hxn, hl, hct, hrs⟩ := hrel
    clear hl1 H3 HR0
    by_cases hlt : x < n
    · have kx : decide ((x : Int) < (n : Int)) = true := by simpa using hlt
      obtain ⟨f, hfx⟩ : ∃ f, n - x = f + 1 := ⟨n - x - 1, by omega⟩
      rw [hfx] at hl
      unfold loop1 at hl
      have HCT := Lib.hid hct
      have HRS := Lib.hid hrs
      have c0 := hct.c0
      have c1 := hct.c1
      have hz := hct.size
      have hhas := fun w => rsagroup_Has m o (B x) w sm
      rw [HG.out.has x (by omega) hlt] at hhas
      have HOF := Lib.hid (fun w => natural_Of' x x w rfl (by omega))
      have HF := Lib.hid hfx
      by_cases hg : Nat.gcd x n = 1
      · rw [if_pos hg] at hl
        simp only [Bool.and_eq_true, decide_eq_true_eq] at hl
        rw [decide_eq_true hg] at hhas
        have HHAS := Lib.hid hhas
        obtain ⟨pp, R, hp, hR, hRn, e1, e2, e3, e4⟩ := sq_u64 hlt n1000
        rw [hR] at hl
        have HL := Lib.hid hl
        clear hl hct hrs hhas hfx hg hp hR
        go_upto_region 12 with fail
        go_region_held3 (fun w' => w'.cell? ⟨w.heap.size, 0, none⟩ = some (.string m) ∧ w'.cell? ⟨w.heap.size, 1, none⟩ = some (.string o)) (first | go_keep) (first | (go_at_call 13; (with_reducible refine (HOF.out _).mono ?_); rintro e w5 ⟨rfl, hb5'⟩; have hb5 : Below wr.heap.size wr w5 := by { first | exact hb5' | exact ((Below.refl _ wr).drew).trans hb5' }; have n5 := HCT.out.next hb5; have p05 := n5.c0; have p15 := n5.c1; clear n5) | (go_at_call 7; (with_reducible refine (HHAS.out _).mono ?_); rintro e w6 ⟨rfl, hb6'⟩; have hbl : Below wr.heap.size wr w6 := by { first | exact below2 hb5 hb6' | exact below2 hb5 (((Below.refl _ _).drew).trans hb6') }; have n6 := HCT.out.next hbl; have r0 := n6.c0; have r1 := n6.c1; have H6 := Lib.hid n6; have R6 := Lib.hid (HRS.out.next hbl); clear n6))
        all_goals
          have hcell := R6.out.cell hRn
          have hfree := R6.out.free R
          have hrl := R6.out.lt
          obtain ⟨c, hcd⟩ : ∃ c, dig S R = c := ⟨_, rfl⟩
          rw [hcd] at hcell
          have hc100 : c < 100 := by rw [← hcd]; exact HL.out.1
          have ew : IntKind.i64.wrap ((c : Int) + 1) = ((c + 1 : Nat) : Int) := by rw [IntKind.wrap_i64]; omega
          have HC := Lib.hid hcd
          clear hcd
          go_wp2_with fail
          go_roundw
          case rel =>
            refine ⟨x + 1, S + 128 ^ R, by go_num, by omega, by omega, ?_, ?_, ?_⟩
            · rw [show n - (x + 1) = f by have := HF.out; omega]; exact HL.out.2
            · exact H6.out.set HT.out HW.out _
            · have := R6.out.set (S' := S + 128 ^ R) (i := R) (c := c + 1) hRn (fun j => by rw [dig_inc HL.out.1, HC.out])
              simpa using this
          case measure => simp [intOf]; omega
      · rw [if_neg hg] at hl
        rw [decide_eq_false hg] at hhas
        have HHAS := Lib.hid hhas
        have HL := Lib.hid hl
        clear hl hct hrs hhas hfx hg
        go_upto_region 12 with fail
        go_region_held3 (fun w' => w'.cell? ⟨w.heap.size, 0, none⟩ = some (.string m) ∧ w'.cell? ⟨w.heap.size, 1, none⟩ = some (.string o)) (first | go_keep) (first | (go_at_call 13; (with_reducible refine (HOF.out _).mono ?_); rintro e w5 ⟨rfl, hb5'⟩; have hb5 : Below wr.heap.size wr w5 := by { first | exact hb5' | exact ((Below.refl _ wr).drew).trans hb5' }; have n5 := HCT.out.next hb5; have p05 := n5.c0; have p15 := n5.c1; clear n5) | (go_at_call 7; (with_reducible refine (HHAS.out _).mono ?_); rintro e w6 ⟨rfl, hb6'⟩; have hbl : Below wr.heap.size wr w6 := by { first | exact below2 hb5 hb6' | exact below2 hb5 (((Below.refl _ _).drew).trans hb6') }; have n6 := HCT.out.next hbl; have r0 := n6.c0; have r1 := n6.c1; have H6 := Lib.hid n6; have R6 := Lib.hid (HRS.out.next hbl); clear n6))
        all_goals
          go_wp2_with fail
          go_roundw
          case rel => exact ⟨x + 1, S, by go_num, by omega, by omega, by rw [show n - (x + 1) = f by have := HF.out; omega]; exact HL.out, H6.out, R6.out⟩
          case measure => simp [intOf]; omega
    · have kx : decide ((x : Int) < (n : Int)) = false := by simp; omega
      have hxe : x = n := by omega
      rw [hxe, Nat.sub_self] at hl
      unfold loop1 at hl
      have HCT := Lib.hid hct
      have HRS := Lib.hid hrs
      clear hct hrs hxe
      go_wp2_with fail
      go_loopw [13, 14, 15] (fun vc vg vx wr2 => ∃ x c g : Nat, vc = .int .u64 c ∧ vg = .int .u64 g ∧ vx = .int .u64 x ∧ 1 ≤ x ∧ x ≤ n ∧ c ≤ x ∧ g < n ∧ loop2 n P Q M S (n - x) x c g = true ∧ CtAt w m o p q wr2 ∧ RowS wr2 r n S) (fun _ _ vx _ => n - (intOf vx).toNat)
      case atStart => exact ⟨1, 0, 0, rfl, rfl, rfl, by decide, by omega, by decide, by omega, hl, HCT.out, HRS.out⟩
      case round =>
        clear hl HCT HRS kx hlt hx1 hxn
        obtain ⟨x, c, g, rfl, rfl, rfl, hx1, hxn, hcx, hgn, hl, hct, hrs⟩ := hrel
        by_cases hlt : x < n
        · have kx : decide ((x : Int) < (n : Int)) = true := by simpa using hlt
          obtain ⟨f, hfx⟩ : ∃ f, n - x = f + 1 := ⟨n - x - 1, by omega⟩
          rw [hfx] at hl
          unfold loop2 at hl
          have HCT := Lib.hid hct
          have HRS := Lib.hid hrs
          have hhas := fun w => rsagroup_Has m o (B x) w sm
          rw [HG.out.has x (by omega) hlt] at hhas
          have HOF := Lib.hid (fun w => natural_Of' x x w rfl (by omega))
          have HF := Lib.hid hfx
          have ecx : IntKind.u64.wrap ((c : Int) + 1) = ((c + 1 : Nat) : Int) := by rw [IntKind.wrap_u64]; omega
          by_cases hg : Nat.gcd x n = 1
          · rw [if_pos hg] at hl
            simp only [Bool.and_eq_true, beq_iff_eq] at hl
            rw [decide_eq_true hg] at hhas
            have HHAS := Lib.hid hhas
            have hsq := fun w hT => rsagroup_IsSquare m o p q (B x) w sm hT
            rw [HG.out.sq x (by omega) hlt hg] at hsq
            have hge := fun w hT => rsagroup_IsGenerator m o p q (B x) w sm hT
            rw [HG.out.gen x (by omega) hlt hg] at hge
            obtain ⟨hl1, hl2, hl3⟩ := hl
            have hcase : (sqB x P Q = true ∧ dig S x = 4) ∨ (sqB x P Q = false ∧ genB x P Q = false ∧ dig S x = 0) := by
              cases ha : sqB x P Q
              · rw [ha] at hl1
                have h0 := of_decide_eq_false hl1.symm
                exact Or.inr ⟨rfl, by unfold genB; rw [ha]; rfl, by omega⟩
              · rw [ha] at hl2
                exact Or.inl ⟨rfl, by simpa using hl2⟩
            clear hl1 hl2
            obtain ⟨ge, hgee⟩ : ∃ ge, genB x P Q = ge := ⟨_, rfl⟩
            rw [hgee] at hge hl3
            rcases hcase with ⟨ha, hd⟩ | ⟨ha, hgf, hd⟩
            · rw [ha, if_pos rfl] at hl3
              rw [ha] at hsq
              have HSQ := Lib.hid hsq
              have HGE := Lib.hid hge
              have HL := Lib.hid hl3
              have HD := Lib.hid hd
              clear hl3 hsq hge hd ha hhas hfx hg hgee hct hrs
              go_upto_region 18 with fail
              go_cut [98] (fun v wx => v = .bool false ∧ CtAt w m o p q wx ∧ RowS wx r n S)
              case first =>
                have c0 := HCT.out.c0
                have c1 := HCT.out.c1
                have hz := HCT.out.size
                go_region_held3 (fun w' => w'.cell? ⟨w.heap.size, 0, none⟩ = some (.string m) ∧ w'.cell? ⟨w.heap.size, 1, none⟩ = some (.string o)) (first | go_keep) (first | (go_at_call 13; (with_reducible refine (HOF.out _).mono ?_); rintro e w5 ⟨rfl, hb5'⟩; have hb5 : Below wr.heap.size wr w5 := by { first | exact hb5' | exact ((Below.refl _ wr).drew).trans hb5' }; have n5 := HCT.out.next hb5; have p05 := n5.c0; have p15 := n5.c1; clear n5) | (go_at_call 7; (with_reducible refine (HHAS.out _).mono ?_); rintro e w6 ⟨rfl, hb6'⟩; have hbl : Below wr.heap.size wr w6 := by { first | exact below2 hb5 hb6' | exact below2 hb5 (((Below.refl _ _).drew).trans hb6') }; have n6 := HCT.out.next hbl; have r0 := n6.c0; have r1 := n6.c1; have H6 := Lib.hid n6; have R6 := Lib.hid (HRS.out.next hbl); clear n6))
                all_goals
                  go_wp2_with fail
                  go_meet
                  exact ⟨rfl, H6.out, R6.out⟩
              case rest =>
              obtain ⟨rfl, hct, hrs⟩ := hcut
              have HCT := Lib.hid hct
              have HRS := Lib.hid hrs
              clear hct hrs
              go_upto_region 19 with fail
              go_cut [16, 17] (fun a b wx => a = .bool true ∧ b = .int .i64 0 ∧ CtAt w m o p q wx ∧ RowS wx r n S)
              case first =>
                have c0 := HCT.out.c0
                have c1 := HCT.out.c1
                have d0 := HCT.out.d0
                have d1 := HCT.out.d1
                have hz := HCT.out.size
                have hz2 : w.heap.size < wc.heap.size := by omega
                go_region_held3 (fun w' => w'.cell? ⟨w.heap.size, 0, none⟩ = some (.string m) ∧ w'.cell? ⟨w.heap.size, 1, none⟩ = some (.string o) ∧ w'.cell? ⟨w.heap.size + 1, 0, none⟩ = some (.string p) ∧ w'.cell? ⟨w.heap.size + 1, 1, none⟩ = some (.string q)) (first | go_keep) (first | (go_at_call 13; (with_reducible refine (HOF.out _).mono ?_); rintro e w5 ⟨rfl, hb5'⟩; have hb5 : Below wc.heap.size wc w5 := by { first | exact hb5' | exact ((Below.refl _ wc).drew).trans hb5' }; have n5 := HCT.out.next hb5; have p05 := n5.c0; have p15 := n5.c1; have p25 := n5.d0; have p35 := n5.d1; have T5 := Lib.hid n5.tab; clear n5) | (go_at_call 10; (with_reducible refine (HSQ.out _ T5.out).mono ?_); rintro e w6 ⟨rfl, hb6'⟩; have hbl : Below wc.heap.size wc w6 := by { first | exact below2 hb5 hb6' | exact below2 hb5 (((Below.refl _ _).drew).trans hb6') }; have n6 := HCT.out.next hbl; have r0 := n6.c0; have r1 := n6.c1; have r2 := n6.d0; have r3 := n6.d1; have H6 := Lib.hid n6; have R6 := Lib.hid (HRS.out.next hbl); clear n6))
                all_goals
                  go_wp2_with fail
                  go_meet
                  exact ⟨rfl, rfl, H6.out, R6.out⟩
              case rest =>
              obtain ⟨rfl, rfl, hct, hrs⟩ := hcut
              have HCT := Lib.hid hct
              have HRS := Lib.hid hrs
              clear hct hrs
              go_upto_region 20 with fail
              go_cut [18, 19] (fun a b wx => a = .bool ge ∧ b = .int .i64 0 ∧ CtAt w m o p q wx ∧ RowS wx r n S)
              case first =>
                have c0 := HCT.out.c0
                have c1 := HCT.out.c1
                have d0 := HCT.out.d0
                have d1 := HCT.out.d1
                have hz := HCT.out.size
                have hz2 : w.heap.size < wc.heap.size := by omega
                go_region_held3 (fun w' => w'.cell? ⟨w.heap.size, 0, none⟩ = some (.string m) ∧ w'.cell? ⟨w.heap.size, 1, none⟩ = some (.string o) ∧ w'.cell? ⟨w.heap.size + 1, 0, none⟩ = some (.string p) ∧ w'.cell? ⟨w.heap.size + 1, 1, none⟩ = some (.string q)) (first | go_keep) (first | (go_at_call 13; (with_reducible refine (HOF.out _).mono ?_); rintro e w5 ⟨rfl, hb5'⟩; have hb5 : Below wc.heap.size wc w5 := by { first | exact hb5' | exact ((Below.refl _ wc).drew).trans hb5' }; have n5 := HCT.out.next hb5; have p05 := n5.c0; have p15 := n5.c1; have p25 := n5.d0; have p35 := n5.d1; have T5 := Lib.hid n5.tab; clear n5) | (go_at_call 14; (with_reducible refine (HGE.out _ T5.out).mono ?_); rintro e w6 ⟨rfl, hb6'⟩; have hbl : Below wc.heap.size wc w6 := by { first | exact below2 hb5 hb6' | exact below2 hb5 (((Below.refl _ _).drew).trans hb6') }; have n6 := HCT.out.next hbl; have r0 := n6.c0; have r1 := n6.c1; have r2 := n6.d0; have r3 := n6.d1; have H6 := Lib.hid n6; have R6 := Lib.hid (HRS.out.next hbl); clear n6))
                all_goals
                  go_wp2_with fail
                  go_meet
                  exact ⟨rfl, rfl, H6.out, R6.out⟩
              case rest =>
              obtain ⟨rfl, rfl, hct, hrs⟩ := hcut
              have HCT := Lib.hid hct
              have HRS := Lib.hid hrs
              clear hct hrs
              have hcell := HRS.out.cell hlt
              rw [HD.out] at hcell
              cases ge
              all_goals
                go_wp2_with fail
                go_roundw
                case rel =>
                  have hnf : n - (x + 1) = f := by have := HF.out; omega
                  first
                    | exact ⟨x + 1, c + 1, x, by go_num, rfl, by go_num, by omega, by omega, by omega, by omega, by rw [hnf]; exact HL.out, HCT.out, HRS.out⟩
                    | exact ⟨x + 1, c + 1, g, by go_num, rfl, by go_num, by omega, by omega, by omega, by omega, by rw [hnf]; exact HL.out, HCT.out, HRS.out⟩
                case measure => simp [intOf]; omega
            · have hge2 : ge = false := hgee.symm.trans hgf
              subst hge2
              rw [ha] at hl3
              rw [ha] at hsq
              have hl4 : loop2 n P Q M S f (x + 1) c g = true := hl3
              have HSQ := Lib.hid hsq
              have HGE := Lib.hid hge
              have HL := Lib.hid hl4
              have HD := Lib.hid hd
              clear hl3 hl4 hsq hge hd ha hhas hfx hg hct hrs
              go_upto_region 18 with fail
              go_cut [98] (fun v wx => v = .bool false ∧ CtAt w m o p q wx ∧ RowS wx r n S)
              case first =>
                have c0 := HCT.out.c0
                have c1 := HCT.out.c1
                have hz := HCT.out.size
                go_region_held3 (fun w' => w'.cell? ⟨w.heap.size, 0, none⟩ = some (.string m) ∧ w'.cell? ⟨w.heap.size, 1, none⟩ = some (.string o)) (first | go_keep) (first | (go_at_call 13; (with_reducible refine (HOF.out _).mono ?_); rintro e w5 ⟨rfl, hb5'⟩; have hb5 : Below wr.heap.size wr w5 := by { first | exact hb5' | exact ((Below.refl _ wr).drew).trans hb5' }; have n5 := HCT.out.next hb5; have p05 := n5.c0; have p15 := n5.c1; clear n5) | (go_at_call 7; (with_reducible refine (HHAS.out _).mono ?_); rintro e w6 ⟨rfl, hb6'⟩; have hbl : Below wr.heap.size wr w6 := by { first | exact below2 hb5 hb6' | exact below2 hb5 (((Below.refl _ _).drew).trans hb6') }; have n6 := HCT.out.next hbl; have r0 := n6.c0; have r1 := n6.c1; have H6 := Lib.hid n6; have R6 := Lib.hid (HRS.out.next hbl); clear n6))
                all_goals
                  go_wp2_with fail
                  go_meet
                  exact ⟨rfl, H6.out, R6.out⟩
              case rest =>
              obtain ⟨rfl, hct, hrs⟩ := hcut
              have HCT := Lib.hid hct
              have HRS := Lib.hid hrs
              clear hct hrs
              go_upto_region 19 with fail
              go_cut [16, 17] (fun a b wx => a = .bool false ∧ b = .int .i64 0 ∧ CtAt w m o p q wx ∧ RowS wx r n S)
              case first =>
                have c0 := HCT.out.c0
                have c1 := HCT.out.c1
                have d0 := HCT.out.d0
                have d1 := HCT.out.d1
                have hz := HCT.out.size
                have hz2 : w.heap.size < wc.heap.size := by omega
                go_region_held3 (fun w' => w'.cell? ⟨w.heap.size, 0, none⟩ = some (.string m) ∧ w'.cell? ⟨w.heap.size, 1, none⟩ = some (.string o) ∧ w'.cell? ⟨w.heap.size + 1, 0, none⟩ = some (.string p) ∧ w'.cell? ⟨w.heap.size + 1, 1, none⟩ = some (.string q)) (first | go_keep) (first | (go_at_call 13; (with_reducible refine (HOF.out _).mono ?_); rintro e w5 ⟨rfl, hb5'⟩; have hb5 : Below wc.heap.size wc w5 := by { first | exact hb5' | exact ((Below.refl _ wc).drew).trans hb5' }; have n5 := HCT.out.next hb5; have p05 := n5.c0; have p15 := n5.c1; have p25 := n5.d0; have p35 := n5.d1; have T5 := Lib.hid n5.tab; clear n5) | (go_at_call 10; (with_reducible refine (HSQ.out _ T5.out).mono ?_); rintro e w6 ⟨rfl, hb6'⟩; have hbl : Below wc.heap.size wc w6 := by { first | exact below2 hb5 hb6' | exact below2 hb5 (((Below.refl _ _).drew).trans hb6') }; have n6 := HCT.out.next hbl; have r0 := n6.c0; have r1 := n6.c1; have r2 := n6.d0; have r3 := n6.d1; have H6 := Lib.hid n6; have R6 := Lib.hid (HRS.out.next hbl); clear n6))
                all_goals
                  go_wp2_with fail
                  go_meet
                  exact ⟨rfl, rfl, H6.out, R6.out⟩
              case rest =>
              obtain ⟨rfl, rfl, hct, hrs⟩ := hcut
              have HCT := Lib.hid hct
              have HRS := Lib.hid hrs
              clear hct hrs
              go_upto_region 20 with fail
              go_cut [18, 19] (fun a b wx => a = .bool false ∧ b = .int .i64 0 ∧ CtAt w m o p q wx ∧ RowS wx r n S)
              case first =>
                have c0 := HCT.out.c0
                have c1 := HCT.out.c1
                have d0 := HCT.out.d0
                have d1 := HCT.out.d1
                have hz := HCT.out.size
                have hz2 : w.heap.size < wc.heap.size := by omega
                go_region_held3 (fun w' => w'.cell? ⟨w.heap.size, 0, none⟩ = some (.string m) ∧ w'.cell? ⟨w.heap.size, 1, none⟩ = some (.string o) ∧ w'.cell? ⟨w.heap.size + 1, 0, none⟩ = some (.string p) ∧ w'.cell? ⟨w.heap.size + 1, 1, none⟩ = some (.string q)) (first | go_keep) (first | (go_at_call 13; (with_reducible refine (HOF.out _).mono ?_); rintro e w5 ⟨rfl, hb5'⟩; have hb5 : Below wc.heap.size wc w5 := by { first | exact hb5' | exact ((Below.refl _ wc).drew).trans hb5' }; have n5 := HCT.out.next hb5; have p05 := n5.c0; have p15 := n5.c1; have p25 := n5.d0; have p35 := n5.d1; have T5 := Lib.hid n5.tab; clear n5) | (go_at_call 14; (with_reducible refine (HGE.out _ T5.out).mono ?_); rintro e w6 ⟨rfl, hb6'⟩; have hbl : Below wc.heap.size wc w6 := by { first | exact below2 hb5 hb6' | exact below2 hb5 (((Below.refl _ _).drew).trans hb6') }; have n6 := HCT.out.next hbl; have r0 := n6.c0; have r1 := n6.c1; have r2 := n6.d0; have r3 := n6.d1; have H6 := Lib.hid n6; have R6 := Lib.hid (HRS.out.next hbl); clear n6))
                all_goals
                  go_wp2_with fail
                  go_meet
                  exact ⟨rfl, rfl, H6.out, R6.out⟩
              case rest =>
              obtain ⟨rfl, rfl, hct, hrs⟩ := hcut
              have HCT := Lib.hid hct
              have HRS := Lib.hid hrs
              clear hct hrs
              have hcell := HRS.out.cell hlt
              rw [HD.out] at hcell
              go_wp2_with fail
              go_roundw
              case rel => exact ⟨x + 1, c, g, rfl, rfl, by go_num, by omega, by omega, by omega, by omega, by rw [show n - (x + 1) = f by have := HF.out; omega]; exact HL.out, HCT.out, HRS.out⟩
              case measure => simp [intOf]; omega
          · rw [if_neg hg] at hl
            rw [decide_eq_false hg] at hhas
            have HHAS := Lib.hid hhas
            have HL := Lib.hid hl
            clear hl hhas hfx hg hct hrs
            go_upto_region 18 with fail
            go_cut [98] (fun v wx => v = .bool true ∧ CtAt w m o p q wx ∧ RowS wx r n S)
            case first =>
              have c0 := HCT.out.c0
              have c1 := HCT.out.c1
              have hz := HCT.out.size
              go_region_held3 (fun w' => w'.cell? ⟨w.heap.size, 0, none⟩ = some (.string m) ∧ w'.cell? ⟨w.heap.size, 1, none⟩ = some (.string o)) (first | go_keep) (first | (go_at_call 13; (with_reducible refine (HOF.out _).mono ?_); rintro e w5 ⟨rfl, hb5'⟩; have hb5 : Below wr.heap.size wr w5 := by { first | exact hb5' | exact ((Below.refl _ wr).drew).trans hb5' }; have n5 := HCT.out.next hb5; have p05 := n5.c0; have p15 := n5.c1; clear n5) | (go_at_call 7; (with_reducible refine (HHAS.out _).mono ?_); rintro e w6 ⟨rfl, hb6'⟩; have hbl : Below wr.heap.size wr w6 := by { first | exact below2 hb5 hb6' | exact below2 hb5 (((Below.refl _ _).drew).trans hb6') }; have n6 := HCT.out.next hbl; have r0 := n6.c0; have r1 := n6.c1; have H6 := Lib.hid n6; have R6 := Lib.hid (HRS.out.next hbl); clear n6))
              all_goals
                go_wp2_with fail
                go_meet
                exact ⟨rfl, H6.out, R6.out⟩
            case rest =>
            obtain ⟨rfl, hct, hrs⟩ := hcut
            have HCT := Lib.hid hct
            have HRS := Lib.hid hrs
            clear hct hrs
            go_wp2_with fail
            go_roundw
            case rel => exact ⟨x + 1, c, g, rfl, rfl, by go_num, by omega, by omega, by omega, by omega, by rw [show n - (x + 1) = f by have := HF.out; omega]; exact HL.out, HCT.out, HRS.out⟩
            case measure => simp [intOf]; omega
        · have kx : decide ((x : Int) < (n : Int)) = false := by simp; omega
          have hxe : x = n := by omega
          rw [hxe, Nat.sub_self] at hl
          unfold loop2 at hl
          simp only [Bool.and_eq_true, beq_iff_eq, bne_iff_ne] at hl
          obtain ⟨hcM, hg0, hl3⟩ := hl
          have hb1 : ((c : Int) != (M : Int)) = false := by rw [hcM]; simp
          have hb2 : ((g : Int) == 0) = false := by simp; omega
          have HCT := Lib.hid hct
          have HRS := Lib.hid hrs
          clear hct hrs hxe hcM hg0
          go_wp2_with fail
          go_loopw [20, 21] (fun vx vk wr3 => ∃ x k S : Nat, vx = .int .u64 x ∧ vk = .int .u64 k ∧ k ≤ M ∧ x < n ∧ loop3 n g (M - k) S x = true ∧ CtAt w m o p q wr3 ∧ RowS wr3 r n S) (fun _ vk _ => M - (intOf vk).toNat)
          case atStart => exact ⟨1, 0, S, rfl, rfl, by omega, by omega, hl3, HCT.out, HRS.out⟩
          case round =>
            clear hl3 HCT HRS kx hlt hx1 hxn hb1 hb2 hcx
            obtain ⟨x, k, S, rfl, rfl, hkM, hxn, hl, hct, hrs⟩ := hrel
            have hM := HG.out.mle
            have HCT := Lib.hid hct
            have HRS := Lib.hid hrs
            by_cases hlt : k < M
            · have kx : decide ((k : Int) < (M : Int)) = true := by simpa using hlt
              obtain ⟨f, hfx⟩ : ∃ f, M - k = f + 1 := ⟨M - k - 1, by omega⟩
              rw [hfx] at hl
              unfold loop3 at hl
              simp only [Bool.and_eq_true, beq_iff_eq] at hl
              have hcell := hrs.cell hxn
              rw [hl.1] at hcell
              have hfree := hrs.free x
              have hrl := hrs.lt
              obtain ⟨pp, R, hp, hR, hRn, e1, e2, e3, e4⟩ := mul_u64 hxn hgn n1000
              rw [hR] at hl
              have HL := Lib.hid hl
              have HF := Lib.hid hfx
              clear hl hct hrs hfx hp hR
              go_wp2_with fail
              go_roundw
              case rel =>
                refine ⟨R, k + 1, S - 4 * 128 ^ x, rfl, by go_num, by omega, hRn, ?_, ?_, ?_⟩
                · rw [show M - (k + 1) = f by have := HF.out; omega]; exact HL.out.2
                · exact HCT.out.set HT.out HW.out _
                · exact HRS.out.set (S' := S - 4 * 128 ^ x) (i := x) (c := 0) hxn (fun j => dig_clear HL.out.1 j)
              case measure => simp [intOf]; omega
            · have kx : decide ((k : Int) < (M : Int)) = false := by simp; omega
              have hke : k = M := by omega
              rw [hke, Nat.sub_self] at hl
              unfold loop3 at hl
              have hx1 : x = 1 := by simpa using hl
              subst hx1
              clear hct hrs hl hke
              go_wp2_with (go_at_call 8; refine (HAW.out _ HCT.out.tab).mono ?_; rintro e w9 ⟨rfl, hb9⟩)
              go_ret
              exact ⟨rfl, (HCT.out.next hb9).below⟩

end Go.Proofs.YtgbkjicpmjncaaaDoor
