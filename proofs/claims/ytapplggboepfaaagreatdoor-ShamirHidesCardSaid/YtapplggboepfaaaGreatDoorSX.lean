/- The walk of shamir.Split, where it fails ahead of the draws. The walk of coins.Many in general: every draw goes through, or the first error of a draw is handed back. The walk of shamir.Split behind its tests: the shares with the next tape, or the first error of a draw. -/
import Derived.Test.YtapplggboepfaaaGreatDoorSo
namespace Go.Proofs.YtapplggboepfaaaGreatDoor
open Go.RowKit
set_option maxRecDepth 100000
set_option linter.unusedVariables false
set_option linter.unusedSimpArgs false
set_option maxHeartbeats 4000000

/-- The error of a split ahead of its draws. -/
def splE (q s : ByteArray) (need count : Int) (vals : List ByteArray) (z : Int) : Int :=
  if goodT vals z = true then (if shE q [[s]] = 0 then (if blwS q [s] = true then (if need < 1 ∨ count < need ∨ 255 < count ∨ ¬ natCmp (B count.toNat) q < 0 then 6 else 0) else 2) else shE q [[s]]) else 3
/-- What a split hands back with an error. -/
def splNil (er : Int) : Ending := .returned (.tuple #[.slice none 0 0, .agg #[.slice none 0 0, .string ⟨#[]⟩, .int .i64 0], .int .i64 er])
theorem coins_Many_badZ (vals : List ByteArray) (A : Option Addr) (n c : Nat) (seed m : ByteArray) (z K : Int) (w : World) (hn : vals.length = n) (hm : n ≤ 1000) (h : SLs w w.heap.size A vals) (hg : goodT vals z = false) :
    Calls Tryz.prog 25 #[.agg #[.slice A n c, .string seed, .int .i64 z], .string m, .int .i64 K] w fun e w' => e = .returned (.tuple #[.slice none 0 0, .agg #[.slice none 0 0, .string ⟨#[]⟩, .int .i64 0], .int .i64 3]) ∧ Below w.heap.size w w' := by
  have KR := Lib.hid (fun wq (h1 : Below w.heap.size w wq) => coins_ready vals A n c w.heap.size seed m z wq hn (by omega) (h.below h1) h1.size)
  rw [readyT_bad hg] at KR
  have HA0 := Lib.hid (AtS.start w A n c seed z)
  clear hn hm h hg
  go_enter Tryz.func25, Tryz.ntmps25
  go_wp2_with (first
    | (go_at_call 43; (with_reducible refine (KR.out _ HA0.out.a.bel).mono ?_); rintro e w1 ⟨rfl, hb1⟩
       have HA1 := Lib.hid (HA0.out.next hb1)
       obtain ⟨r0, r1, r2, g0, g1, g2⟩ := HA1.out.a.r0
       clear hb1))
  exact bodyPost_ret (v := .tuple #[.slice none 0 0, .agg #[.slice none 0 0, .string ⟨#[]⟩, .int .i64 0], .int .i64 3]) (by simp [results, Tryz.results25, go_sem, r0, r1, r2]) rfl ⟨rfl, HA1.out.a.bel3⟩
theorem shamir_Split_err (q s : ByteArray) (need count : Int) (vals : List ByteArray) (A : Option Addr) (n c : Nat) (seed : ByteArray) (z : Int) (w : World)
    (hn : vals.length = n) (hm : n ≤ 1000) (h : SLs w w.heap.size A vals) (hs : seed.size ≤ 100000) (hT10 : Tab10 w) (hT : Tab w) (he : splE q s need count vals z ≠ 0) :
    Calls Tryz.prog 8 #[.string q, .string s, .int .i64 need, .int .i64 count, .agg #[.slice A n c, .string seed, .int .i64 z]] w fun e w' => e = splNil (splE q s need count vals z) ∧ Below w.heap.size w w' := by
  obtain ⟨er1, hg1, KM1⟩ : ∃ er1 : Int, (er1 = if goodT vals z = true then 0 else 3) ∧ Hid (∀ wq, Below w.heap.size w wq → Calls Tryz.prog 25 #[.agg #[.slice A n c, .string seed, .int .i64 z], .string (B 1), .int .i64 0] wq fun e w' => (∃ A' n' c' At ct sdt zt nt, e = .returned (.tuple #[.slice A' n' c', .agg #[.slice At nt ct, .string sdt, .int .i64 zt], .int .i64 er1])) ∧ Below wq.heap.size wq w') := by
    cases hg : goodT vals z
    · refine ⟨3, by simp, Lib.hid fun wq h1 => (coins_Many_badZ vals A n c seed (B 1) z 0 wq hn hm (h.to h1) hg).mono ?_⟩
      rintro e w' ⟨rfl, hb⟩
      exact ⟨⟨_, _, _, _, _, _, _, _, rfl⟩, hb⟩
    · refine ⟨0, by simp, Lib.hid fun wq h1 => (coins_Many vals A n c seed z 1 0 wq hn hm (h.to h1) hg (by decide) (by decide) hs (hT10.below h1) (by decide) (fun i hi => absurd hi (Nat.not_lt_zero _))).mono ?_⟩
      rintro e w' ⟨⟨A', c', At, ct, sdt, zt, nt, rfl, _⟩, hb⟩
      exact ⟨⟨_, _, _, _, _, _, _, _, rfl⟩, hb⟩
  have HT := Lib.hid hT
  have HA0 := Lib.hid (AtS.start w A n c seed z)
  have HG1 := Lib.hid hg1
  have HE := Lib.hid he
  clear hn hm h hs hT10 hT hg1 he
  obtain ⟨⟨t0, t1, t2, _, _⟩, _, _, _⟩ := HA0.out
  have hlt := HA0.out.sz
  have D2 : w.heap.size + 1 + 1 ≠ w.heap.size := by omega
  go_enter Tryz.func8, Tryz.ntmps8
  go_upto_region 1 with fail
  go_cut [15] (fun e wx => e = .int .i64 er1 ∧ AtS w wx A n c seed z)
  case first =>
    go_region_held3 (fun w' => w'.cell? ⟨w.heap.size, 0, none⟩ = some (.slice A n c) ∧ w'.cell? ⟨w.heap.size, 1, none⟩ = some (.string seed) ∧ w'.cell? ⟨w.heap.size, 2, none⟩ = some (.int .i64 z)) (first | (with_reducible exact ⟨keep3 D2 t0, keep3 D2 t1, keep3 D2 t2⟩) | go_keep) (first
      | (go_at_call 26; (with_reducible refine (natural_Of' 1 1 _ rfl (by decide)).mono ?_); rintro e w6 ⟨rfl, hb6⟩
         have HB6 : Hid (AtS w w6 A n c seed z) := Lib.hid (by
           refine AtS.next ?_ hb6
           repeat (first | with_reducible exact HA0.out | with_reducible refine AtS.drew ?_ | with_reducible refine AtS.alloc ?_ _))
         obtain ⟨⟨t0, t1, t2, _, _⟩, _, _, _⟩ := HB6.out
         have hlt6 := HB6.out.sz
         have D6 : w6.heap.size ≠ w.heap.size := by { omega }
         try (refine putZ (P := Hid (ZBx w6 (w.heap.size + 1 + 1))) (Lib.hid (ZBx.of hb6 ?_ ?_)) (fun NN => ?_); (focus (simp; done)); (focus (constructor <;> simp [go_sem])))
         clear hb6)
      | (go_at_call 25
         (with_reducible refine (KM1.out _ (AtB.bel (AtS.a (A := A) (n := n) (c := c) (seed := seed) (z := z) (by repeat (first | with_reducible exact HB6.out | with_reducible refine AtS.drew ?_ | with_reducible refine AtS.alloc ?_ _))))).mono ?_)
         rintro e w7 ⟨⟨A', n', c', At, ct, sdt, zt, nt, rfl⟩, hb7⟩
         have HB7 : Hid (AtS w w7 A n c seed z) := Lib.hid (by
           refine AtS.next ?_ hb7
           repeat (first | with_reducible exact HB6.out | with_reducible refine AtS.drew ?_ | with_reducible refine AtS.alloc ?_ _))
         obtain ⟨⟨t0, t1, t2, _, _⟩, _, _, _⟩ := HB7.out
         have hlt7 := HB7.out.sz
         have D7 : w7.heap.size ≠ w.heap.size := by { omega }
         try (refine putZ (P := Hid (ZBx w7 w6.heap.size ∧ w.heap.size + 2 ≤ w6.heap.size)) (Lib.hid ⟨ZBx.of hb7 ?_ ?_, HB6.out.sz⟩) (fun HNN => ?_); (focus (simp; done)); (focus (constructor <;> simp [go_sem])))
         try (refine putZ (P := Hid (ZBx w7 (w.heap.size + 1 + 1) ∧ w.heap.size + 2 ≤ w.heap.size + 1 + 1)) (Lib.hid ⟨ZBx.of hb7 (ZBx.lt (w := w6) ?_) ?_, Nat.le_refl _⟩) (fun HNN => ?_); exact NN.out; exact NN.out)
         try obtain ⟨N0, N1, N2, F0, F1, F2⟩ := HNN.out.1
         clear hb7))
    all_goals
      go_wp2_with fail
      go_meet
      refine ⟨rfl, ?_⟩
      first
        | with_reducible exact HB7.out.alloc _
        | with_reducible exact HB7.out.drew.alloc _
        | with_reducible exact (HB7.out.alloc _).drew
        | with_reducible exact HB7.out.boxes HNN.out.2
        | with_reducible exact (HB7.out.boxes HNN.out.2).drew
        | with_reducible exact (HB7.out.drew.boxes HNN.out.2)
  case rest =>
  obtain ⟨rfl, hcut⟩ := hcut
  have HA := Lib.hid hcut
  clear hcut t0 t1 t2 D2 hlt KM1 HA0
  obtain ⟨r0, r1, r2, g0, g1, g2⟩ := HA.out.a.r0
  have her := HG1.out
  by_cases hg : goodT vals z = true
  · rw [if_pos hg] at her
    subst her
    have hv0 : splE q s need count vals z = if shE q [[s]] = 0 then (if blwS q [s] = true then (if need < 1 ∨ count < need ∨ 255 < count ∨ ¬ natCmp (B count.toNat) q < 0 then 6 else 0) else 2) else shE q [[s]] := by unfold splE; rw [if_pos hg]
    obtain ⟨e2, he2⟩ : ∃ e2, e2 = shE q [[s]] := ⟨_, rfl⟩
    have KC : Hid (∀ wq, Below w.heap.size w wq → ∀ T1 T2, Calls Tryz.prog 27 #[.string q, .slice (some ⟨wq.heap.size + 1, 0, none⟩) 1 1] ((wq.alloc (.cells #[.string s] T1)).alloc (.cells #[.slice (some ⟨wq.heap.size, 0, none⟩) 1 1] T2)) fun e w' => e = .returned (.int .i64 e2) ∧ Below wq.heap.size wq w') := Lib.hid fun wq h1 T1 T2 => by
      have := check_oneL q [s] (some ⟨wq.heap.size, 0, none⟩) 1 1 (wq.alloc (.cells #[.string s] T1)) rfl (by decide) (sls_one wq T1 s) ((HT.out.below h1).alloc _) T2
      rw [← he2, World.size_alloc] at this
      refine this.mono ?_
      rintro e w' ⟨rfl, hb⟩
      exact ⟨rfl, below2 ((Below.refl _ _).alloc (Nat.le_refl _) (.cells #[.string s] T1)) (by rw [World.size_alloc]; exact hb)⟩
    rw [← he2] at hv0
    by_cases h2 : e2 = 0
    · rw [if_pos h2] at hv0
      subst h2
      obtain ⟨b, hb⟩ : ∃ b, b = blwS q [s] := ⟨_, rfl⟩
      have KB := fun (W : World) T => shamir_below q [s] (some ⟨W.heap.size, 0, none⟩) 1 1 (W.alloc (.cells #[.string s] T)) rfl (by decide) (sls_one W T s)
      rw [← hb] at hv0
      simp only [← hb] at KB
      have KB := Lib.hid KB
      clear hg he2 hb r0 r1 r2 g0 g1 g2
      cases b
      · have HV := Lib.hid (show splE q s need count vals z = 2 by rw [hv0]; rfl)
        clear hv0
        go_wp2_with (first
          | (go_at_call 27; (with_reducible refine (KC.out _ HA.out.a.bel _ _).mono ?_); rintro e w1 ⟨rfl, hb1⟩; have HA1 := Lib.hid (HA.out.next hb1); clear hb1)
          | (go_at_call 28; (with_reducible refine (KB.out w1 _).mono ?_); rintro e w2 ⟨rfl, rfl⟩; have HX := Lib.hid (HA1.out.alloc (.cells #[.string s] 25)); obtain ⟨r0, r1, r2, g0, g1, g2⟩ := HX.out.a.r0))
        exact bodyPost_ret (v := .tuple #[.slice none 0 0, .agg #[.slice none 0 0, .string ⟨#[]⟩, .int .i64 0], .int .i64 2]) (by simp [results, Tryz.results8, go_sem, r0, r1, r2]) rfl ⟨by unfold splNil; rw [HV.out], HX.out.a.bel3⟩
      · rw [if_pos rfl] at hv0
        by_cases hc : need < 1 ∨ count < need ∨ 255 < count ∨ ¬ natCmp (B count.toNat) q < 0
        · rw [if_pos hc] at hv0
          have HV := Lib.hid hv0
          clear hv0
          by_cases c1 : need < 1
          · have d1 : decide (need < 1) = true := decide_eq_true c1
            clear hc c1
            go_wp2_with (first
              | (go_at_call 27; (with_reducible refine (KC.out _ HA.out.a.bel _ _).mono ?_); rintro e w1 ⟨rfl, hb1⟩; have HA1 := Lib.hid (HA.out.next hb1); clear hb1)
              | (go_at_call 28; (with_reducible refine (KB.out w1 _).mono ?_); rintro e w2 ⟨rfl, rfl⟩; have HX := Lib.hid (HA1.out.alloc (.cells #[.string s] 25)); obtain ⟨r0, r1, r2, g0, g1, g2⟩ := HX.out.a.r0))
            exact bodyPost_ret (v := .tuple #[.slice none 0 0, .agg #[.slice none 0 0, .string ⟨#[]⟩, .int .i64 0], .int .i64 6]) (by simp [results, Tryz.results8, go_sem, r0, r1, r2]) rfl ⟨by unfold splNil; rw [HV.out], HX.out.a.bel3⟩
          · have d1 : decide (need < 1) = false := decide_eq_false c1
            by_cases c2 : count < need
            · have d2 : decide (count < need) = true := decide_eq_true c2
              clear hc c1 c2
              go_wp2_with (first
                | (go_at_call 27; (with_reducible refine (KC.out _ HA.out.a.bel _ _).mono ?_); rintro e w1 ⟨rfl, hb1⟩; have HA1 := Lib.hid (HA.out.next hb1); clear hb1)
                | (go_at_call 28; (with_reducible refine (KB.out w1 _).mono ?_); rintro e w2 ⟨rfl, rfl⟩; have HX := Lib.hid (HA1.out.alloc (.cells #[.string s] 25)); obtain ⟨r0, r1, r2, g0, g1, g2⟩ := HX.out.a.r0))
              exact bodyPost_ret (v := .tuple #[.slice none 0 0, .agg #[.slice none 0 0, .string ⟨#[]⟩, .int .i64 0], .int .i64 6]) (by simp [results, Tryz.results8, go_sem, r0, r1, r2]) rfl ⟨by unfold splNil; rw [HV.out], HX.out.a.bel3⟩
            · have d2 : decide (count < need) = false := decide_eq_false c2
              by_cases c3 : 255 < count
              · have d3 : decide (255 < count) = true := decide_eq_true c3
                clear hc c1 c2 c3
                go_wp2_with (first
                  | (go_at_call 27; (with_reducible refine (KC.out _ HA.out.a.bel _ _).mono ?_); rintro e w1 ⟨rfl, hb1⟩; have HA1 := Lib.hid (HA.out.next hb1); clear hb1)
                  | (go_at_call 28; (with_reducible refine (KB.out w1 _).mono ?_); rintro e w2 ⟨rfl, rfl⟩; have HX := Lib.hid (HA1.out.alloc (.cells #[.string s] 25)); obtain ⟨r0, r1, r2, g0, g1, g2⟩ := HX.out.a.r0))
                exact bodyPost_ret (v := .tuple #[.slice none 0 0, .agg #[.slice none 0 0, .string ⟨#[]⟩, .int .i64 0], .int .i64 6]) (by simp [results, Tryz.results8, go_sem, r0, r1, r2]) rfl ⟨by unfold splNil; rw [HV.out], HX.out.a.bel3⟩
              · have d3 : decide (255 < count) = false := decide_eq_false c3
                have KO : Hid (∀ w, Calls Tryz.prog 26 #[.int .u64 (IntKind.u64.wrap count)] w fun e w' => e = .returned (.string (B count.toNat)) ∧ Below w.heap.size w w') := Lib.hid fun w => natural_Of' _ count.toNat w (by rw [IntKind.wrap_u64]; omega) (by omega)
                obtain ⟨r, hr⟩ : ∃ r, r = natCmp (B count.toNat) q := ⟨_, rfl⟩
                have KCm := fun w => natural_Cmp (B count.toNat) q w
                rw [← hr] at hc KCm
                have KCm := Lib.hid KCm
                have d4 : decide (r < 0) = false := decide_eq_false (by omega)
                have d5 : decide (0 ≤ r) = true := decide_eq_true (by omega)
                clear hc c1 c2 c3 hr
                go_wp2_with (first
                  | (go_at_call 27; (with_reducible refine (KC.out _ HA.out.a.bel _ _).mono ?_); rintro e w1 ⟨rfl, hb1⟩; have HA1 := Lib.hid (HA.out.next hb1); clear hb1)
                  | (go_at_call 28; (with_reducible refine (KB.out w1 _).mono ?_); rintro e w2 ⟨rfl, rfl⟩; have HX := Lib.hid (HA1.out.alloc (.cells #[.string s] 25)); obtain ⟨r0, r1, r2, g0, g1, g2⟩ := HX.out.a.r0)
                  | (go_at_call 26; (with_reducible refine (KO.out _).mono ?_); rintro e w3 ⟨rfl, hb3⟩; replace HX := Lib.hid (HX.out.next hb3); obtain ⟨r0, r1, r2, g0, g1, g2⟩ := HX.out.a.r0; clear hb3)
                  | (go_at_call 29; (with_reducible refine (KCm.out _).mono ?_); rintro e w4 ⟨rfl, rfl⟩))
                exact bodyPost_ret (v := .tuple #[.slice none 0 0, .agg #[.slice none 0 0, .string ⟨#[]⟩, .int .i64 0], .int .i64 6]) (by simp [results, Tryz.results8, go_sem, r0, r1, r2]) rfl ⟨by unfold splNil; rw [HV.out], HX.out.a.bel3⟩
        · rw [if_neg hc] at hv0
          exact absurd hv0 HE.out
    · rw [if_neg h2] at hv0
      have HV := Lib.hid hv0
      have k0 : (e2 == 0) = false := by rw [beq_eq_false_iff_ne]; exact h2
      clear hg hv0 he2 h2 r0 r1 r2 g0 g1 g2
      go_wp2_with (first
        | (go_at_call 27; (with_reducible refine (KC.out _ HA.out.a.bel _ _).mono ?_); rintro e w1 ⟨rfl, hb1⟩; have HX := Lib.hid (HA.out.next hb1); obtain ⟨r0, r1, r2, g0, g1, g2⟩ := HX.out.a.r0; clear hb1))
      exact bodyPost_ret (v := .tuple #[.slice none 0 0, .agg #[.slice none 0 0, .string ⟨#[]⟩, .int .i64 0], .int .i64 e2]) (by simp [results, Tryz.results8, go_sem, r0, r1, r2]) rfl ⟨by unfold splNil; rw [HV.out], HX.out.a.bel3⟩
  · rw [if_neg hg] at her
    subst her
    have HX := HA
    have HV := Lib.hid (show splE q s need count vals z = 3 by unfold splE; rw [if_neg hg])
    clear hg
    go_wp2_with fail
    exact bodyPost_ret (v := .tuple #[.slice none 0 0, .agg #[.slice none 0 0, .string ⟨#[]⟩, .int .i64 0], .int .i64 3]) (by simp [results, Tryz.results8, go_sem, r0, r1, r2]) rfl ⟨by unfold splNil; rw [HV.out], HX.out.a.bel3⟩

end Go.Proofs.YtapplggboepfaaaGreatDoor

namespace Go.Proofs.YtapplggboepfaaaGreatDoor
open Go.RowKit
set_option maxRecDepth 100000
set_option linter.unusedVariables false
set_option linter.unusedSimpArgs false
set_option maxHeartbeats 4000000

/-- The first error among the first draws. -/
def manyE (vals : List ByteArray) (seed : ByteArray) (z : Int) (m : Nat) : Nat → Int
  | 0 => 0
  | t + 1 => if manyE vals seed z m t = 0 then (belowS vals seed (z + (t : Nat)) m).1 else manyE vals seed z m t
theorem manyE_zero {vals : List ByteArray} {seed : ByteArray} {z : Int} {m : Nat} : ∀ {K : Nat}, manyE vals seed z m K = 0 → ∀ i, i < K → (belowS vals seed (z + (i : Nat)) m).1 = 0
  | 0, _, i, hi => absurd hi (Nat.not_lt_zero _)
  | t + 1, h, i, hi => by
    unfold manyE at h
    by_cases h0 : manyE vals seed z m t = 0
    · rw [if_pos h0] at h
      rcases Nat.lt_or_ge i t with hlt | hge
      · exact manyE_zero h0 i hlt
      · obtain rfl : i = t := by omega
        exact h
    · rw [if_neg h0] at h
      exact absurd h h0
theorem manyE_stop {vals : List ByteArray} {seed : ByteArray} {z : Int} {m i : Nat} (h0 : manyE vals seed z m i = 0) (hd : (belowS vals seed (z + (i : Nat)) m).1 ≠ 0) : ∀ K, i < K → manyE vals seed z m K = (belowS vals seed (z + (i : Nat)) m).1
  | 0, h => absurd h (Nat.not_lt_zero _)
  | t + 1, h => by
    unfold manyE
    rcases Nat.lt_or_ge i t with hlt | hge
    · have := manyE_stop h0 hd t hlt
      rw [this, if_neg hd]
    · obtain rfl : i = t := by omega
      rw [if_pos h0]
theorem manyE_next {vals : List ByteArray} {seed : ByteArray} {z : Int} {m i : Nat} (h0 : manyE vals seed z m i = 0) (hd : (belowS vals seed (z + (i : Nat)) m).1 = 0) : manyE vals seed z m (i + 1) = 0 := by
  unfold manyE; rw [if_pos h0]; exact hd
theorem good_next {vals : List ByteArray} {seed : ByteArray} {z : Int} {m : Nat} (hm : vals.length ≤ 1000) (hg : goodT vals z = true) (hd : (drawS vals seed z m).1 = 0) : goodT vals (z + 1) = true := by
  obtain ⟨h0, h1, hall⟩ := good_parts hg
  have hz : z < 2147483647 := by
    unfold drawS at hd
    by_cases hv : z < vals.length
    · omega
    · rw [if_neg hv] at hd
      by_cases hs : seed.toList.isEmpty = true ∨ z = 2147483647
      · rw [if_pos hs] at hd; cases hd
      · omega
  unfold goodT at hg ⊢
  simp only [Bool.and_eq_true, decide_eq_true_eq] at hg ⊢
  exact ⟨by omega, by omega, hall⟩
theorem below_draw {vals : List ByteArray} {seed : ByteArray} {z : Int} {m : Nat} (hg : goodT vals z = true) : belowS vals seed z m = drawS vals seed z m := by unfold belowS; rw [if_pos hg]
/-- What a failing call of Many hands back. -/
def manyNil (er : Int) : Ending := .returned (.tuple #[.slice none 0 0, .agg #[.slice none 0 0, .string ⟨#[]⟩, .int .i64 0], .int .i64 er])
/-- The row of a tape lies where it lay, or it is fresh. -/
def AtOld (A At : Option Addr) (k : Nat) : Prop := At = A ∨ ∀ a, At = some a → k ≤ a.block
theorem AtOld.up {A At : Option Addr} {k j : Nat} (h : AtOld A At k) (hj : j ≤ k) : AtOld A At j := h.imp id fun h a ha => Nat.le_trans hj (h a ha)
def manyPost (k : Nat) (vals : List ByteArray) (A : Option Addr) (n : Nat) (seed : ByteArray) (z : Int) (m K : Nat) (e : Ending) (w' : World) : Prop :=
  (manyE vals seed z m K = 0 ∧ ∃ A' c' At ct, e = .returned (.tuple #[.slice A' K c', .agg #[.slice At n ct, .string seed, .int .i64 (z + (K : Nat))], .int .i64 0]) ∧ SLs w' w'.heap.size A' ((coinsL vals seed m z K).map B) ∧ SLs w' w'.heap.size At vals ∧ (∀ a, A' = some a → k ≤ a.block) ∧ AtOld A At k) ∨
  (manyE vals seed z m K ≠ 0 ∧ e = manyNil (manyE vals seed z m K))
theorem AtOld.ne {w wx : World} {A At : Option Addr} {vals : List ByteArray} {k b : Nat} (h : AtOld A At k) (hs : vals = [] ∨ SLs w w.heap.size A vals) (h1 : w.heap.size ≤ b) (h2 : b < k) (hv : vals ≠ []) : ∀ a, At = some a → b ≠ a.block := by
  intro a ha
  rcases h with rfl | hg
  · rcases hs with h | h
    · exact absurd h hv
    · obtain ⟨ad, e, hb, _⟩ := h hv
      rw [ha] at e
      cases e
      omega
  · have := hg a ha
    omega
theorem SLs.farOld {w wx : World} {A At : Option Addr} {vals : List ByteArray} {k b j : Nat} {x y t : Value} (h : AtOld A At k) (hs : SLs w w.heap.size A vals) (h1 : w.heap.size ≤ b) (h2 : b < k) (hx : SLs wx j At vals) :
    SLs (((wx.setCell ⟨b, 0, none⟩ x).setCell ⟨b, 1, none⟩ y).setCell ⟨b, 2, none⟩ t) j At vals := by
  intro hne
  exact SLs.farZ hx (AtOld.ne (wx := wx) h (.inr hs) h1 h2 hne) hne
theorem coins_ManyG (vals : List ByteArray) (A : Option Addr) (n c : Nat) (seed : ByteArray) (z : Int) (m K : Nat) (w : World) (hn : vals.length = n) (hm : n ≤ 1000) (h : SLs w w.heap.size A vals) (hg : goodT vals z = true)
    (hm0 : 1 ≤ m) (hm1 : m < 18446744073709551616) (hs : seed.size ≤ 100000) (hT : Tab10 w) (hK : K ≤ 400) :
    Calls Tryz.prog 25 #[.agg #[.slice A n c, .string seed, .int .i64 z], .string (B m), .int .i64 K] w fun e w' => manyPost w.heap.size vals A n seed z m K e w' ∧ Below w.heap.size w w' := by
  have KR := Lib.hid (fun wq (h1 : Below w.heap.size w wq) => coins_ready vals A n c w.heap.size seed (B m) z wq hn (by omega) (h.below h1) h1.size)
  rw [readyT_good hg hm0 (Nat.lt_trans hm1 (by decide))] at KR
  have HA0 := Lib.hid (AtS.start w A n c seed z)
  have hni := nat_info
  obtain ⟨i0, hi0, hi1⟩ := Option.map_eq_some_iff.1 hni
  obtain ⟨hz0, hz1, hz2⟩ : i0.zero = some (.string ByteArray.empty) ∧ i0.size = 1 ∧ i0.bytes = 16 := by simpa using hi1
  have HZ := Lib.hid (And.intro hi0 (And.intro hz0 (And.intro hz1 hz2)))
  have KD := Lib.hid (fun (i : Nat) (A' : Option Addr) (c' : Nat) wq (hgi : goodT vals (z + (i : Nat)) = true) (h1 : Below w.heap.size w wq) (h2 : SLs wq wq.heap.size A' vals) =>
    coins_drawF vals A' n c' seed (z + (i : Nat)) m wq hn hm h2 hgi hm0 hm1 hs (hT.below h1))
  have HLEN := Lib.hid (show vals.length ≤ 1000 by omega)
  have HG := Lib.hid hg
  have HS0 := Lib.hid h
  have HK := Lib.hid hK
  have p1 : decide ((K : Int) < 0) = false := by rw [decide_eq_false_iff_not]; omega
  have p2 : decide ((4096 : Int) < (K : Int)) = false := by rw [decide_eq_false_iff_not]; omega
  clear hn hm h hg hm0 hm1 hs hT hK hni hi0 hi1 hz0 hz1 hz2
  go_enter Tryz.func25, Tryz.ntmps25
  go_wp2_with (first
    | (go_at_call 43; (with_reducible refine (KR.out _ HA0.out.a.bel).mono ?_); rintro e w1 ⟨rfl, hb1⟩
       have HA1 := Lib.hid (HA0.out.next hb1)
       obtain ⟨t0, t1, t2, _, _⟩ := HA1.out.a
       clear hb1))
  clear t0 t1 t2 p1 p2 KR HA0
  go_loopw [29, 10] (fun v u wr => ∃ (i : Nat) (A' : Option Addr) (c' : Nat), v = .int .i64 i ∧ i ≤ K ∧ manyE vals seed z m i = 0 ∧ goodT vals (z + (i : Nat)) = true ∧ AtOld A A' (w.heap.size + 2) ∧ AtS w wr A' n c' seed (z + (i : Nat)) ∧ SLs wr wr.heap.size A' vals ∧ OwnS wr (w.heap.size + 2) u i ((coinsL vals seed m z i).map B)) (fun v _ _ => K - (intOf v).toNat)
  case atStart => exact ⟨0, A, c, rfl, Nat.zero_le _, rfl, by simpa using HG.out, .inl rfl, by simpa using HA1.out, (HS0.out.below HA1.out.a.bel).more HA1.out.a.bel.size, OwnS.nil_ _ _⟩
  case round =>
    clear HA1
    obtain ⟨i, A', c', rfl, hi, hm0, hgi, hold, hat, hsl, hown⟩ := hrel
    have HM0 := Lib.hid hm0
    have HGI := Lib.hid hgi
    have HOLD := Lib.hid hold
    clear hm0 hold
    obtain ⟨Au, cu, rfl⟩ := hown.slice
    have HA := Lib.hid hat
    have HSL := Lib.hid hsl
    have HO := Lib.hid hown
    obtain ⟨t0, t1, t2, _, _⟩ := hat.a
    clear hat hsl hown
    by_cases hlt : i < K
    · have p3 : decide (i < K) = true := decide_eq_true hlt
      have KE0 := KD.out i A' c' wr hgi HA.out.a.bel HSL.out
      have hbd := below_draw (seed := seed) (m := m) hgi
      rw [← hbd] at KE0
      clear hgi
      by_cases hd : (belowS vals seed (z + (i : Nat)) m).1 = 0
      case neg =>
        obtain ⟨d, hd'⟩ : ∃ d, d = (belowS vals seed (z + (i : Nat)) m).1 := ⟨_, rfl⟩
        have HST := Lib.hid (manyE_stop HM0.out hd K hlt)
        have KF := Lib.hid (KE0.mono (R' := fun e w' => e = .returned (.tuple #[.string ⟨#[]⟩, .agg #[.slice none 0 0, .string ⟨#[]⟩, .int .i64 0], .int .i64 d]) ∧ Below wr.heap.size wr w') (by
          rintro e w' ⟨⟨h0, _⟩ | ⟨_, h1⟩, hb⟩
          · exact absurd h0 hd
          · rw [← hd'] at h1; exact ⟨h1, hb⟩))
        rw [← hd'] at HST hd
        have HD := Lib.hid hd
        have k0 : (d == 0) = false := by rw [beq_eq_false_iff_ne]; exact hd
        obtain ⟨zi, hzi⟩ : ∃ zi, zi = z + (i : Int) := ⟨_, rfl⟩
        rw [← hzi] at KF HA t2
        clear hd hd' KE0 hbd hlt hi hzi
        go_wp2_with (first
          | (go_at_call 44; (with_reducible refine KF.out.mono ?_); rintro e w2 ⟨rfl, hb2⟩
             have HA3 := Lib.hid (HA.out.next hb2)
             have HA4 := Lib.hid (HA3.out.next ((Below.refl _ _).alloc (Nat.le_refl _) (.cells #[.slice none 0 0, .string ⟨#[]⟩, .int .i64 0] 30)))
             obtain ⟨r0, r1, r2, g0, g1, g2⟩ := HA4.out.a.r0
             clear hb2))
        refine bodyPost_ret (v := .tuple #[.slice none 0 0, .agg #[.slice none 0 0, .string ⟨#[]⟩, .int .i64 0], .int .i64 d]) (by simp [results, Tryz.results25, go_sem, r0, r1, r2]) rfl ⟨Or.inr ⟨?_, ?_⟩, HA4.out.a.bel3⟩
        · rw [HST.out]; exact HD.out
        · rw [HST.out]; rfl
      case pos =>
      have HMN := Lib.hid (manyE_next HM0.out hd)
      have HGN := Lib.hid (good_next (m := m) (seed := seed) HLEN.out HGI.out (by rw [← below_draw HGI.out]; exact hd))
      have KE := Lib.hid (KE0.mono (R' := fun e w' => (∃ g, e = .returned (.tuple #[.string (B (belowS vals seed (z + (i : Nat)) m).2), .agg #[.slice (some ⟨g, 0, none⟩) n n, .string seed, .int .i64 (z + (i : Nat) + 1)], .int .i64 0]) ∧ SLs w' w'.heap.size (some ⟨g, 0, none⟩) vals ∧ wr.heap.size ≤ g) ∧ Below wr.heap.size wr w') (by
        rintro e w' ⟨⟨_, g, rfl, hs, hf⟩ | ⟨h, _⟩, hb⟩
        · exact ⟨⟨g, rfl, hs, hf⟩, hb⟩
        · exact absurd hd h))
      clear hd hbd KE0
      obtain ⟨zi, hzi⟩ : ∃ zi, zi = z + (i : Int) := ⟨_, rfl⟩
      obtain ⟨x, hx⟩ : ∃ x, x = (belowS vals seed (z + (i : Nat)) m).2 := ⟨_, rfl⟩
      rw [← hx, ← hzi] at KE
      rw [← hzi] at HA
      have HX := Lib.hid hx
      have HZI := Lib.hid hzi
      have HLT := Lib.hid hlt
      rw [← hzi] at t2
      clear hx hlt hzi hi
      go_wp2_with (first
        | (go_at_call 44; (with_reducible refine KE.out.mono ?_); rintro e w2 ⟨⟨g, rfl, hsl, hf⟩, hb2⟩
           have HB2 := Lib.hid hb2
           have HS2 := Lib.hid hsl
           have HF2 := Lib.hid hf
           have HA3 := Lib.hid ((HA.out.next hb2).next ((Below.refl _ _).alloc (Nat.le_refl _) (.cells #[.slice (some ⟨g, 0, none⟩) n n, .string seed, .int .i64 (zi + 1)] 30)))
           clear hb2 hsl hf))
      obtain ⟨i0, hi0', hz0, hz1, hz2⟩ : ∃ i0, Tryz.prog.info? 25 = some i0 ∧ i0.zero = some (.string ByteArray.empty) ∧ i0.size = 1 ∧ i0.bytes = 16 := ⟨_, HZ.out⟩
      have HOW := Lib.hid (fun W (hb : Below w2.heap.size w2 W) => OwnS.kept (B := 0) (OwnS.kept (B := 0) HO.out HB2.out) hb)
      obtain ⟨y0, y1, y2⟩ : (w2.alloc (.cells #[.slice (some ⟨g, 0, none⟩) n n, .string seed, .int .i64 (zi + 1)] 30)).cell? ⟨w2.heap.size, 0, none⟩ = some (.slice (some ⟨g, 0, none⟩) n n) ∧ (w2.alloc (.cells #[.slice (some ⟨g, 0, none⟩) n n, .string seed, .int .i64 (zi + 1)] 30)).cell? ⟨w2.heap.size, 1, none⟩ = some (.string seed) ∧ (w2.alloc (.cells #[.slice (some ⟨g, 0, none⟩) n n, .string seed, .int .i64 (zi + 1)] 30)).cell? ⟨w2.heap.size, 2, none⟩ = some (.int .i64 (zi + 1)) := ⟨by simp [go_sem], by simp [go_sem], by simp [go_sem]⟩
      obtain ⟨W3, hW3⟩ : ∃ W3, W3 = w2.alloc (.cells #[.slice (some ⟨g, 0, none⟩) n n, .string seed, .int .i64 (zi + 1)] 30) := ⟨_, rfl⟩
      have HMA := Lib.hid (fun W4 w5 (h4 : Below W3.heap.size W3 W4) (hg : W4.grownBy w5 (Value.slice Au i cu).ownBlock) => many_app HA.out HO.out HB2.out HS2.out HF2.out (hW3 ▸ h4) hg)
      have hsz3 : W3.heap.size = w2.heap.size + 1 := by rw [hW3]; exact World.size_alloc _ _
      have hbel3 : Below w2.heap.size w2 W3 := by rw [hW3]; exact (Below.refl _ _).alloc (Nat.le_refl _) _
      rw [← hW3] at y0 y1 y2 HA3 ⊢
      have HW3 := Lib.hid (And.intro hsz3 hbel3)
      have hne2 : w.heap.size ≠ w2.heap.size := by have := HA.out.sz; have := HB2.out.size; omega
      clear hW3 hsz3 hbel3 t0 t1 t2 p3 KE
      go_region_held3 (fun w' => w'.cell? ⟨w2.heap.size, 0, none⟩ = some (.slice (some ⟨g, 0, none⟩) n n) ∧ w'.cell? ⟨w2.heap.size, 1, none⟩ = some (.string seed) ∧ w'.cell? ⟨w2.heap.size, 2, none⟩ = some (.int .i64 (zi + 1))) (first | (with_reducible exact ⟨keep3 hne2 y0, keep3 hne2 y1, keep3 hne2 y2⟩) | (with_reducible exact ⟨hop3 hne2 y0, hop3 hne2 y1, hop3 hne2 y2⟩) | go_keep)
        (first
          | (refine step_append_any _ (by rfl) _ _ _ (by rfl) (w.heap.size + 2) 25 i0 _ 1 16 Tryz.underlying28 hi0' hz0 hz1 hz2 rfl (by omega) (.slice Au i cu) i (((coinsL vals seed m z i).map B).map Value.string) (by rfl) (by first | exact (HOW.out _ (HW3.out.2.alloc (by have := HW3.out.1; omega) _)).2 | exact (HOW.out _ ((HW3.out.2.alloc (by have := HW3.out.1; omega) _).drew)).2 | exact (HOW.out _ ((HW3.out.2.drew).alloc (by have := HW3.out.1; simp [World.drew]; omega) _)).2) (W3.heap.size + 1) (some ⟨W3.heap.size, 0, none⟩) 1 1 [Value.string (B x)] (by rfl) (by first | exact (SLs.new W3 _ [B x] _ (by omega)).reads rfl | exact (SLs.new W3.drew _ [B x] _ (by simp [World.drew])).reads rfl) (by intro u hu; simp at hu; subst hu; rfl) (by unfold maxLen; have := HK.out; have := HLT.out; omega) (by have := HK.out; have := HLT.out; omega) (by have := HA3.out.sz; simp; omega) ?_
             intro v' w5 hown5 hgrow _
             have HM5 : Hid (ManyB w w5 w2.heap.size g n c' A' seed zi vals) := by first | exact Lib.hid (HMA.out _ _ ((Below.refl _ _).alloc (Nat.le_refl _) _) hgrow) | exact Lib.hid (HMA.out _ _ (((Below.refl _ _).alloc (Nat.le_refl _) _).drew) hgrow) | exact Lib.hid (HMA.out _ _ (((Below.refl _ _).drew).alloc (Nat.le_refl _) _) hgrow)
             have HO5 := Lib.hid hown5
             obtain ⟨at5, y0, y1, y2, _⟩ := HM5.out
             obtain ⟨⟨t0, t1, t2, _, _⟩, f0, f1, f2⟩ := at5
             clear hown5 hgrow))
      all_goals
        go_wp2_with fail
        go_roundw
        case rel =>
          refine ⟨i + 1, some ⟨g, 0, none⟩, n, stepK HLT.out HK.out, HLT.out, HMN.out, by rw [show z + ((i + 1 : Nat) : Int) = z + (i : Nat) + 1 by omega]; exact HGN.out, .inr (fun a ha => by cases ha; exact Nat.le_trans HA.out.sz HF2.out), ?_, ?_, ?_⟩
          · have := HM5.out.at_.put (A' := some ⟨g, 0, none⟩) (n' := n) (c' := n) (seed' := seed) (z' := zi + 1)
            rw [show z + ((i + 1 : Nat) : Int) = zi + 1 from zi_next HZI.out]
            first | exact this | exact this.next (Below.refl _ _).drew
          · have := SLs.put0' (x := .slice (some ⟨g, 0, none⟩) n n) (y := .string seed) (t := .int .i64 (zi + 1)) HM5.out.sl t0
            exact this
          · have e1 : (coinsL vals seed m z (i + 1)).map B = (coinsL vals seed m z i).map B ++ [B x] := by rw [coinsL_snoc, List.map_append, HX.out]; rfl
            have h5 : OwnS w5 (w.heap.size + 2) v' (i + 1) ((coinsL vals seed m z (i + 1)).map B) := ⟨by rw [List.length_map, coinsL_len], by rw [e1, List.map_append]; exact HO5.out⟩
            have hl : w.heap.size < w.heap.size + 2 := by omega
            exact ((h5.far (p := ⟨w.heap.size, 0, none⟩) hl).far (p := ⟨w.heap.size, 1, none⟩) hl).far (p := ⟨w.heap.size, 2, none⟩) hl
        case measure => exact measK2 HLT.out HK.out
    · have hiK : i = K := by omega
      subst hiK
      have p3 : decide (i < i) = false := decide_eq_false (Nat.lt_irrefl i)
      obtain ⟨r0, r1, r2, g0, g1, g2⟩ := HA.out.a.r0
      clear hlt hi hgi
      go_wp2_with fail
      go_region
      all_goals
        go_wp2_with fail
        have hl : w.heap.size + 1 < w.heap.size + 2 := by omega
        refine bodyPost_ret (v := .tuple #[.slice Au i cu, .agg #[.slice A' n c', .string seed, .int .i64 (z + (i : Nat))], .int .i64 0]) (by simp [results, Tryz.results25, go_sem, r0, r1, r2]) rfl ⟨.inl ⟨HM0.out, Au, cu, A', c', rfl, ?_, ?_, fun a ha => by (subst ha; have := (HO.out.block a.block rfl).1; omega), HOLD.out.up (by omega)⟩, (HA.out.a.bel3).drew⟩
        · have h6 := OwnS.kept (B := 0) (((HO.out.far (p := ⟨w.heap.size + 1, 0, none⟩) (u := .slice A' n c') hl).far (p := ⟨w.heap.size + 1, 1, none⟩) (u := .string seed) hl).far (p := ⟨w.heap.size + 1, 2, none⟩) (u := .int .i64 (z + (i : Nat))) hl) (Below.refl _ _).drew
          obtain ⟨A2, c2, e2, hs2⟩ := h6.form (by have := HA.out.sz; simpa [World.drew] using this)
          cases e2
          exact hs2
        · have h7 := SLs.farOld (x := .slice A' n c') (y := .string seed) (t := .int .i64 (z + (i : Nat))) HOLD.out HS0.out (Nat.le_succ _) hl HSL.out
          exact (SLs.drew h7).more (by simp [World.drew])

end Go.Proofs.YtapplggboepfaaaGreatDoor

namespace Go.Proofs.YtapplggboepfaaaGreatDoor
open Go.RowKit
set_option maxRecDepth 100000
set_option linter.unusedVariables false
set_option linter.unusedSimpArgs false
set_option maxHeartbeats 4000000

/-- What a split hands back behind its tests. -/
def splPost (k : Nat) (Q S need count : Nat) (vals : List ByteArray) (A : Option Addr) (n : Nat) (seed : ByteArray) (z : Int) (e : Ending) (w' : World) : Prop :=
  (manyE vals seed z Q (need - 1) = 0 ∧ ∃ A' c' At ct, e = .returned (.tuple #[.slice A' count c', .agg #[.slice At n ct, .string seed, .int .i64 (z + ((need - 1 : Nat) : Int))], .int .i64 0]) ∧ SLs w' w'.heap.size A' (shrL Q count (S :: coinsL vals seed Q z (need - 1))) ∧ SLs w' w'.heap.size At vals ∧ AtOld A At k) ∨
  (manyE vals seed z Q (need - 1) ≠ 0 ∧ e = splNil (manyE vals seed z Q (need - 1)))
theorem shamir_SplitG (Q S need count : Nat) (vals : List ByteArray) (A : Option Addr) (n c : Nat) (seed : ByteArray) (z : Int) (w : World) (hE : isE (B Q) = 0) (hS : S < Q) (h1 : 1 ≤ need) (h2 : need ≤ count) (h3 : count ≤ 255) (h4 : count < Q)
    (hn : vals.length = n) (hm : n ≤ 1000) (h : SLs w w.heap.size A vals) (hg : goodT vals z = true) (hs : seed.size ≤ 100000) (hT10 : Tab10 w) (hT : Tab w) :
    Calls Tryz.prog 8 #[.string (B Q), .string (B S), .int .i64 need, .int .i64 count, .agg #[.slice A n c, .string seed, .int .i64 z]] w fun e w' => splPost w.heap.size Q S need count vals A n seed z e w' ∧ Below w.heap.size w w' := by
  have hQ := isE_zero hE
  rw [num_B] at hQ
  have hQ64 := hQ.lt
  have hlim : S < lim := k_lim (by omega)
  have KM1 : Hid (∀ wq, Below w.heap.size w wq → Calls Tryz.prog 25 #[.agg #[.slice A n c, .string seed, .int .i64 z], .string (B 1), .int .i64 0] wq fun e w' => (∃ A' n' c' At ct sdt zt nt, e = .returned (.tuple #[.slice A' n' c', .agg #[.slice At nt ct, .string sdt, .int .i64 zt], .int .i64 0])) ∧ Below wq.heap.size wq w') := Lib.hid fun wq h1 => (coins_Many vals A n c seed z 1 0 wq hn hm (h.to h1) hg (by decide) (by decide) hs (hT10.below h1) (by decide) (fun i hi => absurd hi (Nat.not_lt_zero _))).mono (by
    rintro e w' ⟨⟨A', c', At, ct, sdt, zt, nt, rfl, _⟩, hb⟩
    exact ⟨⟨_, _, _, _, _, _, _, _, rfl⟩, hb⟩)
  have KM2' := (fun wq (h0 : Below w.heap.size w wq) => coins_ManyG vals A n c seed z Q (need - 1) wq hn hm (h.to h0) hg (by omega) hQ64 hs (hT10.below h0) (by omega))
  have HSV := Lib.hid h
  have KO : Hid (∀ w, Calls Tryz.prog 26 #[.int .u64 (IntKind.u64.wrap (count : Int))] w fun e w' => e = .returned (.string (B count)) ∧ Below w.heap.size w w') := Lib.hid fun w => natural_Of' _ count w (by rw [IntKind.wrap_u64]; omega) (by omega)
  have KC : Hid (∀ wq, Below w.heap.size w wq → ∀ T1 T2, Calls Tryz.prog 27 #[.string (B Q), .slice (some ⟨wq.heap.size + 1, 0, none⟩) 1 1] ((wq.alloc (.cells #[.string (B S)] T1)).alloc (.cells #[.slice (some ⟨wq.heap.size, 0, none⟩) 1 1] T2)) fun e w' => e = .returned (.int .i64 0) ∧ Below wq.heap.size wq w') := Lib.hid fun wq h1 T1 T2 => by
    have := check_oneL (B Q) [B S] (some ⟨wq.heap.size, 0, none⟩) 1 1 (wq.alloc (.cells #[.string (B S)] T1)) rfl (by decide) (sls_one wq T1 (B S)) ((hT.below h1).alloc _) T2
    rw [shE_one hE hlim] at this
    rw [World.size_alloc] at this
    refine this.mono ?_
    rintro e w' ⟨rfl, hb⟩
    exact ⟨rfl, below2 ((Below.refl _ _).alloc (Nat.le_refl _) (.cells #[.string (B S)] T1)) (by rw [World.size_alloc]; exact hb)⟩
  have KB := fun (W : World) T => shamir_below (B Q) [B S] (some ⟨W.heap.size, 0, none⟩) 1 1 (W.alloc (.cells #[.string (B S)] T)) rfl (by decide) (sls_one W T (B S))
  have hbl : blwS (B Q) [B S] = true := by
    unfold blwS
    simp only [List.all_cons, List.all_nil, Bool.and_true, decide_eq_true_eq]
    rw [natCmp_lt (valid_B hlim) (valid_B (u64_lt_lim hQ64)), num_B, num_B]
    exact hS
  rw [hbl] at KB
  have KB := Lib.hid KB
  have KCm := fun w => natural_Cmp (B count) (B Q) w
  rw [natCmp_BB (k_lim (by omega)) (u64_lt_lim hQ64), cmpN_lt h4] at KCm
  have KCm := Lib.hid KCm
  have HA0 := Lib.hid (AtS.start w A n c seed z)
  have H2 := Lib.hid (And.intro h1 (And.intro h2 (And.intro h3 h4)))
  have HQ := Lib.hid hQ
  have HSQ := Lib.hid hS
  have d1 : decide ((need : Int) < 1) = false := decide_eq_false (by omega)
  have d2 : decide ((count : Int) < (need : Int)) = false := decide_eq_false (by omega)
  have d3 : decide ((255 : Int) < (count : Int)) = false := decide_eq_false (by omega)
  have d4 : decide (need ≤ count) = true := decide_eq_true h2
  have d5 : need ≤ count := h2
  have HQ64 := Lib.hid hQ64
  have HG4 := Lib.hid hg
  have KMH := Lib.hid KM2'
  clear KM2' hE hQ hQ64 hlim hbl hS h1 h2 h3 h4 hn hm h hg hs hT10 hT
  obtain ⟨⟨t0, t1, t2, _, _⟩, _, _, _⟩ := HA0.out
  have hlt := HA0.out.sz
  have D2 : w.heap.size + 1 + 1 ≠ w.heap.size := by omega
  go_enter Tryz.func8, Tryz.ntmps8
  go_upto_region 1 with fail
  go_cut [15] (fun e wx => e = .int .i64 0 ∧ AtS w wx A n c seed z)
  case first =>
    go_region_held3 (fun w' => w'.cell? ⟨w.heap.size, 0, none⟩ = some (.slice A n c) ∧ w'.cell? ⟨w.heap.size, 1, none⟩ = some (.string seed) ∧ w'.cell? ⟨w.heap.size, 2, none⟩ = some (.int .i64 z)) (first | (with_reducible exact ⟨keep3 D2 t0, keep3 D2 t1, keep3 D2 t2⟩) | go_keep) (first
      | (go_at_call 26; (with_reducible refine (natural_Of' 1 1 _ rfl (by decide)).mono ?_); rintro e w6 ⟨rfl, hb6⟩
         have HB6 : Hid (AtS w w6 A n c seed z) := Lib.hid (by
           refine AtS.next ?_ hb6
           repeat (first | with_reducible exact HA0.out | with_reducible refine AtS.drew ?_ | with_reducible refine AtS.alloc ?_ _))
         obtain ⟨⟨t0, t1, t2, _, _⟩, _, _, _⟩ := HB6.out
         have hlt6 := HB6.out.sz
         have D6 : w6.heap.size ≠ w.heap.size := by { omega }
         try (refine putZ (P := Hid (ZBx w6 (w.heap.size + 1 + 1))) (Lib.hid (ZBx.of hb6 ?_ ?_)) (fun NN => ?_); (focus (simp; done)); (focus (constructor <;> simp [go_sem])))
         clear hb6)
      | (go_at_call 25
         (with_reducible refine (KM1.out _ (AtB.bel (AtS.a (A := A) (n := n) (c := c) (seed := seed) (z := z) (by repeat (first | with_reducible exact HB6.out | with_reducible refine AtS.drew ?_ | with_reducible refine AtS.alloc ?_ _))))).mono ?_)
         rintro e w7 ⟨⟨A', n', c', At, ct, sdt, zt, nt, rfl⟩, hb7⟩
         have HB7 : Hid (AtS w w7 A n c seed z) := Lib.hid (by
           refine AtS.next ?_ hb7
           repeat (first | with_reducible exact HB6.out | with_reducible refine AtS.drew ?_ | with_reducible refine AtS.alloc ?_ _))
         obtain ⟨⟨t0, t1, t2, _, _⟩, _, _, _⟩ := HB7.out
         have hlt7 := HB7.out.sz
         have D7 : w7.heap.size ≠ w.heap.size := by { omega }
         try (refine putZ (P := Hid (ZBx w7 w6.heap.size ∧ w.heap.size + 2 ≤ w6.heap.size)) (Lib.hid ⟨ZBx.of hb7 ?_ ?_, HB6.out.sz⟩) (fun HNN => ?_); (focus (simp; done)); (focus (constructor <;> simp [go_sem])))
         try (refine putZ (P := Hid (ZBx w7 (w.heap.size + 1 + 1) ∧ w.heap.size + 2 ≤ w.heap.size + 1 + 1)) (Lib.hid ⟨ZBx.of hb7 (ZBx.lt (w := w6) ?_) ?_, Nat.le_refl _⟩) (fun HNN => ?_); exact NN.out; exact NN.out)
         try obtain ⟨N0, N1, N2, F0, F1, F2⟩ := HNN.out.1
         clear hb7))
    all_goals
      go_wp2_with fail
      go_meet
      refine ⟨rfl, ?_⟩
      first
        | with_reducible exact HB7.out.alloc _
        | with_reducible exact HB7.out.drew.alloc _
        | with_reducible exact (HB7.out.alloc _).drew
        | with_reducible exact HB7.out.boxes HNN.out.2
        | with_reducible exact (HB7.out.boxes HNN.out.2).drew
        | with_reducible exact (HB7.out.drew.boxes HNN.out.2)
  case rest =>
  obtain ⟨rfl, hcut⟩ := hcut
  have HA := Lib.hid hcut
  clear hcut t0 t1 t2 D2 hlt KM1 HA0
  obtain ⟨ME, hME⟩ : ∃ ME, ME = manyE vals seed z Q (need - 1) := ⟨_, rfl⟩
  by_cases hme : ME = 0
  case neg =>
    have KE := Lib.hid (fun (y : Int) wq (h0 : Below w.heap.size w wq) (hy : y = ((need - 1 : Nat) : Int)) => (hy ▸ KMH.out wq h0 : Calls Tryz.prog 25 #[.agg #[.slice A n c, .string seed, .int .i64 z], .string (B Q), .int .i64 y] wq _).mono (R' := fun e w' => e = splNil ME ∧ Below wq.heap.size wq w') (by
      rintro e w' ⟨⟨h0, _⟩ | ⟨_, h1⟩, hb⟩
      · exact absurd (hME.trans h0) hme
      · rw [← hME] at h1; exact ⟨h1, hb⟩))
    have HME := Lib.hid (And.intro hme hME)
    have k0 : (ME == 0) = false := by rw [beq_eq_false_iff_ne]; exact hme
    clear hme hME KMH
    unfold splNil at KE
    go_wp2_with (first
      | (go_at_call 27; (with_reducible refine (KC.out _ HA.out.a.bel _ _).mono ?_); rintro e w1 ⟨rfl, hb1⟩; have HA1 := Lib.hid (HA.out.next hb1); clear hb1)
      | (go_at_call 28; (with_reducible refine (KB.out w1 _).mono ?_); rintro e w2 ⟨rfl, rfl⟩; have HA2 := Lib.hid (HA1.out.alloc (.cells #[.string (B S)] 25)))
      | (go_at_call 26; (with_reducible refine (KO.out _).mono ?_); rintro e w3 ⟨rfl, hb3⟩; have HA3 := Lib.hid (HA2.out.next hb3); obtain ⟨⟨t0, t1, t2, _, _⟩, f0, f1, f2⟩ := HA3.out; clear hb3)
      | (go_at_call 29; (with_reducible refine (KCm.out _).mono ?_); rintro e w4 ⟨rfl, rfl⟩)
      | (go_at_call 25; (with_reducible refine (KE.out _ _ HA3.out.a.bel (sub64 H2.out)).mono ?_); rintro e w7 ⟨rfl, hb7⟩
         have HA7 := Lib.hid (HA3.out.next hb7)
         obtain ⟨⟨t0, t1, t2, _, _⟩, f0, f1, f2⟩ := HA7.out
         have HP7 := Lib.hid (HA7.out.put (A' := none) (n' := 0) (c' := 0) (seed' := ⟨#[]⟩) (z' := 0))
         obtain ⟨r0, r1, r2, g0, g1, g2⟩ := HP7.out.a.r0
         clear hb7))
    refine bodyPost_ret (v := .tuple #[.slice none 0 0, .agg #[.slice none 0 0, .string ⟨#[]⟩, .int .i64 0], .int .i64 ME]) (by simp [results, Tryz.results8, go_sem, r0, r1, r2]) rfl ⟨Or.inr ⟨?_, ?_⟩, HP7.out.a.bel3⟩
    · rw [← HME.out.2]; exact HME.out.1
    · rw [← HME.out.2]; rfl
  case pos =>
  subst hme
  have HME := Lib.hid hME
  have KM2 := Lib.hid (fun (y : Int) wq (h0 : Below w.heap.size w wq) (hy : y = ((need - 1 : Nat) : Int)) => (hy ▸ KMH.out wq h0 : Calls Tryz.prog 25 #[.agg #[.slice A n c, .string seed, .int .i64 z], .string (B Q), .int .i64 y] wq _).mono (R' := fun e w' => (∃ A' c' At ct sdt zt nt, e = .returned (.tuple #[.slice A' (need - 1) c', .agg #[.slice At nt ct, .string sdt, .int .i64 zt], .int .i64 0]) ∧ SLs w' w'.heap.size A' ((coinsL vals seed Q z (need - 1)).map B) ∧ (∀ a, A' = some a → wq.heap.size ≤ a.block) ∧ (nt = n ∧ sdt = seed ∧ zt = z + ((need - 1 : Nat) : Int) ∧ SLs w' w'.heap.size At vals ∧ AtOld A At wq.heap.size)) ∧ Below wq.heap.size wq w') (by
      rintro e w' ⟨⟨_, A', c', At, ct, rfl, h1, h2, h3, h4⟩ | ⟨h0, _⟩, hb⟩
      · exact ⟨⟨_, _, _, _, _, _, _, rfl, h1, h3, rfl, rfl, rfl, h2, h4⟩, hb⟩
      · exact absurd hME.symm h0))
  have HCL := Lib.hid (coinsL_ltQ (by have := HQ.out.two; omega) (manyE_zero hME.symm))
  clear hME KMH
  go_upto_region 14 with (first
    | (go_at_call 27; (with_reducible refine (KC.out _ HA.out.a.bel _ _).mono ?_); rintro e w1 ⟨rfl, hb1⟩; have HA1 := Lib.hid (HA.out.next hb1); clear hb1)
    | (go_at_call 28; (with_reducible refine (KB.out w1 _).mono ?_); rintro e w2 ⟨rfl, rfl⟩; have HA2 := Lib.hid (HA1.out.alloc (.cells #[.string (B S)] 25)))
    | (go_at_call 26; (with_reducible refine (KO.out _).mono ?_); rintro e w3 ⟨rfl, hb3⟩; have HA3 := Lib.hid (HA2.out.next hb3); obtain ⟨⟨t0, t1, t2, _, _⟩, f0, f1, f2⟩ := HA3.out; clear hb3)
    | (go_at_call 29; (with_reducible refine (KCm.out _).mono ?_); rintro e w4 ⟨rfl, rfl⟩)
    | (go_at_call 25; (with_reducible refine (KM2.out _ _ HA3.out.a.bel (sub64 H2.out)).mono ?_); rintro e w7 ⟨⟨A', c', At, ct, sdt, zt, nt, rfl, hsA, hfr, hxx⟩, hb7⟩
       have HA7 := Lib.hid (HA3.out.next hb7)
       have HB7 := Lib.hid hb7
       have HS7 := Lib.hid (SLs.farZ (b := w.heap.size) (x := .slice At nt ct) (y := .string sdt) (t := .int .i64 zt) hsA (fun a ha => by have := hfr a ha; have := HA3.out.sz; omega))
       obtain ⟨⟨t0, t1, t2, _, _⟩, f0, f1, f2⟩ := HA7.out
       have HX7 := Lib.hid hxx
       have HF7 := Lib.hid (And.intro (AtOld.up hxx.2.2.2.2 HA3.out.sz) (SLs.farOld (b := w.heap.size) (x := .slice At nt ct) (y := .string sdt) (t := .int .i64 zt) hxx.2.2.2.2 HSV.out (Nat.le_refl _) (Nat.lt_of_lt_of_le (Nat.lt_succ_of_lt (Nat.lt_succ_self _)) HA3.out.sz) hxx.2.2.2.1))
       clear hxx
       have HP7 := Lib.hid (HA7.out.put (A' := At) (n' := nt) (c' := ct) (seed' := sdt) (z' := zt))
       clear hb7 hsA hfr))
  clear t0 t1 t2 f0 f1 f2
  obtain ⟨Wp, hWp⟩ : ∃ Wp, (((w7.setCell ⟨w.heap.size, 0, none⟩ (.slice At nt ct)).setCell ⟨w.heap.size, 1, none⟩ (.string sdt)).setCell ⟨w.heap.size, 2, none⟩ (.int .i64 zt)) = Wp := ⟨_, rfl⟩
  have hsz7 : w7.heap.size = Wp.heap.size := by rw [← hWp]; simp
  rw [hWp] at HP7 HS7 HF7 ⊢
  have HS8 : Hid (SLs Wp Wp.heap.size A' ((coinsL vals seed Q z (need - 1)).map B)) := Lib.hid (hsz7 ▸ HS7.out)
  have HV8 : Hid (SLs Wp Wp.heap.size At vals) := Lib.hid (hsz7 ▸ HF7.out.2)
  have HD8 := Lib.hid HF7.out.1
  have HL8 : Hid (((coinsL vals seed Q z (need - 1)).map B).length = need - 1) := Lib.hid (by rw [List.length_map, coinsL_len])
  have HO8 := Lib.hid (OwnS.lit Wp Wp.heap.size [B S] 1 (Nat.le_refl _) rfl (by decide))
  have HP8 := Lib.hid (HP7.out.alloc (.cells #[.string (B S)] 25))
  clear hWp hsz7 HS7 HA7 HA3 HA2 HA1 HA HB7
  go_upto_region 16 with (at_builtin; refine wpList_append_S rfl (.tmp 83) (.tmp 84) rfl Wp.heap.size (.slice (some ⟨Wp.heap.size, 0, none⟩) 1 1) 1 [B S] rfl HO8.out A' (need - 1) c' ((coinsL vals seed Q z (need - 1)).map B) rfl (HS8.out.to ((Below.refl _ _).alloc (Nat.le_refl _) _)) HL8.out (by have := H2.out; omega) (by rw [World.size_alloc]; omega) ?_
                          intro v9 w9 h1' h2' h3'
                          have hbg := below_grown h2' (show Wp.heap.size ≤ (Wp.alloc (.cells #[.string (B S)] 25)).heap.size by rw [World.size_alloc]; omega) (fun g hg => (HO8.out.blockOf g hg).1)
                          have hP9 := HP8.out.nextB (hbg.mono HP7.out.sz)
                          have HV9 := Lib.hid (HV8.out.to (((Below.refl _ _).alloc (Nat.le_refl _) _).trans hbg))
                          obtain ⟨A9, c9, rfl, hs9⟩ := h1'.form (Nat.le_trans (by rw [World.size_alloc]; omega) hbg.size)
                          have HP9 := Lib.hid hP9
                          have HS9 : Hid (SLs w9 w9.heap.size A9 ((S :: coinsL vals seed Q z (need - 1)).map B)) := Lib.hid hs9
                          clear h1' h2' h3' hP9 hs9 hbg)
  clear KC KB KCm KM2 HP8 HO8 HS8 HL8 HP7 HV8 HF7 d1 d2 d4 d5
  obtain ⟨N, hN⟩ : ∃ N, 1 + (need - 1) = N := ⟨_, rfl⟩
  obtain ⟨cs, hcs⟩ : ∃ cs, S :: coinsL vals seed Q z (need - 1) = cs := ⟨_, rfl⟩
  have HCS := Lib.hid hcs
  rw [hcs] at HS9
  rw [hN]
  have KV := Lib.hid (fun (k : Nat) wq (hk : k < 256) (hb : Below w9.heap.size w9 wq) => shamir_value Q (k + 1) cs A9 N c9 wq HQ.out.lt (by have := HQ.out.two; omega) (by omega) (by
      rw [← hcs]; intro a ha
      rcases List.mem_cons.1 ha with rfl | ha
      · exact HSQ.out
      · exact HCL.out _ ha) (by rw [← hcs, List.length_cons, coinsL_len]; omega) (by have := H2.out; omega) (HS9.out.to hb))
  have KO2 := Lib.hid (fun (k : Nat) (y : Int) wq (hk : k < 256) (hy : y = ((k + 1 : Nat) : Int)) => natural_Of' y (k + 1) wq hy (by omega))
  have HCN := Lib.hid H2.out.2.2.1
  clear hN hcs H2 HSQ HS9 KO
  go_wp2_with fail
  go_loopw [19, 87] (fun u v wr => ∃ k : Nat, v = .int .i64 k ∧ k ≤ count ∧ OwnS wr w9.heap.size u k (shrL Q k cs) ∧ Below w9.heap.size w9 wr) (fun _ v _ => count - (intOf v).toNat)
  case atStart => exact ⟨0, rfl, Nat.zero_le _, OwnS.nil_ _ _, Below.refl _ _⟩
  case round =>
    obtain ⟨k, rfl, hk, hown, hbel⟩ := hrel
    obtain ⟨Au, cu, rfl⟩ := hown.slice
    have HOWN := Lib.hid hown
    have HBEL := Lib.hid hbel
    clear hown hbel
    by_cases hlt : k < count
    · have HLT := Lib.hid hlt
      have H256 : Hid (k < 256) := Lib.hid (by have := HCN.out; omega)
      clear hk
      go_wp2_with (first
        | (go_at_call 26; (with_reducible refine (KO2.out k _ _ H256.out (ofk H256.out)).mono ?_); rintro e w2 ⟨rfl, hb2⟩; have HB2 := Lib.hid hb2; clear hb2)
        | (go_at_call 30; (with_reducible refine (KV.out k _ H256.out (below2 HBEL.out HB2.out)).mono ?_); rintro e w3 ⟨rfl, hb3⟩; have hcb := comb_step HOWN.out HBEL.out (below2 HB2.out hb3) (B (valL Q (k + 1) cs)); have HOW2 := Lib.hid hcb.1; have HBA := Lib.hid hcb.2; clear hcb hb3)
        | (at_builtin; refine wpList_append_S rfl (.tmp 90) (.tmp 98) rfl w9.heap.size _ k _ rfl HOW2.out _ 1 1 [B (valL Q (k + 1) cs)] rfl (sls_one _ _ _) rfl (by have := H256.out; omega) HBA.out.size ?_; intro v5 w5 h1' h2' h3'; rw [← shrL_snoc] at h1'; have HO5 := Lib.hid h1'; have HB5 := Lib.hid (HBA.out.trans (below_grown h2' HBA.out.size (fun g hg => (HOW2.out.blockOf g hg).1))); clear h1' h2' h3'))
      go_roundw
      case rel => exact ⟨k + 1, stp64 HLT.out (by have := HCN.out; omega), HLT.out, HO5.out, HB5.out⟩
      case measure => exact mes64 HLT.out (by have := HCN.out; omega)
    · obtain rfl : k = count := by omega
      have HA := Lib.hid (HP9.out.nextB (HBEL.out.mono HP9.out.sz))
      obtain ⟨⟨t0, t1, t2, _, _⟩, f0, f1, f2⟩ := HA.out
      obtain ⟨r0, r1, r2, g0, g1, g2⟩ := HA.out.a.r0
      clear hlt hk
      go_wp2_with fail
      go_region
      all_goals
        go_wp2_with fail
        refine bodyPost_ret (v := .tuple #[.slice Au k cu, .agg #[.slice At nt ct, .string sdt, .int .i64 zt], .int .i64 0]) (by simp [results, Tryz.results8, go_sem, r0, r1, r2]) rfl ⟨.inl ⟨HME.out.symm, Au, cu, At, ct, by obtain ⟨rfl, rfl, rfl, _⟩ := HX7.out; rfl, ?_, ?_, HD8.out.up (by omega)⟩, (HA.out.a.bel3).drew⟩
        · have hl : w.heap.size + 1 < w9.heap.size := HP9.out.sz
          have h6 := OwnS.kept (B := 0) (((HOWN.out.far (p := ⟨w.heap.size + 1, 0, none⟩) (u := .slice At nt ct) hl).far (p := ⟨w.heap.size + 1, 1, none⟩) (u := .string sdt) hl).far (p := ⟨w.heap.size + 1, 2, none⟩) (u := .int .i64 zt) hl) (Below.refl _ _).drew
          obtain ⟨A2, c2, e2, hs2⟩ := h6.form (by have := HBEL.out.size; simpa [World.drew] using this)
          cases e2
          rw [HCS.out]
          exact hs2
        · have h7 := SLs.farOld (b := w.heap.size + 1) (x := .slice At nt ct) (y := .string sdt) (t := .int .i64 zt) HD8.out HSV.out (Nat.le_succ _) (Nat.lt_succ_self _) (HV9.out.to HBEL.out)
          exact (SLs.drew h7).more (by simp [World.drew])

end Go.Proofs.YtapplggboepfaaaGreatDoor
