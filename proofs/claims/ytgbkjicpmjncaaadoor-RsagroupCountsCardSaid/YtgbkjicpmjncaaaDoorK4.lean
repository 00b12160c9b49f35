/- The law RsagroupCounts returns true. -/
import Derived.Test.YtgbkjicpmjncaaaDoorK3
namespace Go.Proofs.YtgbkjicpmjncaaaDoor
open Go.RowKit
set_option maxRecDepth 100000
set_option linter.unusedVariables false
set_option maxHeartbeats 1000000

theorem law_counts (m o p q : ByteArray) (w : World) (hT : Tab w) :
    Calls Tryd.prog 4 #[.agg #[.string m, .string o], .agg #[.string p, .string q]] w fun r w' => r = .returned (.bool true) ∧ Below w.heap.size w w' := by
  have HAW := Lib.hid law10_awake
  have hT0 : Tab ((w.alloc (.cells #[.string m, .string o] 24)).alloc (.cells #[.string p, .string q] 26)) := (hT.alloc _).alloc _
  have hB0 : Below w.heap.size w ((w.alloc (.cells #[.string m, .string o] 24)).alloc (.cells #[.string p, .string q] 26)) := ((Below.refl _ _).alloc (Nat.le_refl _) _).alloc (by simp) _
  have HT0 := Lib.hid hT0
  have HB0 := Lib.hid hB0
  have hsm := fun w => natural_Small m w
  cases hv : valid m && decide (m.size ≤ 8)
  · have hs : natSmall m = (0, false) := by unfold natSmall; rw [hv]; rfl
    rw [hs] at hsm
    have HSM := Lib.hid hsm
    clear hsm hs hv hT hT0 hB0
    go_enter Tryd.func4, Tryd.ntmps4
    go_wp2_with (first | (go_at_call 11; (with_reducible refine (HSM.out _).mono ?_); rintro e w' ⟨rfl, rfl⟩) | (go_at_call 8; refine (HAW.out _ HT0.out).mono ?_; rintro e w9 ⟨rfl, hb9⟩))
    go_ret
    exact ⟨rfl, below2 HB0.out hb9⟩
  · have hs : natSmall m = (num m, true) := by unfold natSmall; rw [hv]; rfl
    rw [hs] at hsm
    have HSM := Lib.hid hsm
    have hv2 := hv
    simp only [Bool.and_eq_true, decide_eq_true_eq] at hv2
    obtain ⟨_, sm⟩ := hv2
    by_cases hn : num m ≤ 1000
    · have k1 : decide ((1000 : Int) < (num m : Int)) = false := by simp; omega
      have hst : CtAt w m o p q (((w.alloc (.cells #[.string m, .string o] 24)).alloc (.cells #[.string p, .string q] 26)).alloc (.cells #[.string o, .string p, .string q] 22)) :=
        ⟨by simp [go_sem], by simp [go_sem], by simp [go_sem], by simp [go_sem], ((hT.alloc _).alloc _).alloc _, (((Below.refl _ _).alloc (Nat.le_refl _) _).alloc (by simp) _).alloc (by simp; omega) _, by simp⟩
      have hrow : SRow (((w.alloc (.cells #[.string m, .string o] 24)).alloc (.cells #[.string p, .string q] 26)).alloc (.cells #[.string o, .string p, .string q] 22)) (w.heap.size + 1 + 1) [o, p, q] := by
        have := SRow.new ((w.alloc (.cells #[.string m, .string o] 24)).alloc (.cells #[.string p, .string q] 26)) 22 [o, p, q]
        simp only [World.size_alloc] at this
        exact this
      have hfew := law10_few [o, p, q] 3 (w.heap.size + 1 + 1) _ rfl (by decide) hrow
      cases hf : fewS [o, p, q]
      · rw [hf] at hfew
        have HFW := Lib.hid hfew
        have HS := Lib.hid hst
        generalize num m = n at *
        clear hsm hs hv hT hT0 hB0 hst hrow hfew hf hn
        go_enter Tryd.func4, Tryd.ntmps4
        go_wp2_with (first | (go_at_call 11; (with_reducible refine (HSM.out _).mono ?_); rintro e w' ⟨rfl, rfl⟩) | (go_at_call 5; refine HFW.out.mono ?_; rintro e w' ⟨rfl, rfl⟩) | (go_at_call 8; refine (HAW.out _ HS.out.tab).mono ?_; rintro e w9 ⟨rfl, hb9⟩))
        go_ret
        exact ⟨rfl, (HS.out.next hb9).below⟩
      · by_cases hc : checkS m o p q = 0
        · exact law_counts_main m o p q _ _ _ _ w hT sm hf hc (good_of sm hn hc)
        · rw [hf] at hfew
          have HFW := Lib.hid hfew
          have HS := Lib.hid hst
          have HCK := Lib.hid (fun w hT => rsagroup_Check m o p q w sm hT)
          have hcb : (checkS m o p q != 0) = true := by rw [bne_iff_ne]; exact hc
          generalize num m = n at *
          generalize checkS m o p q = ck at *
          clear hsm hs hv hT hT0 hB0 hst hrow hfew hf hn hc
          go_enter Tryd.func4, Tryd.ntmps4
          go_wp2_with (first | (go_at_call 11; (with_reducible refine (HSM.out _).mono ?_); rintro e w' ⟨rfl, rfl⟩) | (go_at_call 5; refine HFW.out.mono ?_; rintro e w' ⟨rfl, rfl⟩) | (go_at_call 6; refine (HCK.out _ HS.out.tab).mono ?_; rintro e w1 ⟨rfl, hb1⟩; have n1 := HS.out.next hb1; have H1 := Lib.hid n1; clear n1) | (go_at_call 8; refine (HAW.out _ H1.out.tab).mono ?_; rintro e w9 ⟨rfl, hb9⟩))
          go_ret
          exact ⟨rfl, (H1.out.next hb9).below⟩
    · have k1 : decide ((1000 : Int) < (num m : Int)) = true := by simp; omega
      generalize num m = n at *
      clear hsm hs hv hT hT0 hB0 hn
      go_enter Tryd.func4, Tryd.ntmps4
      go_wp2_with (first | (go_at_call 11; (with_reducible refine (HSM.out _).mono ?_); rintro e w' ⟨rfl, rfl⟩) | (go_at_call 8; refine (HAW.out _ HT0.out).mono ?_; rintro e w9 ⟨rfl, hb9⟩))
      go_ret
      exact ⟨rfl, below2 HB0.out hb9⟩

end Go.Proofs.YtgbkjicpmjncaaaDoor
