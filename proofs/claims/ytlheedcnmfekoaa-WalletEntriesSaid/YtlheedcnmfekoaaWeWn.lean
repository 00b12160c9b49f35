/- Encoding: Encode. -/
import Derived.Test.YtlheedcnmfekoaaWeWk
namespace Go.Proofs.Ytlheedcnmfekoaa
open Go.RowKit
set_option maxRecDepth 100000
set_option linter.unusedVariables false
set_option maxHeartbeats 4000000
theorem enc_Encode (y : Its.One) (A : Option Addr) (c : Nat) (S : Nat → Prop) (w : World) (hsz : y.2.2.2.size ≤ 100000) (hel : (encOne y).length ≤ 200000000) (hsl : SlI w S A y.2.2.2) (hS : ∀ g, S g → g < w.heap.size) :
    Calls Try.prog 65 #[valI y A c] w fun e w' => e = .returned (.tuple #[.string (encS y).1, .int .i64 (encS y).2]) ∧ Below w.heap.size w w' := by
  obtain ⟨k, n, t, l⟩ := y
  have HS := Lib.hid hS
  have HV := Lib.hid (VaAt.start (k := k) (n := n) (t := t) (A := A) (l := l) (c := c) hsl hS)
  have hlt : ∀ (wx : World), VaAt w S k n t A l c wx → ∀ g, S g → g < wx.heap.size := fun wx hb g hg => Nat.lt_of_lt_of_le (hS g hg) hb.bel.size
  have HVA := fun (wx : World) (hb : VaAt w S k n t A l c wx) => Lib.hid (enc_valid l.size (k, n, t, l) A c S wx (Nat.le_refl _) hsz hb.src (hlt wx hb))
  have HDE := fun (wx : World) (hb : VaAt w S k n t A l c wx) => Lib.hid (enc_depth l.size (k, n, t, l) A c S wx (Nat.le_refl _) hsz hb.src (hlt wx hb))
  have HWR := fun (wx : World) (hb : VaAt w S k n t A l c wx) (hok : okOne (k, n, t, l) = true) => Lib.hid (enc_write l.size (k, n, t, l) A c S wx (Nat.le_refl _) hsz hok hel hb.src (hlt wx hb))
  clear hsl hS hsz hlt
  unfold valI at HVA HDE HWR ⊢
  dsimp only at HVA HDE HWR ⊢
  obtain ⟨D, hD⟩ : ∃ D, deepOne (k, n, t, l) = D := ⟨_, rfl⟩
  obtain ⟨E, hE⟩ : ∃ E, encOne (k, n, t, l) = E := ⟨_, rfl⟩
  unfold encS
  rw [hD, hE]
  rw [hD] at HDE
  rw [hE] at HWR hel
  clear hD hE
  by_cases hok : okOne (k, n, t, l) = true
  · rw [hok] at HVA
    have HWR2 := fun wx hb => HWR wx hb hok
    rw [if_pos hok]
    clear HWR hok
    by_cases hd : D ≤ deepMax
    · rw [if_pos hd]
      have k1 : decide ((32 : Int) < (D : Int)) = false := decide_eq_false (by unfold deepMax at hd; omega)
      have k2 : decide ((32 : Nat) < D) = false := decide_eq_false (by unfold deepMax at hd; omega)
      clear hd
      by_cases he : E.length ≤ textMax
      · rw [if_pos he]
        have k3 : decide ((65536 : Int) < (E.length : Int)) = false := decide_eq_false (by unfold textMax at he; omega)
        have k4 : decide (65536 < E.length) = false := decide_eq_false (by unfold textMax at he; omega)
        clear he
        go_enter Try.func65, Try.ntmps65
        go_wp2_with (first
          | (go_at_call 82; (with_reducible refine (HVA _ HV.out).out.mono ?_); rintro e w1 ⟨rfl, hb1⟩; have H1 := Lib.hid (HV.out.next HS.out hb1); obtain ⟨x0, x1, x2, x3⟩ := H1.out.all; clear hb1)
          | (go_at_call 83; (with_reducible refine (HDE _ H1.out).out.mono ?_); rintro e w2 ⟨rfl, hb2⟩; have H2 := Lib.hid (H1.out.next HS.out hb2); obtain ⟨y0, y1, y2, y3⟩ := H2.out.all; clear hb2)
          | (go_at_call 84; (with_reducible refine (HWR2 _ H2.out).out.mono ?_); rintro e w3 ⟨rfl, hb3⟩; have H3 := Lib.hid (H2.out.next HS.out hb3); clear hb3))
        all_goals go_ret2
        all_goals exact ⟨rfl, H3.out.bel⟩
      · rw [if_neg he]
        have k3 : decide ((65536 : Int) < (E.length : Int)) = true := decide_eq_true (by unfold textMax at he; omega)
        have k4 : decide (65536 < E.length) = true := decide_eq_true (by unfold textMax at he; omega)
        clear he
        go_enter Try.func65, Try.ntmps65
        go_wp2_with (first
          | (go_at_call 82; (with_reducible refine (HVA _ HV.out).out.mono ?_); rintro e w1 ⟨rfl, hb1⟩; have H1 := Lib.hid (HV.out.next HS.out hb1); obtain ⟨x0, x1, x2, x3⟩ := H1.out.all; clear hb1)
          | (go_at_call 83; (with_reducible refine (HDE _ H1.out).out.mono ?_); rintro e w2 ⟨rfl, hb2⟩; have H2 := Lib.hid (H1.out.next HS.out hb2); obtain ⟨y0, y1, y2, y3⟩ := H2.out.all; clear hb2)
          | (go_at_call 84; (with_reducible refine (HWR2 _ H2.out).out.mono ?_); rintro e w3 ⟨rfl, hb3⟩; have H3 := Lib.hid (H2.out.next HS.out hb3); clear hb3))
        all_goals go_ret2
        all_goals exact ⟨rfl, H3.out.bel⟩
    · rw [if_neg hd]
      have k1 : decide ((32 : Int) < (D : Int)) = true := decide_eq_true (by unfold deepMax at hd; omega)
      have k2 : decide ((32 : Nat) < D) = true := decide_eq_true (by unfold deepMax at hd; omega)
      clear hd
      go_enter Try.func65, Try.ntmps65
      go_wp2_with (first
        | (go_at_call 82; (with_reducible refine (HVA _ HV.out).out.mono ?_); rintro e w1 ⟨rfl, hb1⟩; have H1 := Lib.hid (HV.out.next HS.out hb1); obtain ⟨x0, x1, x2, x3⟩ := H1.out.all; clear hb1)
        | (go_at_call 83; (with_reducible refine (HDE _ H1.out).out.mono ?_); rintro e w2 ⟨rfl, hb2⟩; have H2 := Lib.hid (H1.out.next HS.out hb2); obtain ⟨y0, y1, y2, y3⟩ := H2.out.all; clear hb2))
      all_goals go_ret2
      all_goals exact ⟨rfl, H2.out.bel⟩
  · have hf : okOne (k, n, t, l) = false := by cases h : okOne (k, n, t, l) with
      | true => exact absurd h hok
      | false => rfl
    rw [hf] at HVA
    rw [if_neg hok]
    clear HWR hok hf
    go_enter Try.func65, Try.ntmps65
    go_wp2_with (first
      | (go_at_call 82; (with_reducible refine (HVA _ HV.out).out.mono ?_); rintro e w1 ⟨rfl, hb1⟩; have H1 := Lib.hid (HV.out.next HS.out hb1); obtain ⟨x0, x1, x2, x3⟩ := H1.out.all; clear hb1))
    all_goals go_ret2
    all_goals exact ⟨rfl, H1.out.bel⟩
end Go.Proofs.Ytlheedcnmfekoaa
