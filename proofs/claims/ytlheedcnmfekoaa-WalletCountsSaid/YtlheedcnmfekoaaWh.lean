/- Encoding: depth. -/
import Derived.Test.YtlheedcnmfekoaaWg
namespace Go.Proofs.Ytlheedcnmfekoaa
open Go.RowKit
set_option maxRecDepth 100000
set_option linter.unusedVariables false
set_option maxHeartbeats 4000000

theorem deepI_size (l : Its) : deepI l ≤ l.size := by
  induction l with
  | nil => exact Nat.le_refl _
  | cons k n t l r ihl ihr => simp only [deepI, Its.size]; split <;> omega
theorem enc_depth (N : Nat) : ∀ (y : Its.One) (A : Option Addr) (c : Nat) (S : Nat → Prop) (w : World), y.2.2.2.size ≤ N → N ≤ 100000 → SlI w S A y.2.2.2 → (∀ g, S g → g < w.heap.size) → Calls Try.prog 83 #[valI y A c] w fun e w' => e = .returned (.int .i64 (deepOne y : Nat)) ∧ Below w.heap.size w w' := by
  induction N using Nat.strongRecOn with
  | ind N ih =>
  intro y A c S w hsz hN hsl hS
  obtain ⟨k, n, t, l⟩ := y
  have HIH := Lib.hid ih
  have HS := Lib.hid hS
  have HSZ := Lib.hid hsz
  have hl6 : l.len ≤ 100000 := Nat.le_trans (Its.len_size l) (Nat.le_trans hsz hN)
  have HDS := Lib.hid (show deepI l ≤ 100000 from Nat.le_trans (deepI_size l) (Nat.le_trans hsz hN))
  have HV := Lib.hid (VaAt.start (k := k) (n := n) (t := t) (A := A) (l := l) (c := c) hsl hS)
  clear ih hsl hS hsz
  unfold valI deepOne
  dsimp only
  by_cases k2 : k = 2
  · subst k2
    rw [if_pos rfl]
    go_enter Try.func83, Try.ntmps83
    go_wp2_with fail
    go_loopw [3, 12] (fun v3 v wr => ∃ i d : Nat, v3 = .int .i64 d ∧ v = .int .i64 i ∧ i ≤ l.len ∧ d = deepI (l.take i) ∧ d ≤ 100000 ∧ VaAt w S 2 n t A l c wr) (fun _ v _ => l.len - (intOf v).toNat)
    case atStart => exact ⟨0, 0, rfl, rfl, Nat.zero_le _, by rw [Its.take_zero]; rfl, Nat.zero_le _, HV.out⟩
    case round =>
      obtain ⟨i, d, rfl, rfl, hi, hd, hd6, hva⟩ := hrel
      have HD := Lib.hid hd
      have HVA := Lib.hid hva
      obtain ⟨x0, x1, x2, x3⟩ := hva.all
      clear hd hva
      by_cases hlt : i < l.len
      · obtain ⟨y, hy⟩ := Its.get_lt hlt
        obtain ⟨g, off, A', c', rfl, hsg, y0, y1, y2, y3, hsl'⟩ := HVA.out.src.at_ hy
        have hys := Its.get_size hy
        have HTK := Lib.hid (Its.take_succ hy)
        have HLT := Lib.hid hlt
        have hil : (i : Int) < (l.len : Int) := by omega
        obtain ⟨yk, yn, yt, yl⟩ := y
        dsimp only at y0 y1 y2 y3 hys hsl'
        have hbw : Below wr.heap.size wr (wr.alloc (.cells #[.int .i64 yk, .string yn, .string yt, .slice A' yl.len c'] 69)) := (Below.refl _ _).alloc (Nat.le_refl _) _
        have hic := HIH.out yl.size (by have := HSZ.out; omega) (yk, yn, yt, yl) A' c' S _ (Nat.le_refl _) (by have := HSZ.out; omega) (hsl'.below hbw (fun g hg => Nat.lt_of_lt_of_le (HS.out g hg) HVA.out.bel.size)) (fun g hg => Nat.lt_of_lt_of_le (HS.out g hg) (Nat.le_trans HVA.out.bel.size hbw.size))
        unfold valI at hic
        dsimp only at hic
        obtain ⟨b, hb⟩ : ∃ b, deepOne (yk, yn, yt, yl) = b := ⟨_, rfl⟩
        rw [hb] at hic
        obtain ⟨M, hM⟩ : ∃ M, max d b = M := ⟨_, rfl⟩
        have hmx : max (d : Int) (b : Int) = (M : Int) := by rw [← hM]; omega
        have HNX : Hid (M = deepI (l.take (i + 1))) := Lib.hid (by rw [HTK.out, deepI_app, deepI_one, ← HD.out, hb, hM])
        have HM6 : Hid (M ≤ 100000) := Lib.hid (by
          have h1 : deepOne (yk, yn, yt, yl) ≤ yl.size + 1 := by unfold deepOne; have := deepI_size yl; split <;> (first | omega | (dsimp only; omega))
          have h2 := HSZ.out
          rw [hb] at h1
          omega)
        have HIC := Lib.hid hic
        clear hsg hsl' hys hy hbw hlt hic hb hM
        go_wp2_with (go_at_call 83; (with_reducible refine HIC.out.mono ?_); rintro e w5 ⟨rfl, hb5⟩; have H5 := Lib.hid ((HVA.out.alloc HS.out _).next HS.out hb5); clear hb5)
        go_roundw
        case rel => exact ⟨i + 1, M, rfl, rfl, HLT.out, HNX.out, HM6.out, H5.out⟩
        case measure => have := HLT.out; simp only [intOf]; omega
      · obtain rfl : i = l.len := by omega
        have HF : Hid (deepI l = d) := Lib.hid (by rw [HD.out, Its.take_all l (Nat.le_refl _)])
        go_wp2_with fail
        go_ret
        exact ⟨by rw [HF.out]; rfl, HVA.out.bel⟩
  · have q2 : (k != 2) = true := by rw [bne_iff_ne]; exact k2
    rw [if_neg k2]
    clear k2
    go_enter Try.func83, Try.ntmps83
    go_wp2_with fail
    go_ret
    exact ⟨rfl, HV.out.bel⟩

end Go.Proofs.Ytlheedcnmfekoaa
