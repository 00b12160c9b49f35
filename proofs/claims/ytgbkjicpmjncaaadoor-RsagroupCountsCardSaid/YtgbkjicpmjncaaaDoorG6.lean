/- The walks of package rsagroup: Log. -/
import Derived.Test.YtgbkjicpmjncaaaDoorG5
namespace Go.Proofs.YtgbkjicpmjncaaaDoor
open Go.RowKit
set_option maxRecDepth 100000
set_option linter.unusedVariables false
set_option maxHeartbeats 400000

/-- The least exponent of a power from step k on. -/
def logGo (b x m : Nat) : Nat → Nat → Nat → Int × Bool
  | 0, _, _ => (0, false)
  | f + 1, k, y => if y = x then ((k : Int), true) else logGo b x m f (k + 1) (y * b % m)
/-- The least exponent of a power up to a limit. -/
def logS (m o b x : ByteArray) (most : Int) : Int × Bool :=
  if hasS m o b && hasS m o x then logGo (num b) (num x) (num m) (min most 65536 + 1).toNat 0 1 else (0, false)
set_option maxHeartbeats 1000000 in
theorem rsagroup_Log (m o b x : ByteArray) (most : Int) (w : World) (sm : m.size ≤ 8) (hmo : -9223372036854775808 ≤ most ∧ most ≤ 9223372036854775807) :
    Calls Tryd.prog 24 #[.agg #[.string m, .string o], .string b, .string x, .int .i64 most] w fun e w' => e = .returned (.tuple #[.int .i64 (logS m o b x most).1, .bool (logS m o b x most).2]) ∧ Below w.heap.size w w' := by
  have hr : logS m o b x most = if hasS m o b && hasS m o x then logGo (num b) (num x) (num m) (min most 65536 + 1).toNat 0 1 else (0, false) := rfl
  have hhb := fun w => rsagroup_Has m o b w sm
  have hhx := fun w => rsagroup_Has m o x w sm
  have F0 := Lib.hid (show Below w.heap.size w (w.alloc (.cells #[.string m, .string o] 24)) from (Below.refl _ _).alloc (Nat.le_refl _) _)
  have tb := hasS_lt (o := o) (x := b) sm
  have tx := hasS_lt (o := o) (x := x) sm
  generalize hasS m o b = h1 at *
  generalize hasS m o x = h2 at *
  have HB := Lib.hid hhb
  have HX := Lib.hid hhx
  have HR := Lib.hid hr
  have TB := Lib.hid tb
  have TX := Lib.hid tx
  clear hhb hhx hr tb tx
  cases h1
  · go_enter Tryd.func24, Tryd.ntmps24
    go_wp2_with (first | (go_at_call 7; (with_reducible refine (HB.out _).mono ?_); rintro e w1 ⟨rfl, hb1⟩; have hcw1 := (bcell hb1).1; have hs1 := hb1.size; have hq1 : w.heap.size < w1.heap.size := by { simp at hs1; omega }))
    go_ret2
    exact ⟨by rw [HR.out] <;> rfl, below2 F0.out hb1⟩
  · cases h2
    · go_enter Tryd.func24, Tryd.ntmps24
      go_wp2_with (first | (go_at_call 7; (with_reducible refine (HB.out _).mono ?_); rintro e w1 ⟨rfl, hb1⟩; have hcw1 := (bcell hb1).1; have hs1 := hb1.size; have hq1 : w.heap.size < w1.heap.size := by { simp at hs1; omega }) | (go_at_call 7; (with_reducible refine (HX.out _).mono ?_); rintro e w2 ⟨rfl, hb2⟩; have hcw2 := (bcell hb2).1))
      go_ret2
      exact ⟨by rw [HR.out] <;> rfl, below2 (below2 F0.out hb1) hb2⟩
    · obtain ⟨vb, blt, b64, _, hg, _⟩ := TB.out rfl
      obtain ⟨vx, xlt, x64, _, _, _⟩ := TX.out rfl
      have vm := goodS_valid hg
      have m64 := natSmall_bound m sm
      obtain ⟨bn, hbn⟩ : ∃ n, num b = n := ⟨_, rfl⟩
      obtain ⟨xn, hxn⟩ : ∃ n, num x = n := ⟨_, rfl⟩
      obtain ⟨mn, hmn⟩ : ∃ n, num m = n := ⟨_, rfl⟩
      have eb : b = B bn := by rw [← hbn, B_num vb]
      have ex : x = B xn := by rw [← hxn, B_num vx]
      have em : m = B mn := by rw [← hmn, B_num vm]
      rw [hbn] at blt b64 HR
      rw [hxn] at xlt x64 HR
      rw [hmn] at blt xlt m64 HR
      subst eb ex em
      clear hbn hxn hmn vb vx vm hg TB TX
      have HMUL := Lib.hid (fun y (hy : y < 18446744073709551616) w => modular_Mul y bn mn w hy b64 m64 (by omega))
      obtain ⟨M, hM⟩ : ∃ M, min most 65536 = M := ⟨_, rfl⟩
      rw [hM] at HR
      obtain ⟨L, hL⟩ : ∃ L, (M + 1).toNat = L := ⟨_, rfl⟩
      rw [hL] at HR
      have HL := Lib.hid hL
      have HM2 := Lib.hid (show M ≤ 65536 by omega)
      have HMN := Lib.hid (show 0 < mn by omega)
      have HM64 := Lib.hid m64
      clear hL b64 x64 m64 blt xlt hmo
      go_enter Tryd.func24, Tryd.ntmps24
      go_wp2_with (first | (go_at_call 7; (with_reducible refine (HB.out _).mono ?_); rintro e w1 ⟨rfl, hb1⟩; have hcw1 := (bcell hb1).1; have hs1 := hb1.size; have hq1 : w.heap.size < w1.heap.size := by { simp at hs1; omega }) | (go_at_call 7; (with_reducible refine (HX.out _).mono ?_); rintro e w2 ⟨rfl, hb2⟩; have hcw2 := (bcell hb2).1) | (go_at_call 21; refine (rsagroup_one _).mono ?_; rintro e w3 ⟨rfl, hb3⟩; have hcw3 := (bcell hb3).1))
      go_loopw [10, 11] (fun vy vk wr => ∃ (k y : Nat), vy = .string (B y) ∧ vk = .int .i64 k ∧ y < 18446744073709551616 ∧ k ≤ L ∧ k ≤ 65537 ∧ logGo bn xn mn (L - k) k y = logGo bn xn mn L 0 1 ∧ Below w3.heap.size w3 wr) (fun _ vk _ => 65537 - (intOf vk).toNat)
      case atStart => exact ⟨0, 1, rfl, rfl, by decide, Nat.zero_le _, by decide, rfl, Below.refl _ _⟩
      case round =>
        obtain ⟨k, y, rfl, rfl, hy, hkL, hk, hlog, hbel⟩ := hrel
        have hcw4 := (bcell hbel).1
        have hs2 := hb2.size
        have hs3 := hb3.size
        have hs4 := hbel.size
        have hq2 : w.heap.size < w2.heap.size := by omega
        have hq3 : w.heap.size < w3.heap.size := by omega
        have hq4 : w.heap.size < wr.heap.size := by omega
        have HLOG := Lib.hid hlog
        have KY := B_beq' y xn
        have HY := Lib.hid hy
        clear hlog hy
        have HML := HL.out
        by_cases hlt : (k : Int) ≤ M
        · have K1 : decide ((k : Int) ≤ M) = true := decide_eq_true hlt
          obtain ⟨f, hf⟩ : ∃ f, L - k = f + 1 := ⟨L - k - 1, by omega⟩
          rw [hf] at HLOG
          have HF := Lib.hid hf
          have HLT := Lib.hid hlt
          clear hf hlt HML
          cases dy : decide (y = xn)
          · rw [dy] at KY
            have HDY := Lib.hid (of_decide_eq_false dy)
            clear dy
            go_wp2_with (first | (go_at_call 9; refine (HMUL.out _ HY.out _).mono ?_; rintro e w5 ⟨rfl, hb5⟩))
            go_roundw
            case rel => exact ⟨k + 1, y * bn % mn, by rfl, by rfl, Nat.lt_trans (Nat.mod_lt _ HMN.out) HM64.out, by have := HF.out; omega, by have := HLT.out; have := HM2.out; omega, by rw [← HLOG.out]; have : L - (k + 1) = f := by { have := HF.out; omega }; rw [this]; conv => { rhs; unfold logGo }; rw [if_neg HDY.out], below2 hbel hb5⟩
            case measure => have := HLT.out; have := HM2.out; simp only [intOf]; omega
          · rw [dy] at KY
            have HDY := Lib.hid (of_decide_eq_true dy)
            clear dy
            go_wp2_with fail
            go_ret2
            have hres : logS (B mn) o (B bn) (B xn) most = ((k : Int), true) := by rw [HR.out, if_pos (by rfl), ← HLOG.out]; unfold logGo; rw [if_pos HDY.out]
            exact ⟨by rw [hres] <;> rfl, below2 (below2 (below2 (below2 F0.out hb1) hb2) hb3) hbel⟩
        · have K1 : decide ((k : Int) ≤ M) = false := decide_eq_false hlt
          have HLT := Lib.hid hlt
          clear hlt HML
          go_wp2_with fail
          go_ret2
          have hf : L - k = 0 := by have := HLT.out; have := HL.out; omega
          have hres : logS (B mn) o (B bn) (B xn) most = (0, false) := by rw [HR.out, if_pos (by rfl), ← HLOG.out, hf]; rfl
          exact ⟨by rw [hres] <;> rfl, below2 (below2 (below2 (below2 F0.out hb1) hb2) hb3) hbel⟩


end Go.Proofs.YtgbkjicpmjncaaaDoor
