/- Wallet: the law WalletCounts. -/
import Derived.Test.YtlheedcnmfekoaaYl
namespace Go.Proofs.Ytlheedcnmfekoaa
open Go.RowKit
set_option maxRecDepth 100000
set_option linter.unusedVariables false
set_option maxHeartbeats 8000000

/-- The counts after i uses. -/
def usI (sc : ByteArray) (z : Int) (i : Nat) : List Uz := if i = 0 then [] else [(sc, z, (i : Int))]
theorem usI_cnt (sc : ByteArray) (z : Int) (i : Nat) : cntU (isU sc z) (usI sc z i) = (i : Int) := by
  unfold usI
  split
  · subst_vars; rfl
  · exact cnt_one _ _ _
theorem usI_put (sc : ByteArray) (z : Int) (i : Nat) : putU (sc, z, (i : Int) + 1) (usI sc z i) = usI sc z (i + 1) := by
  unfold usI
  split
  · subst_vars; rfl
  · rw [put_one]; rfl
theorem usI_ok {sc : ByteArray} {z : Int} (h : sc.size ≤ 100000) (hz : (Lit.int .i64 z).wf = true) (i : Nat) : WalOk [] [] (usI sc z i) := by
  unfold usI
  split
  · exact ok_nil
  · exact ok_one h hz
theorem usI_val {sec sc : ByteArray} {z : Int} (h : valid sec = true) (i : Nat) : validW sec [] [] (usI sc z i) = true := by
  unfold usI
  split
  · exact val_nil h
  · exact val_one h (by omega)
theorem app_ne (sc t : ByteArray) (h : 0 < t.size) : sc ≠ sc ++ t := by
  intro e
  have := congrArg ByteArray.size e
  rw [ByteArray.size_append] at this
  omega
theorem usI_else (sc t : ByteArray) (z : Int) (i : Nat) (h : 0 < t.size) : cntU (isU (sc ++ t) z) (usI sc z i) = 0 := by
  unfold usI
  split
  · rfl
  · exact cnt_not (isU_else _ _ _ _ _ (app_ne sc t h))
theorem law56_Counts (sc : ByteArray) (z lm : Int) (w : World) (hz : -9223372036854775808 ≤ z ∧ z ≤ 9223372036854775807) (hzw : (Lit.int .i64 z).wf = true) (hl : 0 ≤ lm ∧ lm ≤ 255) :
    Calls Try.prog 3 #[.string sc, .int .i64 z, .int .u8 lm] w fun e w' => e = .returned (.bool true) ∧ Below w.heap.size w w' := by
  have HAW := Lib.hid (fun W => law56_awake W)
  by_cases hsc : 200 < sc.size
  · have d1 : decide ((200 : Int) < (sc.size : Int)) = true := decide_eq_true (by omega)
    have d2 : decide (200 < sc.size) = true := decide_eq_true hsc
    clear hz hl
    go_enter Try.func3, Try.ntmps3
    go_wp2_with (go_at_call 5; (with_reducible refine (HAW.out _).mono ?_); rintro e w1 ⟨rfl, hb⟩; have HB := Lib.hid hb; clear hb)
    go_ret
    exact ⟨rfl, HB.out⟩
  · obtain ⟨n, hn⟩ : ∃ n : Nat, lm.toNat % 8 = n := ⟨_, rfl⟩
    have hn7 : n < 8 := by omega
    have hrem : lm.tmod 8 = (n : Int) := by
      obtain ⟨L, rfl⟩ : ∃ L : Nat, lm = L := ⟨lm.toNat, by omega⟩
      rw [Int.toNat_natCast] at hn
      rw [Int.tmod_eq_emod_of_nonneg (by omega)]
      omega
    have HS := Lib.hid (And.intro hsc (And.intro hn7 (And.intro hz hzw)))
    have HNEW := Lib.hid (fun W => wal_New ⟨#[7]⟩ W)
    have hv7 : valid ⟨#[7]⟩ = true := by decide
    have HV := Lib.hid hv7
    have d1 : decide ((200 : Int) < (sc.size : Int)) = false := decide_eq_false (by omega)
    have d2 : decide (200 < sc.size) = false := decide_eq_false hsc
    clear hv7 hn
    go_enter Try.func3, Try.ntmps3
    go_upto_region 5 with (go_at_call 6; (with_reducible refine (HNEW.out _).mono ?_); rintro e w1 ⟨rfl, hb⟩; have HB1 := Lib.hid (AwB.start (sec := ⟨#[7]⟩) (us := []) (n1 := 0) (n2 := 0) (n3 := 0) (c1 := 0) (c2 := 0) (c3 := 0) hb rfl rfl rfl WalM.nil_); clear hb)
    obtain ⟨b8, hb8⟩ : ∃ b, w1.heap.size = b := ⟨_, rfl⟩
    obtain ⟨w2, hw2⟩ : ∃ w2, w1.alloc (.cells #[.string ⟨#[7]⟩, .slice none 0 0, .slice none 0 0, .slice none 0 0] 28) = w2 := ⟨_, rfl⟩
    rw [hw2] at HB1 ⊢
    rw [hb8] at HB1 ⊢
    clear hw2 hb8 hrem hl
    go_wp2_with fail
    go_loopw [31] (fun v wr => ∃ i : Nat, i ≤ n ∧ v = .int .i64 i ∧ ∃ (A1 : Option Addr) (n1 c1 : Nat) (A2 : Option Addr) (n2 c2 : Nat) (A3 : Option Addr) (n3 c3 : Nat), AwB w ⟨#[7]⟩ A1 n1 c1 A2 n2 c2 A3 n3 c3 (usI sc z i) b8 wr) (fun v _ => n - (intOf v).toNat)
    case atStart => exact ⟨0, Nat.zero_le _, rfl, none, 0, 0, none, 0, 0, none, 0, 0, HB1.out⟩
    case round =>
      obtain ⟨i, hi, rfl, A1, n1, c1, A2, n2, c2, A3, n3, c3, hab⟩ := hrel
      have HAB := Lib.hid hab
      clear hab HB1
      obtain ⟨⟨x0, x1, x2, x3⟩, y0, y1, y2, y3⟩ := HAB.out.bc
      by_cases hlt : i < n
      · have hil : (i : Int) < (n : Int) := by omega
        have HU := Lib.hid (HAB.out.use sc z (n : Int) (i : Int) (usI sc z (i + 1)) (usI_ok (by have := HS.out.1; omega) HS.out.2.2.2 i) (usI_val HV.out i) (usI_cnt sc z i) (usI_put sc z i) (by omega) hil (by omega) HS.out.2.2.1 (by have := HS.out.1; omega))
        have HLT := Lib.hid hlt
        clear hlt
        go_upto_region 9 with (go_at_call 7; (with_reducible refine HU.out.mono ?_); rintro e w5 ⟨B1, m1, d1, B2, m2, d2, B3, m3, d3, s5, rfl, l1, l2, l3, hm, hb⟩; have HB5 := Lib.hid (HAB.out.next hb); have HM5 := Lib.hid hm; have HL5 := Lib.hid (And.intro l1 (And.intro l2 l3)); have HBB := Lib.hid hb; clear hm hb l1 l2 l3)
        have hal : Below w5.heap.size w5 (w5.alloc (.cells #[.string ⟨#[7]⟩, .slice B1 m1 d1, .slice B2 m2 d2, .slice B3 m3 d3] 28)) := (Below.refl _ _).alloc (Nat.le_refl _) _
        have HB6 := Lib.hid (HB5.out.next hal)
        have HM6 := Lib.hid (HM5.out.keep (fun p hp => hal.cell hp.2))
        have hbx := heap_alloc_new w5 (.cells #[.string ⟨#[7]⟩, .slice B1 m1 d1, .slice B2 m2 d2, .slice B3 m3 d3] 28)
        have z0 := cell_of_row _ _ 0 _ _ _ hbx
        have z1 := cell_of_row _ _ 1 _ _ _ hbx
        have z2 := cell_of_row _ _ 2 _ _ _ hbx
        have z3 := cell_of_row _ _ 3 _ _ _ hbx
        have hz6 : w5.heap.size ≤ (w5.alloc (.cells #[.string ⟨#[7]⟩, .slice B1 m1 d1, .slice B2 m2 d2, .slice B3 m3 d3] 28)).heap.size := by simp
        have HZ6 := Lib.hid hz6
        clear hbx hal hz6 x0 x1 x2 x3 y0 y1 y2 y3
        obtain ⟨w6, hw6⟩ : ∃ w6, w5.alloc (.cells #[.string ⟨#[7]⟩, .slice B1 m1 d1, .slice B2 m2 d2, .slice B3 m3 d3] 28) = w6 := ⟨_, rfl⟩
        rw [hw6] at HB6 HM6 z0 z1 z2 z3 HZ6 ⊢
        clear hw6
        obtain ⟨⟨x0, x1, x2, x3⟩, y0, y1, y2, y3⟩ := HB6.out.bc
        have HPUT := Lib.hid (HB6.out.put (d1 := d1) (d2 := d2) (d3 := d3) HM6.out (fun g hg => ⟨Nat.le_trans HAB.out.bel.size hg.1, Nat.lt_of_lt_of_le hg.2 HZ6.out, by have := HAB.out.lt; have := hg.1; omega⟩) HL5.out.1 HL5.out.2.1 HL5.out.2.2)
        go_wp2_with fail
        go_roundw
        case rel => exact ⟨i + 1, HLT.out, by go_num, B1, m1, d1, B2, m2, d2, B3, m3, d3, HPUT.out⟩
        case measure => have := HLT.out; simp only [intOf]; omega
      · obtain rfl : n = i := by omega
        have HLIM := Lib.hid (HAB.out.lim sc z (n : Int) (usI_ok (by have := HS.out.1; omega) HS.out.2.2.2 n) (usI_val HV.out n) (by rw [usI_cnt]; exact Int.le_refl _))
        go_upto_region 14 with (go_at_call 7; (with_reducible refine HLIM.out.mono ?_); rintro e w5 ⟨rfl, hb⟩; have HB5 := Lib.hid ((HAB.out.next hb).alloc (.cells #[.string ⟨#[]⟩, .slice none 0 0, .slice none 0 0, .slice none 0 0] 28)); clear hb)
        clear x0 x1 x2 x3 y0 y1 y2 y3
        obtain ⟨w6, hw6⟩ : ∃ w6, w5.alloc (.cells #[.string ⟨#[]⟩, .slice none 0 0, .slice none 0 0, .slice none 0 0] 28) = w6 := ⟨_, rfl⟩
        rw [hw6] at HB5 ⊢
        clear hw6
        obtain ⟨⟨x0, x1, x2, x3⟩, y0, y1, y2, y3⟩ := HB5.out.bc
        have hxs : (sc ++ (⟨#[120]⟩ : ByteArray)).size ≤ 201 := by rw [ByteArray.size_append]; have := HS.out.1; show sc.size + 1 ≤ 201; omega
        have HU := Lib.hid (HB5.out.use (sc ++ ⟨#[120]⟩) z 1 0 _ (usI_ok (by have := HS.out.1; omega) HS.out.2.2.2 n) (usI_val HV.out n) (usI_else sc ⟨#[120]⟩ z n (by decide)) rfl (by decide) (by decide) (by decide) HS.out.2.2.1 (by omega))
        clear hxs
        go_wp2_with (first
          | (go_at_call 7; (with_reducible refine HU.out.mono ?_); rintro e w7 ⟨D1, q1, f1, D2, q2, f2, D3, q3, f3, s9, rfl, l1, l2, l3, hm, hb⟩; have HB7 := Lib.hid ((HB5.out.next hb).alloc (.cells #[.string ⟨#[7]⟩, .slice D1 q1 f1, .slice D2 q2 f2, .slice D3 q3 f3] 28)); clear hm hb l1 l2 l3)
          | (go_at_call 5; (with_reducible refine (HAW.out _).mono ?_); rintro e w8 ⟨rfl, hb⟩; have HB8 := Lib.hid (HB7.out.next hb); clear hb))
        go_ret
        exact ⟨rfl, HB8.out.bel⟩

end Go.Proofs.Ytlheedcnmfekoaa
