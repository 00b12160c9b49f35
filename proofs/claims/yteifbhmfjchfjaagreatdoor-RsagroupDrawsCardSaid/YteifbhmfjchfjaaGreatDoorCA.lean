/- The walks of the reference's package 06 (coins): Decimal, canonical, Good. -/
import Derived.Test.YteifbhmfjchfjaaGreatDoorHC
import Derived.Test.YteifbhmfjchfjaaGreatDoorY3
import Derived.Test.YteifbhmfjchfjaaGreatDoorRA
namespace Go.Proofs.YteifbhmfjchfjaaGreatDoor
open Go.RowKit
set_option maxRecDepth 100000
set_option linter.unusedVariables false
set_option maxHeartbeats 4000000

theorem digit_piece : ∀ i : Fin 10, ((⟨#[48, 49, 50, 51, 52, 53, 54, 55, 56, 57]⟩ : ByteArray).extract i.val (i.val + 1)).data.toList = [UInt8.ofNat (48 + i.val)] := by decide +kernel
theorem itS_list (n : Nat) : (itS (n : Int)).data.toList = Lib.decDigits n := by
  unfold itS Lib.itoa
  rw [if_neg (by omega), Int.toNat_natCast]
theorem decS_small {n : Nat} (h : n < 10) : (⟨#[48, 49, 50, 51, 52, 53, 54, 55, 56, 57]⟩ : ByteArray).extract n (n + 1) = itS (n : Int) := by
  refine (of_list (digit_piece ⟨n, h⟩)).trans (of_list ?_).symm
  rw [itS_list, Lib.decDigits_one h]
theorem decS_big {n : Nat} (h : ¬ n < 10) : itS ((n / 10 : Nat) : Int) ++ (⟨#[48, 49, 50, 51, 52, 53, 54, 55, 56, 57]⟩ : ByteArray).extract (n % 10) (n % 10 + 1) = itS (n : Int) := by
  have hr : n % 10 < 10 := Nat.mod_lt _ (by decide)
  rw [decS_small hr]
  refine (of_list (L := (itS (n : Int)).data.toList) ?_).trans (of_list rfl).symm
  rw [data_app, itS_list, itS_list, itS_list, Lib.decDigits_one hr]
  conv => rhs; rw [Lib.decDigits, dif_neg h]
theorem r06_Decimal : ∀ (n : Nat) (w : World), n ≤ 9223372036854775807 → Calls Tryz.prog 258 #[.int .i64 n] w fun e w' => e = .returned (.string (itS (n : Int))) ∧ Below w.heap.size w w' := by
  intro n
  induction n using Nat.strongRecOn with
  | _ n ih =>
    intro w hn
    have q0 : ¬ (n : Int) < 0 := by omega
    by_cases h : n < 10
    · have p1 : decide ((n : Int) < 10) = true := decide_eq_true (by omega)
      go_enter Tryz.func258, Tryz.ntmps258
      go_wp2_with fail
      go_ret
      exact ⟨ret_string (decS_small h), Below.refl _ _⟩
    · have p1 : decide ((n : Int) < 10) = false := decide_eq_false (by omega)
      have HB := Lib.hid (decS_big h)
      obtain ⟨q, hq⟩ : ∃ q, q = n / 10 := ⟨_, rfl⟩
      obtain ⟨r, hr⟩ : ∃ r, r = n % 10 := ⟨_, rfl⟩
      rw [← hq, ← hr] at HB
      have KD := Lib.hid (fun w => ih q (by omega) w (by omega))
      have d1 : Int.tdiv (n : Int) 10 = (q : Int) := by rw [Int.tdiv_eq_ediv_of_nonneg (by omega)]; omega
      have d2 : Int.tmod (n : Int) 10 = (r : Int) := by rw [Int.tmod_eq_emod_of_nonneg (by omega)]; omega
      have d3 : (n : Int) / 10 = (q : Int) := by omega
      have d4 : (n : Int) % 10 = (r : Int) := by omega
      have d5 : IntKind.i64.wrap (q : Int) = (q : Int) := IntWalk.i64_in _ (by omega)
      have r0 : (0 : Int) ≤ (r : Int) := by omega
      have r1 : (r : Int) < 10 := by omega
      have r2 : IntKind.i64.wrap ((r : Int) + 1) = (r : Int) + 1 := IntWalk.i64_in _ (by omega)
      have z1 : (itS (q : Int)).size ≤ 21 := itS_size _ (by omega) (by omega)
      have z2 : ((⟨#[48, 49, 50, 51, 52, 53, 54, 55, 56, 57]⟩ : ByteArray).extract r (r + 1)).size ≤ 10 := by
        rw [ByteArray.size_extract]
        exact Nat.le_trans (Nat.sub_le _ _) (Nat.min_le_right _ _)
      clear ih hq hr
      go_enter Tryz.func258, Tryz.ntmps258
      go_wp2_with fail
      go_region_with (go_at_call 258; (with_reducible refine (KD.out _).mono ?_); rintro e w1 ⟨rfl, hb1⟩; have HB1 := Lib.hid hb1; clear hb1)
      all_goals
        go_wp2_with fail
        go_ret
        exact ⟨ret_string HB.out, (Below.refl w.heap.size w).drew.trans HB1.out⟩

theorem tail_list (s : ByteArray) : (s.extract 1 s.size).data.toList = s.data.toList.drop 1 := by
  rw [ByteArray.data_extract, Array.toList_extract]
  rw [List.extract_eq_take_drop]
  exact List.take_of_length_le (by rw [List.length_drop, size_list]; exact Nat.le_refl _)
theorem trim_stop {s : ByteArray} (h : s.data.toList = trimL s.data.toList) : s = B (num s) := by
  refine (of_list (L := s.data.toList) rfl).trans ?_
  unfold B num
  rw [← trimL_eq, ← h]
theorem r06_canonical (s : ByteArray) (w : World) (hs : s.size ≤ 100000) :
    Calls Tryz.prog 259 #[.string s] w fun e w' => e = .returned (.string (B (num s))) ∧ w = w' := by
  go_enter Tryz.func259, Tryz.ntmps259
  go_wp2_with fail
  go_loop [0] (fun v => ∃ t : ByteArray, v = .string t ∧ trimL t.data.toList = trimL s.data.toList ∧ t.size ≤ 100000) (fun v => strLen v)
  case atStart => exact ⟨s, rfl, rfl, hs⟩
  case round =>
    obtain ⟨t, rfl, ht, htz⟩ := hrel
    have HT := Lib.hid ht
    cases hl : t.data.toList with
    | nil =>
      have h0 : t.size = 0 := by rw [← size_list, hl]; rfl
      have HR : Hid (t = B (num s)) := Lib.hid (by
        have e1 := trim_stop (s := t) (by rw [hl]; rfl)
        rw [e1]
        congr 1
        unfold num
        rw [← val_trimL, ht, val_trimL])
      clear ht hl
      go_wp2_with fail
      go_ret
      exact ⟨ret_string HR.out, rfl⟩
    | cons b r =>
      have hp : 0 < t.size := by rw [← size_list, hl]; exact Nat.succ_pos _
      have hb0 : t[0]'hp = b := by rw [← byte_get t 0 hp, hl]; rfl
      have pp : (0 : Int) < (t.size : Int) := by omega
      by_cases hb : b = 0
      · have q0 : (t[0]'hp).toNat = 0 := by rw [hb0, hb]; rfl
        have HN : Hid (trimL (t.extract 1 t.size).data.toList = trimL s.data.toList) := Lib.hid (by
          rw [tail_list, ← ht, hl, hb]
          simp [trimL])
        have HZ : Hid ((t.extract 1 t.size).size = t.size - 1) := Lib.hid (by rw [ByteArray.size_extract, Nat.min_self])
        have HTZ := Lib.hid htz
        have HP := Lib.hid hp
        have p1 : (1 : Int) ≤ (t.size : Int) := by omega
        clear ht hl hb hb0
        go_wp2_with fail
        go_round
        case rel => exact ⟨_, rfl, HN.out, by rw [HZ.out]; have := HTZ.out; omega⟩
        case measure =>
          show (t.extract 1 t.size).size < t.size
          rw [HZ.out]
          have := HP.out
          omega
      · have q0 : ((t[0]'hp).toNat : Int) ≠ 0 := by
          rw [hb0]
          intro e
          exact hb (UInt8.toNat_inj.mp (by simpa using e))
        have q1 : (((t[0]'hp).toNat : Int) == 0) = false := by rw [beq_eq_false_iff_ne]; exact q0
        have HR : Hid (t = B (num s)) := Lib.hid (by
          have e1 := trim_stop (s := t) (by rw [hl]; unfold trimL; rw [if_neg hb])
          rw [e1]
          congr 1
          unfold num
          rw [← val_trimL, ht, val_trimL])
        clear ht hl hb hb0
        go_wp2_with fail
        go_ret
        exact ⟨ret_string HR.out, rfl⟩

theorem all_no' {p : ByteArray → Bool} {ls : List ByteArray} {k : Nat} (hk : k < ls.length) (h : p (ls.getD k ByteArray.empty) = false) : ls.all p = false := by
  rw [List.all_eq_false]
  refine ⟨ls[k], List.getElem_mem hk, ?_⟩
  rw [sgetD_lt hk] at h
  rw [h]
  exact Bool.false_ne_true
theorem all_yes' {p : ByteArray → Bool} {ls : List ByteArray} (h : ∀ j, j < ls.length → p (ls.getD j ByteArray.empty) = true) : ls.all p = true := by
  rw [List.all_eq_true]
  intro x hx
  obtain ⟨j, hj, rfl⟩ := List.getElem_of_mem hx
  have := h j hj
  rwa [sgetD_lt hj] at this
theorem meas_lt {k n : Nat} (h : k < n) : n - (intOf (.int .i64 ((k : Int) + 1))).toNat < n - (intOf (.int .i64 (k : Int))).toNat := by
  simp only [intOf]
  omega
theorem r06_Good (vals : List ByteArray) (A : Option Addr) (n c : Nat) (seed : ByteArray) (z : Int) (w : World) (hn : vals.length = n) (hm : n ≤ maxLen) (h : SLs w w.heap.size A vals) :
    Calls Tryz.prog 72 #[.agg #[.slice A n c, .string seed, .int .i64 z]] w fun e w' => e = .returned (.bool (goodT vals z)) ∧ Below w.heap.size w w' := by
  have hb : Below w.heap.size w (w.alloc (.cells #[.slice A n c, .string seed, .int .i64 z] 24)) := (Below.refl _ _).alloc (Nat.le_refl _) _
  have HS := Lib.hid (h.below hb)
  have HB := Lib.hid hb
  have HN := Lib.hid hn
  have HM := Lib.hid (show n ≤ 9223372036854775807 from Nat.le_trans hm (by decide))
  clear hn hm h hb
  go_enter Tryz.func72, Tryz.ntmps72
  go_wp2_with fail
  go_loop [3] (fun v => ∃ k : Nat, v = .int .i64 k ∧ k ≤ n ∧ ∀ j, j < k → valid (vals.getD j ByteArray.empty) = true) (fun v => n - (intOf v).toNat)
  case atStart => exact ⟨0, rfl, Nat.zero_le _, fun j h => absurd h (Nat.not_lt_zero _)⟩
  case round =>
    obtain ⟨k, rfl, hk, hall⟩ := hrel
    have HA := Lib.hid hall
    clear hall
    by_cases hlt : k < n
    · obtain ⟨ad, rfl, hc⟩ := HS.out.at_ (k := k) (by rw [HN.out]; exact hlt)
      obtain ⟨x, hx⟩ : ∃ x, vals.getD k ByteArray.empty = x := ⟨_, rfl⟩
      rw [hx] at hc
      have HX := Lib.hid hx
      have k1 : decide ((k : Int) < (n : Int)) = true := decide_eq_true (by omega)
      have k2 : (k : Int) < (n : Int) := by omega
      have HLT := Lib.hid hlt
      have KV := Lib.hid (fun w => r01_Valid x w)
      have w1 : wrap64 ((k : Int) + 1) = (k : Int) + 1 := IntWalk.wrap64_in _ (by have := HM.out; omega)
      cases hv : valid x
      · rw [hv] at KV
        have HF : Hid (goodT vals z = false) := Lib.hid (by
          unfold goodT
          rw [all_no' (k := k) (by rw [HN.out]; exact hlt) (by rw [hx]; exact hv)]
          simp)
        clear hv hx
        go_wp2_with (go_at_call 114; (with_reducible refine (KV.out _).mono ?_); rintro e w' ⟨rfl, rfl⟩)
        go_ret
        exact ⟨ret_bool HF.out.symm, HB.out⟩
      · rw [hv] at KV
        have HV := Lib.hid hv
        clear hv hx
        go_wp2_with (go_at_call 114; (with_reducible refine (KV.out _).mono ?_); rintro e w' ⟨rfl, rfl⟩)
        go_round
        case rel => exact ⟨k + 1, by rw [w1]; rfl, HLT.out, fun j hj => by
          by_cases e : j = k
          · subst e; rw [HX.out]; exact HV.out
          · exact HA.out j (by omega)⟩
        case measure => rw [w1]; exact meas_lt HLT.out
    · obtain rfl : k = n := by omega
      have HF : Hid (goodT vals z = (decide (0 ≤ z) && decide (z ≤ 2147483647))) := Lib.hid (by
        unfold goodT
        rw [all_yes' (fun j hj => HA.out j (by rw [HN.out] at hj; omega)), Bool.and_true])
      have k1 : decide ((k : Int) < (k : Int)) = false := decide_eq_false (by omega)
      clear hlt HA hk
      by_cases z0 : 0 ≤ z
      · have HF : Hid (goodT vals z = decide (z ≤ 2147483647)) := Lib.hid (by rw [HF.out, decide_eq_true z0]; rfl)
        go_wp2_with fail
        go_ret
        exact ⟨ret_bool HF.out.symm, HB.out⟩
      · have HF : Hid (goodT vals z = false) := Lib.hid (by rw [HF.out, decide_eq_false z0]; rfl)
        have z1 : decide (0 ≤ z) = false := decide_eq_false z0
        go_wp2_with fail
        go_ret
        exact ⟨ret_bool HF.out.symm, HB.out⟩

end Go.Proofs.YteifbhmfjchfjaaGreatDoor
