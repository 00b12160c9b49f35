/- The walks of package modular, first part. The walks of package modular: the symbol of Jacobi. The walks of package rsagroup: squares and generators. -/
import Derived.Test.YtcpglhjmhegfmaaGreatDoorTvBP
import Derived.Test.YtcpglhjmhegfmaaGreatDoorTvBR
import Derived.Test.YtcpglhjmhegfmaaGreatDoorTvBA
import Derived.ArgAppend
import Derived.Laws.OwnMore
namespace Go.Proofs.YtcpglhjmhegfmaaGreatDoor
open Go.RowKit
set_option maxRecDepth 100000
set_option linter.unusedVariables false
set_option maxHeartbeats 400000
/-- The error of numbers and moduli. -/
def checkErr (ls ms : List ByteArray) : Int := if (ls ++ ms).all valid then (if ms.any (fun m => m.toList.isEmpty) then 11 else 0) else 3
theorem all_not' {ls : List ByteArray} {p : ByteArray → Bool} {k : Nat} (hk : k < ls.length) (h : p (ls.getD k ByteArray.empty) = false) : ls.all p = false := by
  rw [List.all_eq_false]; exact ⟨ls[k], List.getElem_mem hk, by rw [sgetD_lt hk] at h; simp [h]⟩
theorem all_of' {ls : List ByteArray} {p : ByteArray → Bool} (h : ∀ j, j < ls.length → p (ls.getD j ByteArray.empty) = true) : ls.all p = true := by
  rw [List.all_eq_true]
  intro x hx
  obtain ⟨j, hj, rfl⟩ := List.getElem_of_mem hx
  have := h j hj
  rwa [sgetD_lt hj] at this
theorem any_of' {ls : List ByteArray} {p : ByteArray → Bool} {k : Nat} (hk : k < ls.length) (h : p (ls.getD k ByteArray.empty) = true) : ls.any p = true := by
  rw [List.any_eq_true]; exact ⟨ls[k], List.getElem_mem hk, by rwa [sgetD_lt hk] at h⟩
theorem any_not' {ls : List ByteArray} {p : ByteArray → Bool} (h : ∀ j, j < ls.length → p (ls.getD j ByteArray.empty) = false) : ls.any p = false := by
  rw [List.any_eq_false]
  intro x hx
  obtain ⟨j, hj, rfl⟩ := List.getElem_of_mem hx
  have := h j hj
  rw [sgetD_lt hj] at this
  simp [this]
set_option maxHeartbeats 1000000 in
theorem modular_check (ls ms : List ByteArray) (n1 n2 g1 g2 : Nat) (w : World) (e1 : ls.length = n1) (e2 : ms.length = n2) (h1 : SRow w g1 ls) (h2 : SRow w g2 ms) (hg2 : g2 < w.heap.size) (hn : 0 < n2) (b1 : n1 ≤ 1000) (b2 : n2 ≤ 1000) :
    Calls Tryz.prog 53 #[.slice (some ⟨g1, 0, none⟩) n1 n1, .slice (some ⟨g2, 0, none⟩) n2 n2] w fun e w' => e = .returned (.int .i64 (checkErr ls ms)) ∧ Below w.heap.size w w' := by
  obtain ⟨i0, hi, hzz⟩ := Option.map_eq_some_iff.1 nat_info
  simp only [Prod.mk.injEq] at hzz
  obtain ⟨hz0, hz1, hz2⟩ := hzz
  have E1 := Lib.hid e1
  have E2 := Lib.hid e2
  have H1 := Lib.hid h1
  have H2 := Lib.hid h2
  have hz0 := Lib.hid hz0
  have hz1 := Lib.hid hz1
  have hz2 := Lib.hid hz2
  have hi := Lib.hid hi
  clear e1 e2 h1 h2
  go_enter Tryz.func53, Tryz.ntmps53
  go_wp2_with (at_builtin; refine wpList_append_grows w rfl _ _ 25 rfl 22 i0 (.string ByteArray.empty) 1 16 Tryz.underlying25 hi.out hz0.out hz1.out hz2.out rfl (by decide) (some ⟨g1, 0, none⟩) n1 n1 (ls.map Value.string) rfl (by intro h; cases h) ?c1 ?c2 ⟨g2, 0, none⟩ n2 n2 (ms.map Value.string) rfl ?c3 ?c4 ?c5 (by omega) ?c6 ?c7 ?_)
  case c1 => simp [E1.out]
  case c2 =>
    intro b hb j u hu
    injection hb with hb
    subst hb
    have hj : j < ls.length := by have := (List.getElem?_eq_some_iff.1 hu).1; simpa using this
    rw [addr_add, Nat.zero_add, H1.out j hj, ← hu, sgetD_lt hj]
    simp [hj]
  case c3 => simp [E2.out]
  case c4 =>
    intro j u hu
    have hj : j < ms.length := by have := (List.getElem?_eq_some_iff.1 hu).1; simpa using this
    rw [addr_add, Nat.zero_add, H2.out j hj, ← hu, sgetD_lt hj]
    simp [hj]
  case c5 => intro u hu; simp at hu; obtain ⟨a, _, rfl⟩ := hu; rfl
  case c6 => unfold maxLen; omega
  case c7 => omega
  intro v' w' hown hgrow
  have hlen : (ls ++ ms).length = n1 + n2 := by rw [List.length_append, E1.out, E2.out]
  have hform : ∃ g cap, v' = .slice (some ⟨g, 0, none⟩) (n1 + n2) cap ∧ SRow w' g (ls ++ ms) := by
    rcases hown.2 with ⟨_, h0⟩ | ⟨g, cap, cur, hv, hbg, hg, hnc, hcm, hcs, htake⟩
    · omega
    · refine ⟨g, cap, hv, fun j hj => ?_⟩
      have h3 : (ls.map Value.string ++ ms.map Value.string)[j]? = some (.string ((ls ++ ms).getD j ByteArray.empty)) := by
        rw [← List.map_append, List.getElem?_map, sgetD_lt hj]; simp
      rw [← htake, List.getElem?_take] at h3
      split at h3
      · simp only [World.cell?, hg]
        simpa using h3
      · cases h3
  obtain ⟨g, cap, rfl, hrow⟩ := hform
  have hbel : Below w.heap.size w w' := (Below.refl _ _).grown hgrow (Nat.le_refl _) (fun k h => by cases h)
  have HR := Lib.hid hrow
  have H2' := Lib.hid (show SRow w' g2 ms from fun j hj => (hbel.cell (p := ⟨g2, j, none⟩) hg2).trans (H2.out j hj))
  have HL := Lib.hid hlen
  clear hown hgrow hrow hlen
  go_wp2_with fail
  go_loopw [13] (fun c wr => ∃ k : Nat, k ≤ n1 + n2 ∧ c = .int .i64 k ∧ (∀ j, j < k → valid ((ls ++ ms).getD j ByteArray.empty) = true) ∧ wr = w') (fun c _ => n1 + n2 - (intOf c).toNat)
  case atStart => exact ⟨0, by omega, rfl, fun j h => absurd h (by omega), rfl⟩
  case round =>
    obtain ⟨k, hk, rfl, hall, rfl⟩ := hrel
    have HA := Lib.hid hall
    clear hall
    by_cases hlt : k < n1 + n2
    · have hc := HR.out k (by rw [HL.out]; exact hlt)
      obtain ⟨s, hs⟩ : ∃ s, (ls ++ ms).getD k ByteArray.empty = s := ⟨_, rfl⟩
      rw [hs] at hc
      have HS := Lib.hid hs
      clear hs
      cases hv : valid s
      · go_wp2_with (go_at_call 13; refine (natural_Valid _ _).mono ?_; rintro e w' ⟨rfl, rfl⟩)
        go_ret
        exact ⟨ret_int (by unfold checkErr; rw [all_not' (k := k) (by rw [HL.out]; exact hlt) (by rw [HS.out]; exact hv)]; rfl), hbel⟩
      · go_wp2_with (go_at_call 13; refine (natural_Valid _ _).mono ?_; rintro e w' ⟨rfl, rfl⟩)
        go_roundw
        case rel => exact ⟨k + 1, by omega, by go_num, fun j hj => by
          by_cases e : j = k
          · subst e; rw [HS.out]; exact hv
          · exact HA.out j (by omega), trivial⟩
        case measure => simp [intOf]; omega
    · obtain rfl : k = n1 + n2 := by omega
      have hallv := Lib.hid (all_of' (ls := ls ++ ms) (p := valid) (fun j hj => HA.out j (by rw [HL.out] at hj; exact hj)))
      clear HA
      go_wp2_with fail
      go_loopw [23] (fun c wr2 => ∃ k : Nat, k ≤ n2 ∧ c = .int .i64 k ∧ (∀ j, j < k → (ms.getD j ByteArray.empty).toList.isEmpty = false) ∧ wr2 = wr) (fun c _ => n2 - (intOf c).toNat)
      case atStart => exact ⟨0, by omega, rfl, fun j h => absurd h (by omega), rfl⟩
      case round =>
        obtain ⟨k, hk, rfl, hall, rfl⟩ := hrel
        have HA := Lib.hid hall
        clear hall
        by_cases hlt2 : k < n2
        · have hc := H2'.out k (by rw [E2.out]; exact hlt2)
          obtain ⟨s, hs⟩ : ∃ s, ms.getD k ByteArray.empty = s := ⟨_, rfl⟩
          rw [hs] at hc
          have HS := Lib.hid hs
          clear hs
          cases hv : s.toList.isEmpty
          · go_wp2_with fail
            go_roundw
            case rel => exact ⟨k + 1, by omega, by go_num, fun j hj => by
              by_cases e : j = k
              · subst e; rw [HS.out]; exact hv
              · exact HA.out j (by omega), trivial⟩
            case measure => simp [intOf]; omega
          · go_wp2_with fail
            go_ret
            exact ⟨ret_int (by unfold checkErr; rw [hallv.out, any_of' (k := k) (by rw [E2.out]; exact hlt2) (by rw [HS.out]; exact hv)]; rfl), hbel⟩
        · obtain rfl : k = n2 := by omega
          go_wp2_with fail
          go_ret
          exact ⟨ret_int (by unfold checkErr; rw [hallv.out, any_not' (fun j hj => HA.out j (by rw [E2.out] at hj; exact hj))]; rfl), hbel⟩
theorem modular_reduced (x y : Nat) (w : World) (hx : x < 18446744073709551616) (hy : y < 18446744073709551616) (h0 : 0 < y) :
    Calls Tryz.prog 55 #[.string (B x), .string (B y)] w fun e w' => e = .returned (.string (B (x % y))) ∧ Below w.heap.size w w' := by
  have HD := Lib.hid (fun w => natural_DivMod' x y w hx hy h0)
  clear hx hy h0
  go_enter Tryz.func55, Tryz.ntmps55
  go_wp2_with (go_at_call 27; refine (HD.out _).mono ?_; rintro e w' ⟨rfl, hb1⟩)
  go_ret
  exact ⟨rfl, hb1⟩
theorem bits_Rem64 (hi lo y : Nat) (w : World) (hh : hi < 18446744073709551616) (hlo : lo < 18446744073709551616) (h0 : 0 < y) (hy : y < 18446744073709551616) :
    Calls Tryz.prog 91 #[.int .u64 hi, .int .u64 lo, .int .u64 y] w fun e w' => e = .returned (.int .u64 ((hi * 18446744073709551616 + lo) % y : Nat)) ∧ Below w.heap.size w w' := by
  obtain ⟨r, hr⟩ : ∃ r, hi % y = r := ⟨_, rfl⟩
  have hm : ((hi : Int) % (y : Int)) = (r : Int) := by rw [← hr]; simp
  have hrl : r < y := by rw [← hr]; exact Nat.mod_lt _ h0
  have hres : (hi * 18446744073709551616 + lo) % y = (r * 18446744073709551616 + lo) % y := by
    rw [← hr, Nat.add_mod, Nat.mul_mod, ← Nat.mod_mod hi y, ← Nat.mul_mod, ← Nat.add_mod, Nat.mod_mod]
  rw [hres]
  have HD := Lib.hid (fun w => bits_Div64 r lo y w hlo hrl hy)
  clear hres hr hrl
  go_enter Tryz.func91, Tryz.ntmps91
  go_wp2_with (go_at_call 75; refine (HD.out _).mono ?_; rintro e w' ⟨rfl, n, rfl⟩)
  go_ret
  exact ⟨rfl, below_drewN' _ _⟩
theorem modular_times (x y m : Nat) (w : World) (hx : x < 18446744073709551616) (hy : y < 18446744073709551616) (hm : m < 18446744073709551616) (h0 : 0 < m) :
    Calls Tryz.prog 81 #[.string (B x), .string (B y), .string (B m)] w fun e w' => e = .returned (.string (B (x * y % m))) ∧ Below w.heap.size w w' := by
  have s1 : (B x).size ≤ 8 := B_size_le'.2 hx
  have s2 : (B y).size ≤ 8 := B_size_le'.2 hy
  have s3 : (B m).size ≤ 8 := B_size_le'.2 hm
  obtain ⟨a, ha⟩ : ∃ a, x % m = a := ⟨_, rfl⟩
  obtain ⟨b, hb⟩ : ∃ b, y % m = b := ⟨_, rfl⟩
  have ea : ((x : Int) % (m : Int)) = (a : Int) := by rw [← ha]; simp
  have eb : ((y : Int) % (m : Int)) = (b : Int) := by rw [← hb]; simp
  have ea2 : ((x : Int).tmod (m : Int)) = (a : Int) := by rw [Int.tmod_eq_emod_of_nonneg (by omega)]; exact ea
  have eb2 : ((y : Int).tmod (m : Int)) = (b : Int) := by rw [Int.tmod_eq_emod_of_nonneg (by omega)]; exact eb
  have hal : a < m := by rw [← ha]; exact Nat.mod_lt _ h0
  have hbl : b < m := by rw [← hb]; exact Nat.mod_lt _ h0
  have hres : x * y % m = a * b % m := by rw [← ha, ← hb, ← Nat.mul_mod]
  rw [hres]
  obtain ⟨hi, hhi⟩ : ∃ hi, a * b / 18446744073709551616 = hi := ⟨_, rfl⟩
  obtain ⟨lo, hlo⟩ : ∃ lo, a * b % 18446744073709551616 = lo := ⟨_, rfl⟩
  have hsum : hi * 18446744073709551616 + lo = a * b := by rw [← hhi, ← hlo, Nat.mul_comm]; exact Nat.div_add_mod _ _
  have hlol : lo < 18446744073709551616 := by rw [← hlo]; exact Nat.mod_lt _ (by decide)
  have hhil : hi < 18446744073709551616 := by
    rw [← hhi, Nat.div_lt_iff_lt_mul (by decide)]
    exact Nat.mul_lt_mul'' (Nat.lt_trans hal hm) (Nat.lt_trans hbl hm)
  have hrem := fun w => bits_Rem64 hi lo m w hhil hlol h0 hm
  rw [hsum] at hrem
  obtain ⟨r, hr⟩ : ∃ r, a * b % m = r := ⟨_, rfl⟩
  rw [hr] at hrem ⊢
  have hrl := Lib.hid (show r < 18446744073709551616 by rw [← hr]; exact Nat.lt_trans (Nat.mod_lt _ h0) hm)
  have HREM := Lib.hid hrem
  have HMUL := Lib.hid (fun w => bits_Mul64' a b hi lo (Nat.lt_trans hal hm) (Nat.lt_trans hbl hm) (Lib.hid hhi) (Lib.hid hlo) w)
  have HX := Lib.hid hx
  have HY := Lib.hid hy
  have HM := Lib.hid hm
  have hm1 : 1 ≤ m := h0
  clear hrem hsum hhi hlo hr hres ha hb hx hy hm hal hbl hlol hhil
  go_enter Tryz.func81, Tryz.ntmps81
  go_wp2_with (first | (go_at_call 4; (with_reducible refine (natural_Small' x _ HX.out).mono ?_); rintro e w' ⟨rfl, rfl⟩) | (go_at_call 4; (with_reducible refine (natural_Small' y _ HY.out).mono ?_); rintro e w' ⟨rfl, rfl⟩) | (go_at_call 4; (with_reducible refine (natural_Small' m _ HM.out).mono ?_); rintro e w' ⟨rfl, rfl⟩))
  go_quiet ((go_at_call 57; exact quiet_of_eq (HMUL.out _)))
  go_wp2_with (first | (go_at_call 91; refine (HREM.out _).mono ?_; rintro e w1 ⟨rfl, hb1⟩) | (go_at_call 12; (with_reducible refine (natural_Of r _ hrl.out).mono ?_); rintro e w2 ⟨rfl, hb2⟩))
  go_ret
  have b1 : Below w.heap.size w w1 := (below_drewN' w _).trans (hb1.mono (Nat.le_refl _))
  exact ⟨rfl, below2 b1 hb2⟩
theorem modular_check21 (a b m : ByteArray) (T1 T2 : TypeId) (w : World) :
    Calls Tryz.prog 53 #[.slice (some ⟨w.heap.size, 0, none⟩) 2 2, .slice (some ⟨w.heap.size + 1, 0, none⟩) 1 1] ((w.alloc (.cells #[.string a, .string b] T1)).alloc (.cells #[.string m] T2)) fun e w' => e = .returned (.int .i64 (checkErr [a, b] [m])) ∧ Below w.heap.size w w' := by
  have r1 : SRow ((w.alloc (.cells #[.string a, .string b] T1)).alloc (.cells #[.string m] T2)) w.heap.size [a, b] := (SRow.new w T1 [a, b]).alloc (by simp) _
  have r2 : SRow ((w.alloc (.cells #[.string a, .string b] T1)).alloc (.cells #[.string m] T2)) (w.heap.size + 1) [m] := by
    have := SRow.new (w.alloc (.cells #[.string a, .string b] T1)) T2 [m]
    simpa using this
  refine (modular_check [a, b] [m] 2 1 w.heap.size (w.heap.size + 1) _ rfl rfl r1 r2 (by simp) (by decide) (by decide) (by decide)).mono ?_
  rintro e w' ⟨rfl, hb⟩
  exact ⟨rfl, below2 (((Below.refl _ _).alloc (Nat.le_refl _) _).alloc (by simp) _) hb⟩
theorem modular_check11 (a m : ByteArray) (T1 T2 : TypeId) (w : World) :
    Calls Tryz.prog 53 #[.slice (some ⟨w.heap.size, 0, none⟩) 1 1, .slice (some ⟨w.heap.size + 1, 0, none⟩) 1 1] ((w.alloc (.cells #[.string a] T1)).alloc (.cells #[.string m] T2)) fun e w' => e = .returned (.int .i64 (checkErr [a] [m])) ∧ Below w.heap.size w w' := by
  have r1 : SRow ((w.alloc (.cells #[.string a] T1)).alloc (.cells #[.string m] T2)) w.heap.size [a] := (SRow.new w T1 [a]).alloc (by simp) _
  have r2 : SRow ((w.alloc (.cells #[.string a] T1)).alloc (.cells #[.string m] T2)) (w.heap.size + 1) [m] := by
    have := SRow.new (w.alloc (.cells #[.string a] T1)) T2 [m]
    simpa using this
  refine (modular_check [a] [m] 1 1 w.heap.size (w.heap.size + 1) _ rfl rfl r1 r2 (by simp) (by decide) (by decide) (by decide)).mono ?_
  rintro e w' ⟨rfl, hb⟩
  exact ⟨rfl, below2 (((Below.refl _ _).alloc (Nat.le_refl _) _).alloc (by simp) _) hb⟩
theorem checkErr21 {x y m : Nat} (hx : x < lim) (hy : y < lim) (hm : m < lim) (h0 : m ≠ 0) : checkErr [B x, B y] [B m] = 0 := by
  unfold checkErr
  have : (([B x, B y] ++ [B m]).all valid) = true := by simp [valid_B hx, valid_B hy, valid_B hm]
  rw [this]
  simp [B_isEmpty_false h0]
theorem checkErr11 {x m : Nat} (hx : x < lim) (hm : m < lim) (h0 : m ≠ 0) : checkErr [B x] [B m] = 0 := by
  unfold checkErr
  have : (([B x] ++ [B m]).all valid) = true := by simp [valid_B hx, valid_B hm]
  rw [this]
  simp [B_isEmpty_false h0]
theorem modular_Mul (x y m : Nat) (w : World) (hx : x < 18446744073709551616) (hy : y < 18446744073709551616) (hm : m < 18446744073709551616) (h0 : 0 < m) :
    Calls Tryz.prog 72 #[.string (B x), .string (B y), .string (B m)] w fun e w' => e = .returned (.tuple #[.string (B (x * y % m)), .int .i64 0]) ∧ Below w.heap.size w w' := by
  have hc := fun T1 T2 => modular_check21 (B x) (B y) (B m) T1 T2 w
  rw [checkErr21 (u64_lt_lim hx) (u64_lt_lim hy) (u64_lt_lim hm) (Nat.ne_of_gt h0)] at hc
  have HC := Lib.hid hc
  have HT := Lib.hid (fun w => modular_times x y m w hx hy hm h0)
  clear hc hx hy hm h0
  go_enter Tryz.func72, Tryz.ntmps72
  go_wp2_with (first | (go_at_call 53; refine (HC.out _ _).mono ?_; rintro e w1 ⟨rfl, hb1⟩) | (go_at_call 81; refine (HT.out _).mono ?_; rintro e w2 ⟨rfl, hb2⟩))
  go_ret2
  exact ⟨rfl, below2 hb1 hb2⟩
theorem low_digit (x : Nat) (h : x ≠ 0) (hp : 0 < (B x).size) : ((B x)[(B x).size - 1]'(by omega)).toNat % 8 = x % 8 := by
  have := num_digit (B x) 0 hp
  simp only [Nat.sub_zero] at this
  rw [this, num_B]
  omega
theorem modular_low (x : Nat) (w : World) (sx : (B x).size ≤ 100000) :
    Calls Tryz.prog 54 #[.string (B x)] w fun e w' => e = .returned (.int .i64 ((x % 8 : Nat) : Int)) ∧ w = w' := by
  by_cases h : x = 0
  · subst h
    have he := B_isEmpty_true
    go_enter Tryz.func54, Tryz.ntmps54
    go_wp2_with fail
    go_ret
    exact ⟨rfl, rfl⟩
  · have he := B_isEmpty_false h
    have hp : 0 < (B x).size := by
      rcases Nat.eq_zero_or_pos (B x).size with h1 | h1
      · exfalso
        rw [B_size] at h1
        exact h (enc_eq_nil (List.eq_nil_of_length_eq_zero h1))
      · exact h1
    have hd := Lib.hid (low_digit x h hp)
    clear h
    go_enter Tryz.func54, Tryz.ntmps54
    go_wp2_with fail
    go_ret
    exact ⟨ret_int (by have := hd.out; omega), rfl⟩
end Go.Proofs.YtcpglhjmhegfmaaGreatDoor
namespace Go.Proofs.YtcpglhjmhegfmaaGreatDoor
open Go.RowKit
set_option maxRecDepth 100000
set_option linter.unusedVariables false
set_option maxHeartbeats 400000
theorem modular_low' (x d : Nat) (w : World) (hx : x < 18446744073709551616) (hd : Hid (x % 8 = d)) :
    Calls Tryz.prog 54 #[.string (B x)] w fun e w' => e = .returned (.int .i64 ((d : Nat) : Int)) ∧ w = w' := by
  have := modular_low x w (Nat.le_trans (B_size_le'.2 hx) (by decide : 8 ≤ 100000))
  rw [hd.out] at this
  exact this
theorem B_beq1 (n : Nat) : ((B n).toList == [1]) = decide (n = 1) := by
  rw [← B_beq n 1, ByteArray.toList_eq (B 1)]; rfl
set_option maxHeartbeats 2000000 in
theorem modular_Jacobi (x y : Nat) (w : World) (hx : x < 18446744073709551616) (hy : y < 18446744073709551616) (hodd : y % 2 = 1) :
    Calls Tryz.prog 37 #[.string (B x), .string (B y)] w fun e w' => e = .returned (.tuple #[.int .i64 (jacS x y), .int .i64 0]) ∧ Below w.heap.size w w' := by
  have hc := fun T1 T2 => modular_check11 (B x) (B y) T1 T2 w
  rw [checkErr11 (u64_lt_lim hx) (u64_lt_lim hy) (by omega)] at hc
  have HC := Lib.hid hc
  obtain ⟨d0, hd0⟩ : ∃ d, y % 8 = d := ⟨_, rfl⟩
  have hd1 : ((d0 : Int) % 2 == 0) = false := by rw [beq_eq_false_iff_ne]; omega
  have hd8 : d0 < 8 := by omega
  have HD0 := Lib.hid hd0
  have HY := Lib.hid hy
  have HR := Lib.hid (fun w => modular_reduced x y w hx hy (by omega))
  have HO := Lib.hid hodd
  have HX := Lib.hid hx
  clear hc hd0 hy hx hodd
  go_enter Tryz.func37, Tryz.ntmps37
  go_wp2_with (first | (go_at_call 53; refine (HC.out _ _).mono ?_; rintro e w1 ⟨rfl, hb1⟩) | (go_at_call 54; (with_reducible refine (modular_low' y d0 _ HY.out HD0).mono ?_); rintro e w2 ⟨rfl, rfl⟩) | (go_at_call 55; refine (HR.out _).mono ?_; rintro er w3 ⟨rfl, hb3⟩))
  have b0 := below2 hb1 hb3
  have B0 := Lib.hid b0
  clear hb1 hb3 b0 hd1
  obtain ⟨wo, rfl⟩ : ∃ wo : World, wo = w3 := ⟨_, rfl⟩
  go_loopw [0, 1, 7] (fun v0 v1 v7 wr => ∃ (a n f : Nat) (s : Int), v0 = .string (B a) ∧ v1 = .string (B n) ∧ v7 = .int .i64 s ∧ a < 18446744073709551616 ∧ n < 18446744073709551616 ∧ n % 2 = 1 ∧ -1 ≤ s ∧ s ≤ 1 ∧ a < f ∧ jacOut f a n s = jacS x y ∧ Below wo.heap.size wo wr) (fun v0 _ _ _ => strNum v0)
  case atStart => exact ⟨x % y, y, x % y + 1, 1, rfl, rfl, rfl, Nat.lt_of_le_of_lt (Nat.mod_le _ _) HX.out, HY.out, HO.out, by omega, by omega, by omega, rfl, Below.refl _ _⟩
  case round =>
    obtain ⟨a, n, f, s, rfl, rfl, rfl, ha, hn, hno, hs1, hs2, haf, hj, hbel⟩ := hrel
    have HA := Lib.hid ha
    have HN := Lib.hid hn
    have HNO := Lib.hid hno
    have HJ := Lib.hid hj
    clear ha hn hno hj
    by_cases hz : a = 0
    · subst hz
      have he := B_isEmpty_true
      have hj0 : (if n = 1 then s else 0) = jacS x y := by
        rw [← HJ.out]
        obtain ⟨f', rfl⟩ : ∃ f', f = f' + 1 := ⟨f - 1, by omega⟩
        rfl
      have HJ0 := Lib.hid hj0
      clear hj0
      by_cases h1 : n = 1
      · subst h1
        have hb : ((B 1).toList == [1]) = true := B_beq1 1
        go_wp2_with fail
        go_ret2
        exact ⟨ret_ie (by rw [← HJ0.out]; rfl) rfl, below2 B0.out hbel⟩
      · have hb := B_beq1 n
        rw [decide_eq_false h1] at hb
        have HE := Lib.hid h1
        clear h1
        go_wp2_with fail
        go_ret2
        exact ⟨ret_ie (by rw [← HJ0.out, if_neg HE.out] <;> rfl) rfl, below2 B0.out hbel⟩
    · have he := B_isEmpty_false hz
      obtain ⟨f', rfl⟩ : ∃ f', f = f' + 1 := ⟨f - 1, by omega⟩
      obtain ⟨b, hb⟩ : ∃ b, (jacIn a a n s).1 = b := ⟨_, rfl⟩
      obtain ⟨t, ht⟩ : ∃ t, (jacIn a a n s).2 = t := ⟨_, rfl⟩
      have hj1 : jacOut f' (n % b) b (if b % 4 = 3 ∧ n % 4 = 3 then -t else t) = jacS x y := by
        rw [← HJ.out, ← hb, ← ht]
        conv => rhs; unfold jacOut
        rw [if_neg hz]
      have hin : jacIn a a n s = (b, t) := by rw [← hb, ← ht]
      have HJ1 := Lib.hid hj1
      have HIN := Lib.hid hin
      obtain ⟨e, hde⟩ : ∃ d, n % 8 = d := ⟨_, rfl⟩
      have he8 : e < 8 := by omega
      have HDE := Lib.hid hde
      have HZ := Lib.hid hz
      clear hj1 hin hb ht hde HJ
      obtain ⟨wi, rfl⟩ : ∃ wi : World, wi = wr := ⟨_, rfl⟩
      go_wp2_with fail
      go_loopw [0, 7] (fun v0 v7 wr2 => ∃ (c g : Nat) (u : Int), v0 = .string (B c) ∧ v7 = .int .i64 u ∧ 0 < c ∧ c ≤ a ∧ c ≤ g ∧ -1 ≤ u ∧ u ≤ 1 ∧ jacIn g c n u = (b, t) ∧ Below wi.heap.size wi wr2) (fun v0 _ _ => strNum v0)
      case atStart => exact ⟨a, a, s, rfl, rfl, by omega, by omega, by omega, hs1, hs2, HIN.out, Below.refl _ _⟩
      case round =>
        obtain ⟨c, g, u, rfl, rfl, hc0, hca, hcg, hu1, hu2, hji, hbel2⟩ := hrel
        have HJI := Lib.hid hji
        have HC1 := Lib.hid (Nat.lt_of_le_of_lt hca HA.out)
        clear hji
        obtain ⟨d, hd⟩ : ∃ d, c % 8 = d := ⟨_, rfl⟩
        have hd8 : d < 8 := by omega
        have HDD := Lib.hid hd
        by_cases hev : c % 2 = 0
        · have D1 : ((d : Int) % 2 == 0) = true := by rw [beq_iff_eq]; omega
          have HDIV := Lib.hid (fun w => natural_DivMod' c 2 w HC1.out (by decide) (by decide))
          have e2 : (⟨#[2]⟩ : ByteArray) = B 2 := rfl
          have E2 := Lib.hid e2
          have HEV := Lib.hid hev
          clear hd hev e2
          by_cases h3 : e = 3
          · have K3 : ((e : Int) == 3) = true := by rw [beq_iff_eq]; omega
            have h35 : e = 3 ∨ e = 5 := .inl h3
            have H35 := Lib.hid h35
            clear h3 h35
            go_wp2_with (first | (go_at_call 54; (with_reducible refine (modular_low' c d _ HC1.out HDD).mono ?_); rintro er w' ⟨rfl, rfl⟩) | (go_at_call 54; (with_reducible refine (modular_low' n e _ HN.out HDE).mono ?_); rintro er w' ⟨rfl, rfl⟩) | (go_at_call 27; (rw [E2.out]; refine (HDIV.out _).mono ?_); rintro er w3 ⟨rfl, hb3⟩))
            go_roundw
            case rel =>
              obtain ⟨g', rfl⟩ : ∃ g', g = g' + 1 := ⟨g - 1, by omega⟩
              exact ⟨c / 2, g', -u, by rfl, by rfl, by have := HEV.out; omega, by omega, by omega, by omega, by omega, by rw [← HJI.out, jacIn_even HEV.out, HDE.out, if_pos H35.out], below2 hbel2 hb3⟩
            case measure => simp only [strNum, num_B]; omega
          · have K3 : ((e : Int) == 3) = false := by rw [beq_eq_false_iff_ne]; omega
            by_cases h5 : e = 5
            · have K5 : ((e : Int) == 5) = true := by rw [beq_iff_eq]; omega
              have h35 : e = 3 ∨ e = 5 := .inr h5
              have H35 := Lib.hid h35
              clear h3 h5 h35
              go_wp2_with (first | (go_at_call 54; (with_reducible refine (modular_low' c d _ HC1.out HDD).mono ?_); rintro er w' ⟨rfl, rfl⟩) | (go_at_call 54; (with_reducible refine (modular_low' n e _ HN.out HDE).mono ?_); rintro er w' ⟨rfl, rfl⟩) | (go_at_call 27; (rw [E2.out]; refine (HDIV.out _).mono ?_); rintro er w3 ⟨rfl, hb3⟩))
              go_roundw
              case rel =>
                obtain ⟨g', rfl⟩ : ∃ g', g = g' + 1 := ⟨g - 1, by omega⟩
                exact ⟨c / 2, g', -u, by rfl, by rfl, by have := HEV.out; omega, by omega, by omega, by omega, by omega, by rw [← HJI.out, jacIn_even HEV.out, HDE.out, if_pos H35.out], below2 hbel2 hb3⟩
              case measure => simp only [strNum, num_B]; omega
            · have K5 : ((e : Int) == 5) = false := by rw [beq_eq_false_iff_ne]; omega
              have h35 : ¬ (e = 3 ∨ e = 5) := by omega
              have H35 := Lib.hid h35
              clear h3 h5 h35
              go_wp2_with (first | (go_at_call 54; (with_reducible refine (modular_low' c d _ HC1.out HDD).mono ?_); rintro er w' ⟨rfl, rfl⟩) | (go_at_call 54; (with_reducible refine (modular_low' n e _ HN.out HDE).mono ?_); rintro er w' ⟨rfl, rfl⟩) | (go_at_call 27; (rw [E2.out]; refine (HDIV.out _).mono ?_); rintro er w3 ⟨rfl, hb3⟩))
              go_roundw
              case rel =>
                obtain ⟨g', rfl⟩ : ∃ g', g = g' + 1 := ⟨g - 1, by omega⟩
                exact ⟨c / 2, g', u, by rfl, by rfl, by have := HEV.out; omega, by omega, by omega, by omega, by omega, by rw [← HJI.out, jacIn_even HEV.out, HDE.out, if_neg H35.out], below2 hbel2 hb3⟩
              case measure => simp only [strNum, num_B]; omega
        · have D1 : ((d : Int) % 2 == 0) = false := by rw [beq_eq_false_iff_ne]; omega
          have hcb : c = b ∧ u = t := by
            have := HJI.out
            rw [jacIn_odd hev] at this
            exact ⟨(Prod.mk.injEq _ _ _ _ ▸ this).1, (Prod.mk.injEq _ _ _ _ ▸ this).2⟩
          obtain ⟨rfl, rfl⟩ := hcb
          have D4 : d % 4 = c % 4 := by omega
          have HRED := Lib.hid (fun w => modular_reduced n c w HN.out HC1.out hc0)
          have HD4 := Lib.hid D4
          have HE4 := Lib.hid (show e % 4 = n % 4 by have := HDE.out; omega)
          have hnm := Lib.hid (show n % c < c from Nat.mod_lt _ hc0)
          have HCO := Lib.hid (show c % 2 = 1 by omega)
          clear hd hev D4
          by_cases h34 : d % 4 = 3
          · have K1 : ((d : Int) % 4 == 3) = true := by rw [beq_iff_eq]; omega
            by_cases h43 : e % 4 = 3
            · have K2 : ((e : Int) % 4 == 3) = true := by rw [beq_iff_eq]; omega
              have HCC := Lib.hid (show c % 4 = 3 ∧ n % 4 = 3 by rw [← HD4.out, ← HE4.out]; exact ⟨h34, h43⟩)
              clear h34 h43
              go_wp2_with (first | (go_at_call 54; (with_reducible refine (modular_low' c d _ HC1.out HDD).mono ?_); rintro er w' ⟨rfl, rfl⟩) | (go_at_call 54; (with_reducible refine (modular_low' n e _ HN.out HDE).mono ?_); rintro er w' ⟨rfl, rfl⟩) | (go_at_call 55; refine (HRED.out _).mono ?_; rintro er w3 ⟨rfl, hb3⟩))
              go_roundw
              case rel => exact ⟨n % c, c, f', -u, rfl, rfl, by rfl, Nat.lt_trans hnm.out HC1.out, HC1.out, HCO.out, by omega, by omega, by have := hnm.out; omega, by rw [← HJ1.out, if_pos HCC.out], below2 (below2 hbel hbel2) hb3⟩
              case measure => simp only [strNum, num_B]; exact Nat.lt_of_lt_of_le hnm.out hca
            · have K2 : ((e : Int) % 4 == 3) = false := by rw [beq_eq_false_iff_ne]; omega
              have HCC := Lib.hid (show ¬ (c % 4 = 3 ∧ n % 4 = 3) by rw [← HD4.out, ← HE4.out]; exact fun h => h43 h.2)
              clear h34 h43
              go_wp2_with (first | (go_at_call 54; (with_reducible refine (modular_low' c d _ HC1.out HDD).mono ?_); rintro er w' ⟨rfl, rfl⟩) | (go_at_call 54; (with_reducible refine (modular_low' n e _ HN.out HDE).mono ?_); rintro er w' ⟨rfl, rfl⟩) | (go_at_call 55; refine (HRED.out _).mono ?_; rintro er w3 ⟨rfl, hb3⟩))
              go_roundw
              case rel => exact ⟨n % c, c, f', u, rfl, rfl, by rfl, Nat.lt_trans hnm.out HC1.out, HC1.out, HCO.out, by omega, by omega, by have := hnm.out; omega, by rw [← HJ1.out, if_neg HCC.out], below2 (below2 hbel hbel2) hb3⟩
              case measure => simp only [strNum, num_B]; exact Nat.lt_of_lt_of_le hnm.out hca
          · have K1 : ((d : Int) % 4 == 3) = false := by rw [beq_eq_false_iff_ne]; omega
            have HCC := Lib.hid (show ¬ (c % 4 = 3 ∧ n % 4 = 3) by rw [← HD4.out, ← HE4.out]; exact fun h => h34 h.1)
            clear h34
            go_wp2_with (first | (go_at_call 54; (with_reducible refine (modular_low' c d _ HC1.out HDD).mono ?_); rintro er w' ⟨rfl, rfl⟩) | (go_at_call 54; (with_reducible refine (modular_low' n e _ HN.out HDE).mono ?_); rintro er w' ⟨rfl, rfl⟩) | (go_at_call 55; refine (HRED.out _).mono ?_; rintro er w3 ⟨rfl, hb3⟩))
            go_roundw
            case rel => exact ⟨n % c, c, f', u, rfl, rfl, by rfl, Nat.lt_trans hnm.out HC1.out, HC1.out, HCO.out, by omega, by omega, by have := hnm.out; omega, by rw [← HJ1.out, if_neg HCC.out], below2 (below2 hbel hbel2) hb3⟩
            case measure => simp only [strNum, num_B]; exact Nat.lt_of_lt_of_le hnm.out hca
end Go.Proofs.YtcpglhjmhegfmaaGreatDoor
namespace Go.Proofs.YtcpglhjmhegfmaaGreatDoor
open Go.RowKit
set_option maxRecDepth 100000
set_option linter.unusedVariables false
set_option maxHeartbeats 400000
/-- The error of a number that should be an element. -/
def elementS (m o p q x : ByteArray) : Int := if valid x then (if checkS m o p q = 0 then (if hasS m o x then 0 else 13) else checkS m o p q) else 3
theorem rsagroup_element (m o p q x : ByteArray) (w : World) (sm : m.size ≤ 8) (hT : Tab w) :
    Calls Tryz.prog 21 #[.agg #[.string m, .string o], .agg #[.string p, .string q], .string x] w fun e w' => e = .returned (.int .i64 (elementS m o p q x)) ∧ Below w.heap.size w w' := by
  have hr : elementS m o p q x = if valid x then (if checkS m o p q = 0 then (if hasS m o x then 0 else 13) else checkS m o p q) else 3 := rfl
  have HR := Lib.hid hr
  have hck := fun w hT => rsagroup_Check m o p q w sm hT
  generalize checkS m o p q = ck at *
  have HCK := Lib.hid hck
  have HT := Lib.hid ((hT.alloc (.cells #[.string m, .string o] 24)).alloc (.cells #[.string p, .string q] 29))
  clear hr hck hT
  have F0 := Lib.hid (show Below w.heap.size w ((w.alloc (.cells #[.string m, .string o] 24)).alloc (.cells #[.string p, .string q] 29)) from ((Below.refl _ _).alloc (Nat.le_refl _) _).alloc (by simp) _)
  cases hv : valid x
  · go_enter Tryz.func21, Tryz.ntmps21
    go_wp2_with (first | (go_at_call 13; refine (natural_Valid _ _).mono ?_; rintro e w' ⟨rfl, rfl⟩))
    go_ret
    exact ⟨ret_int (by rw [HR.out, hv] <;> rfl), F0.out⟩
  · by_cases h0 : ck = 0
    · subst h0
      cases hh : hasS m o x
      all_goals
        go_enter Tryz.func21, Tryz.ntmps21
        go_wp2_with (first | (go_at_call 13; refine (natural_Valid _ _).mono ?_; rintro e w' ⟨rfl, rfl⟩) | (go_at_call 34; refine (HCK.out _ HT.out).mono ?_; rintro e w1 ⟨rfl, hb1⟩; have hcw1 := (bcell hb1).1) | (go_at_call 35; refine (rsagroup_Has _ _ _ _ sm).mono ?_; rintro e w2 ⟨rfl, hb2⟩))
        go_ret
        exact ⟨ret_int (by rw [HR.out, hv, hh] <;> rfl), below2 (below2 F0.out hb1) hb2⟩
    · have hb : (ck != 0) = true := by rw [bne_iff_ne]; exact h0
      have H0 := Lib.hid h0
      clear h0
      go_enter Tryz.func21, Tryz.ntmps21
      go_wp2_with (first | (go_at_call 13; refine (natural_Valid _ _).mono ?_; rintro e w' ⟨rfl, rfl⟩) | (go_at_call 34; refine (HCK.out _ HT.out).mono ?_; rintro e w1 ⟨rfl, hb1⟩; have hcw1 := (bcell hb1).1))
      go_ret
      exact ⟨ret_int (by rw [HR.out, hv, if_pos rfl, if_neg H0.out] <;> rfl), below2 F0.out hb1⟩
def squareS (x p q : Nat) : Bool := decide (jacS x p = 1) && decide (jacS x q = 1)
theorem idx_two (a b : ByteArray) (w : World) : (Instr.index 82 (.agg #[.string a, .string b]) (.int .i64 0)).run Tryz.prog w = .ok (.string a) w ∧ (Instr.index 82 (.agg #[.string a, .string b]) (.int .i64 1)).run Tryz.prog w = .ok (.string b) w := ⟨by kernel_rfl, by kernel_rfl⟩
theorem rsagroup_square (x p q : Nat) (w : World) (hx : x < 18446744073709551616) (hp : p < 18446744073709551616) (hq : q < 18446744073709551616) (op : p % 2 = 1) (oq : q % 2 = 1) :
    Calls Tryz.prog 22 #[.agg #[.string (B p), .string (B q)], .string (B x)] w fun e w' => e = .returned (.bool (squareS x p q)) ∧ Below w.heap.size w w' := by
  have hjp := fun w => modular_Jacobi x p w hx hp op
  have hjq := fun w => modular_Jacobi x q w hx hq oq
  have hr : squareS x p q = (decide (jacS x p = 1) && decide (jacS x q = 1)) := rfl
  generalize jacS x p = jp at *
  generalize jacS x q = jq at *
  have HR := Lib.hid hr
  have HP := Lib.hid hjp
  have HQ := Lib.hid hjq
  have ix := idx_two (B p) (B q)
  have ix0 := fun w => (ix w).1
  have ix1 := fun w => (ix w).2
  have F0 := Lib.hid (show Below w.heap.size w (w.alloc (.cells #[.string (B p), .string (B q)] 29)) from (Below.refl _ _).alloc (Nat.le_refl _) _)
  clear hr hjp hjq ix hx hp hq op oq
  by_cases h1 : jp = 1
  · have e1 : (jp != 1) = false := by rw [h1]; rfl
    have H1 := Lib.hid h1
    clear h1
    by_cases h2 : jq = 1
    · have e2 : (jq != 1) = false := by rw [h2]; rfl
      have H2 := Lib.hid h2
      clear h2
      go_enter Tryz.func22, Tryz.ntmps22
      go_wp2_with (go_at_call 36; refine (rsagroup_primes _ _ _).mono ?_; rintro e w1 ⟨rfl, hb1⟩)
      refine wp_loop_rounds 3 ?_
      rw [rounds_succ]
      go_wp2_with (go_at_call 37; refine (HP.out _).mono ?_; rintro e w2 ⟨rfl, hb2⟩)
      rw [rounds_succ]
      go_wp2_with (go_at_call 37; refine (HQ.out _).mono ?_; rintro e w3 ⟨rfl, hb3⟩)
      rw [rounds_succ]
      go_wp2_with fail
      go_ret
      exact ⟨ret_bool (by rw [HR.out, H1.out, H2.out] <;> rfl), below2 (below2 (below2 F0.out hb1) hb2) hb3⟩
    · have e2 : (jq != 1) = true := by rw [bne_iff_ne]; exact h2
      have H2 := Lib.hid h2
      clear h2
      go_enter Tryz.func22, Tryz.ntmps22
      go_wp2_with (go_at_call 36; refine (rsagroup_primes _ _ _).mono ?_; rintro e w1 ⟨rfl, hb1⟩)
      refine wp_loop_rounds 3 ?_
      rw [rounds_succ]
      go_wp2_with (go_at_call 37; refine (HP.out _).mono ?_; rintro e w2 ⟨rfl, hb2⟩)
      rw [rounds_succ]
      go_wp2_with (go_at_call 37; refine (HQ.out _).mono ?_; rintro e w3 ⟨rfl, hb3⟩)
      go_ret
      exact ⟨ret_bool (by rw [HR.out, decide_eq_false H2.out, Bool.and_false] <;> rfl), below2 (below2 (below2 F0.out hb1) hb2) hb3⟩
  · have e1 : (jp != 1) = true := by rw [bne_iff_ne]; exact h1
    have H1 := Lib.hid h1
    clear h1
    go_enter Tryz.func22, Tryz.ntmps22
    go_wp2_with (go_at_call 36; refine (rsagroup_primes _ _ _).mono ?_; rintro e w1 ⟨rfl, hb1⟩)
    refine wp_loop_rounds 3 ?_
    rw [rounds_succ]
    go_wp2_with (go_at_call 37; refine (HP.out _).mono ?_; rintro e w2 ⟨rfl, hb2⟩)
    go_ret
    exact ⟨ret_bool (by rw [HR.out, decide_eq_false H1.out, Bool.false_and] <;> rfl), below2 (below2 F0.out hb1) hb2⟩
theorem isS_odd {n : Nat} (h : isS n = true) : n = 2 ∨ n % 2 = 1 := by
  by_cases h2 : n % 2 = 1
  · exact .inr h2
  · left
    have hn : 2 ≤ n := by
      rcases Nat.lt_or_ge n 2 with h3 | h3
      · rw [isS_small h3] at h; cases h
      · exact h3
    have := isS_hit (n := n) (k := 0) hn (by decide) (fun j hj => absurd hj (by omega)) (by show n % 2 = 0; omega)
    rw [this] at h
    have h4 : n = basesL.getD 0 0 := by simpa using h
    exact h4
theorem safeS_odd {p : ByteArray} (h : (safeS p).2 = 0) (h1 : (safeS p).1 = true) : num p % 2 = 1 := by
  obtain ⟨_, h2, _, h4, h5⟩ := safeS_zero h h1
  rcases isS_odd h4 with h6 | h6
  · rw [h6] at h5
    have := isS_small (show (2 - 1) / 2 < 2 by decide)
    rw [this] at h5; cases h5
  · exact h6
theorem checkS_zero {m o p q : ByteArray} (h : checkS m o p q = 0) : (valid m = true ∧ valid p = true ∧ valid q = true) ∧ goodS m o = true ∧ trapS p q = 0 ∧ (natMul p q).2 = 0 ∧ ((natMul p q).1.toList == m.toList) = true := by
  unfold checkS at h
  split at h
  · rename_i hv
    simp only [Bool.and_eq_true] at hv
    split at h
    · rename_i hg
      split at h
      · rename_i hm
        exact ⟨⟨hv.1, hv.2.2.1, hv.2.2.2⟩, hg, h, hm.1, hm.2⟩
      · cases h
    · cases h
  · cases h
structure ElemFacts (m o p q x : ByteArray) : Prop where
  vm : valid m = true
  vp : valid p = true
  vq : valid q = true
  vx : valid x = true
  p64 : num p < 18446744073709551616
  q64 : num q < 18446744073709551616
  op : num p % 2 = 1
  oq : num q % 2 = 1
  has : hasS m o x = true
  chk : checkS m o p q = 0
theorem elementS_zero {m o p q x : ByteArray} (h : elementS m o p q x = 0) : ElemFacts m o p q x := by
  unfold elementS at h
  split at h
  · rename_i hv
    split at h
    · rename_i hc
      split at h
      · rename_i hh
        obtain ⟨⟨vm, vp, vq⟩, _, ht, _, _⟩ := checkS_zero hc
        obtain ⟨hp, hq, _⟩ := trapS_zero ht
        exact ⟨vm, vp, vq, hv, (safeS_zero hp.1 hp.2).2.2.1, (safeS_zero hq.1 hq.2).2.2.1, safeS_odd hp.1 hp.2, safeS_odd hq.1 hq.2, hh, hc⟩
      · cases h
    · rename_i hc; exact absurd h hc
  · cases h
theorem hasS_lt {m o x : ByteArray} (sm : m.size ≤ 8) (h : hasS m o x = true) : valid x = true ∧ num x < num m ∧ num x < 18446744073709551616 ∧ 0 < num x ∧ goodS m o = true ∧ Nat.gcd (num x) (num m) = 1 := by
  unfold hasS at h
  simp only [Bool.and_eq_true, decide_eq_true_eq, Bool.not_eq_true'] at h
  obtain ⟨⟨⟨⟨hg, hv⟩, hne⟩, hc⟩, hgcd⟩ := h
  have hl := natCmp_neg hv (goodS_valid hg) hc
  refine ⟨hv, hl, Nat.lt_trans hl (natSmall_bound m sm), ?_, hg, hgcd⟩
  rcases Nat.eq_zero_or_pos (num x) with h0 | h0
  · rw [← B_num hv, h0, B_isEmpty_true] at hne; cases hne
  · exact h0
/-- Whether an element is a square, and the error. -/
def isSquareS (m o p q x : ByteArray) : Bool × Int := (decide (elementS m o p q x = 0) && squareS (num x) (num p) (num q), elementS m o p q x)
theorem rsagroup_IsSquare (m o p q x : ByteArray) (w : World) (sm : m.size ≤ 8) (hT : Tab w) :
    Calls Tryz.prog 11 #[.agg #[.string m, .string o], .agg #[.string p, .string q], .string x] w fun e w' => e = .returned (.tuple #[.bool (isSquareS m o p q x).1, .int .i64 (isSquareS m o p q x).2]) ∧ Below w.heap.size w w' := by
  have hr1 : (isSquareS m o p q x).1 = (decide (elementS m o p q x = 0) && squareS (num x) (num p) (num q)) := rfl
  have hr2 : (isSquareS m o p q x).2 = elementS m o p q x := rfl
  have hel := fun w hT => rsagroup_element m o p q x w sm hT
  have hz := @elementS_zero m o p q x
  generalize elementS m o p q x = el at *
  have HR1 := Lib.hid hr1
  have HR2 := Lib.hid hr2
  have HEL := Lib.hid hel
  have HZ := Lib.hid hz
  have HT := Lib.hid ((hT.alloc (.cells #[.string m, .string o] 24)).alloc (.cells #[.string p, .string q] 29))
  clear hr1 hr2 hel hz hT
  have F0 := Lib.hid (show Below w.heap.size w ((w.alloc (.cells #[.string m, .string o] 24)).alloc (.cells #[.string p, .string q] 29)) from ((Below.refl _ _).alloc (Nat.le_refl _) _).alloc (by simp) _)
  by_cases h0 : el = 0
  · subst h0
    have f := HZ.out rfl
    have hx64 := (hasS_lt sm f.has).2.2.1
    have hsq := fun w => rsagroup_square (num x) (num p) (num q) w hx64 f.p64 f.q64 f.op f.oq
    rw [B_num f.vx, B_num f.vp, B_num f.vq] at hsq
    have HSQ := Lib.hid hsq
    clear hsq f hx64
    go_enter Tryz.func11, Tryz.ntmps11
    go_wp2_with (first | (go_at_call 21; refine (HEL.out _ HT.out).mono ?_; rintro e w1 ⟨rfl, hb1⟩; have hcw1 := (bcell hb1).1) | (go_at_call 22; refine (HSQ.out _).mono ?_; rintro e w2 ⟨rfl, hb2⟩))
    go_ret2
    exact ⟨ret_be (by rw [HR1.out] <;> rfl) (by rw [HR2.out]), below2 (below2 F0.out hb1) hb2⟩
  · have hb : (el == 0) = false := by rw [beq_eq_false_iff_ne]; exact h0
    have H0 := Lib.hid h0
    clear h0
    go_enter Tryz.func11, Tryz.ntmps11
    go_wp2_with (first | (go_at_call 21; refine (HEL.out _ HT.out).mono ?_; rintro e w1 ⟨rfl, hb1⟩; have hcw1 := (bcell hb1).1))
    go_ret2
    exact ⟨ret_be (by rw [HR1.out, decide_eq_false H0.out] <;> rfl) (by rw [HR2.out]), below2 F0.out hb1⟩
end Go.Proofs.YtcpglhjmhegfmaaGreatDoor
