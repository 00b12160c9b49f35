/- The law file's words on small settings: short, list, FewKey, FewParams, few. -/
import Derived.Test.YtcpglhjmhegfmaaGreatDoorTvUU
import Derived.Test.YtcpglhjmhegfmaaGreatDoorTvBR
import Derived.Test.YtcpglhjmhegfmaaGreatDoorTvY3
import Derived.Test.YtcpglhjmhegfmaaGreatDoorTvKe
import Derived.Test.YtcpglhjmhegfmaaGreatDoorTvU4
import Derived.Test.YtcpglhjmhegfmaaGreatDoorTvII
import Derived.Test.YtcpglhjmhegfmaaGreatDoorTvBM
import Derived.RangeFuncBox
import Derived.RangeFuncNested
import Derived.RangeFuncBound
import Derived.RangeFuncCalls
import Derived.RangeFuncLeaves
import Derived.RangeFuncFrom
import Derived.Shelf.Abstract
import Derived.Shelf.RegionOpen
import Derived.WalkKit
import Derived.OwnWalkIn
import Derived.TacticsInMore
import Derived.LoopNIn
import Derived.LoopIn
import Derived.Deep.DeepCutAuto
import Derived.Deep.CutBlock
import Derived.ProofKit
namespace Go.Proofs.YtcpglhjmhegfmaaGreatDoor
open Go.RowKit
set_option maxRecDepth 100000
set_option linter.unusedVariables false
set_option maxHeartbeats 8000000
/-- All strings have at most so many bytes. -/
def shS (k : Nat) (ls : List ByteArray) : Bool := ls.all fun s => decide (s.size ≤ k)
theorem shS_no {k : Nat} {ls : List ByteArray} {j : Nat} (hj : j < ls.length) (h : ¬ (ls.getD j ByteArray.empty).size ≤ k) : shS k ls = false := by
  unfold shS
  rw [List.all_eq_false]
  refine ⟨ls.getD j ByteArray.empty, ?_, by simpa using h⟩
  rw [sgetD_lt hj]
  exact List.getElem_mem _
theorem shS_yes {k : Nat} {ls : List ByteArray} (h : ∀ j, j < ls.length → (ls.getD j ByteArray.empty).size ≤ k) : shS k ls = true := by
  unfold shS
  rw [List.all_eq_true]
  intro x hx
  obtain ⟨j, hj, rfl⟩ := List.getElem_of_mem hx
  have := h j hj
  rw [sgetD_lt hj] at this
  exact decide_eq_true this
theorem law30_short (k : Nat) (ls : List ByteArray) (A : Option Addr) (n c b : Nat) (w : World) (hk : k ≤ 1000) (hn : ls.length = n) (hm : n ≤ maxLen) (h : SLs w b A ls) :
    Calls Tryz.prog 24 #[.int .i64 k, .slice A n c] w fun e w' => e = .returned (.bool (shS k ls)) ∧ w = w' := by
  have HN := Lib.hid hn
  have HS := Lib.hid h
  unfold maxLen at hm
  clear hn h
  go_enter Tryz.func24, Tryz.ntmps24
  go_wp2
  go_loop [5] (fun v => ∃ j : Nat, j ≤ n ∧ v = .int .i64 j ∧ ∀ t, t < j → (ls.getD t ByteArray.empty).size ≤ k) (fun v => n - (intOf v).toNat)
  case atStart => exact ⟨0, by omega, rfl, fun j h => absurd h (by omega)⟩
  case round =>
    obtain ⟨j, hj, rfl, hall⟩ := hrel
    have HA := Lib.hid hall
    clear hall
    by_cases hlt : j < n
    · obtain ⟨ad, rfl, hc⟩ := HS.out.at_ (k := j) (by rw [HN.out]; exact hlt)
      obtain ⟨s, hs⟩ : ∃ s, ls.getD j ByteArray.empty = s := ⟨_, rfl⟩
      rw [hs] at hc
      by_cases hz : s.size ≤ k
      · have p0 : ¬ k < s.size := by omega
        have HX : Hid ((ls.getD j ByteArray.empty).size ≤ k) := Lib.hid (by rw [hs]; exact hz)
        have HLT := Lib.hid hlt
        clear hs hz
        go_wp2
        go_round
        case rel => exact ⟨j + 1, HLT.out, by go_num, fun t ht => by
          rcases Nat.lt_or_ge t j with h1 | h1
          · exact HA.out t h1
          · obtain rfl : t = j := by omega
            exact HX.out⟩
        case measure => have := HLT.out; simp [intOf]; omega
      · have p0 : k < s.size := by omega
        have HF : Hid (shS k ls = false) := Lib.hid (shS_no (j := j) (by rw [HN.out]; exact hlt) (by rw [hs]; exact hz))
        clear hs hz
        go_wp2
        go_ret
        exact ⟨by rw [HF.out]; rfl, rfl⟩
    · obtain rfl : j = n := by omega
      have HF : Hid (shS k ls = true) := Lib.hid (shS_yes (fun t ht => HA.out t (by rw [HN.out] at ht; exact ht)))
      go_wp2
      go_ret
      exact ⟨by rw [HF.out]; rfl, rfl⟩
def fewK (nm m o z s u h : ByteArray) (rs : List ByteArray) : Bool := shS 8 [m, o] && (shS 9 [z, s, u, h] && (decide (rs.length ≤ 6) && (shS 9 rs && decide (nm.size ≤ 60))))
theorem SLs.newAt (w : World) (t : Nat) (ls : List ByteArray) (k : Nat) (hk : w.heap.size = k) : SLs (w.alloc (.cells (ls.map Value.string).toArray t)) (k + 1) (some ⟨k, 0, none⟩) ls := by
  subst hk
  exact SLs.new w t ls (w.heap.size + 1) (by omega)
theorem law30_FewKey (nm m o z s u h : ByteArray) (A : Option Addr) (n c b : Nat) (rs : List ByteArray) (w : World) (hn : rs.length = n) (hm : n ≤ maxLen) (hs : SLs w b A rs) (hb : b ≤ w.heap.size) :
    Calls Tryz.prog 14 #[.agg #[.string nm, .string m, .string o, .string z, .string s, .slice A n c, .string u, .string h]] w fun e w' => e = .returned (.bool (fewK nm m o z s u h rs)) ∧ Below w.heap.size w w' := by
  have K1 : Hid (∀ (wq : World) A1 b1, SLs wq b1 A1 [m, o] → Calls Tryz.prog 24 #[.int .i64 8, .slice A1 2 2] wq fun e w' => e = .returned (.bool (shS 8 [m, o])) ∧ wq = w') := Lib.hid (fun wq A1 b1 h1 => law30_short 8 [m, o] A1 2 2 b1 wq (by omega) rfl (by unfold maxLen; omega) h1)
  have K2 : Hid (∀ (wq : World) A1 b1, SLs wq b1 A1 [z, s, u, h] → Calls Tryz.prog 24 #[.int .i64 9, .slice A1 4 4] wq fun e w' => e = .returned (.bool (shS 9 [z, s, u, h])) ∧ wq = w') := Lib.hid (fun wq A1 b1 h1 => law30_short 9 [z, s, u, h] A1 4 4 b1 wq (by omega) rfl (by unfold maxLen; omega) h1)
  have K3 : Hid (∀ (wq : World), SLs wq b A rs → Calls Tryz.prog 24 #[.int .i64 9, .slice A n c] wq fun e w' => e = .returned (.bool (shS 9 rs)) ∧ wq = w') := Lib.hid (fun wq h1 => law30_short 9 rs A n c b wq (by omega) hn hm h1)
  obtain ⟨X, hX⟩ : ∃ X : Obj, Obj.cells #[.string nm, .string m, .string o, .string z, .string s, .slice A n c, .string u, .string h] 27 = X := ⟨_, rfl⟩
  have HB0 := Lib.hid (show Below w.heap.size w (w.alloc X) from (Below.refl _ _).alloc (Nat.le_refl _) _)
  have HB1 := Lib.hid (HB0.out.alloc HB0.out.size (.cells #[.string m, .string o] 22))
  have HB2 := Lib.hid (HB1.out.alloc HB1.out.size (.cells #[.string z, .string s, .string u, .string h] 22))
  have e1 : (w.alloc X).heap.size = w.heap.size + 1 := by simp
  have S1 : Hid (SLs ((w.alloc X).alloc (.cells #[.string m, .string o] 22)) _ (some ⟨w.heap.size + 1, 0, none⟩) [m, o]) := Lib.hid (SLs.newAt (w.alloc X) 22 [m, o] _ e1)
  have e2 : ((w.alloc X).alloc (.cells #[.string m, .string o] 22)).heap.size = w.heap.size + 2 := by simp
  have S2 : Hid (SLs (((w.alloc X).alloc (.cells #[.string m, .string o] 22)).alloc (.cells #[.string z, .string s, .string u, .string h] 22)) _ (some ⟨w.heap.size + 2, 0, none⟩) [z, s, u, h]) := Lib.hid (SLs.newAt _ 22 [z, s, u, h] _ e2)
  have S3 := Lib.hid (hs.next hb HB2.out)
  subst hX
  have hr : fewK nm m o z s u h rs = (shS 8 [m, o] && (shS 9 [z, s, u, h] && (decide (n ≤ 6) && (shS 9 rs && decide (nm.size ≤ 60))))) := by unfold fewK; rw [hn]
  rw [hr]
  obtain ⟨b1, hb1⟩ : ∃ b1, shS 8 [m, o] = b1 := ⟨_, rfl⟩
  obtain ⟨b2, hb2⟩ : ∃ b2, shS 9 [z, s, u, h] = b2 := ⟨_, rfl⟩
  obtain ⟨b3, hb3⟩ : ∃ b3, shS 9 rs = b3 := ⟨_, rfl⟩
  rw [hb1] at K1
  rw [hb2] at K2
  rw [hb3] at K3
  rw [hb1, hb2, hb3]
  unfold maxLen at hm
  clear hr hb1 hb2 hb3 hn hs hb e1 e2
  cases b1
  · go_enter Tryz.func14, Tryz.ntmps14
    go_wp2_with (go_at_call 24; (with_reducible refine (K1.out _ _ _ S1.out).mono ?_); rintro e w' ⟨rfl, rfl⟩)
    go_ret
    exact ⟨rfl, HB1.out⟩
  · cases b2
    · go_enter Tryz.func14, Tryz.ntmps14
      go_wp2_with (first | (go_at_call 24; (with_reducible refine (K1.out _ _ _ S1.out).mono ?_); rintro e w' ⟨rfl, rfl⟩) | (go_at_call 24; (with_reducible refine (K2.out _ _ _ S2.out).mono ?_); rintro e w' ⟨rfl, rfl⟩))
      go_ret
      exact ⟨rfl, HB2.out⟩
    · by_cases h6 : n ≤ 6
      · have p6 : decide ((n : Int) ≤ 6) = true := decide_eq_true (by omega)
        rw [decide_eq_true h6]
        clear h6
        cases b3
        · go_enter Tryz.func14, Tryz.ntmps14
          go_wp2_with (first | (go_at_call 24; (with_reducible refine (K1.out _ _ _ S1.out).mono ?_); rintro e w' ⟨rfl, rfl⟩) | (go_at_call 24; (with_reducible refine (K2.out _ _ _ S2.out).mono ?_); rintro e w' ⟨rfl, rfl⟩) | (go_at_call 24; (with_reducible refine (K3.out _ S3.out).mono ?_); rintro e w' ⟨rfl, rfl⟩))
          go_ret
          exact ⟨rfl, HB2.out⟩
        · obtain ⟨q, hq⟩ : ∃ q, decide (nm.size ≤ 60) = q := ⟨_, rfl⟩
          rw [hq]
          have pq : decide ((nm.size : Int) ≤ 60) = q := by rw [← hq]; exact decide_eq_decide.mpr (by omega)
          clear hq
          go_enter Tryz.func14, Tryz.ntmps14
          go_wp2_with (first | (go_at_call 24; (with_reducible refine (K1.out _ _ _ S1.out).mono ?_); rintro e w' ⟨rfl, rfl⟩) | (go_at_call 24; (with_reducible refine (K2.out _ _ _ S2.out).mono ?_); rintro e w' ⟨rfl, rfl⟩) | (go_at_call 24; (with_reducible refine (K3.out _ S3.out).mono ?_); rintro e w' ⟨rfl, rfl⟩))
          go_ret
          exact ⟨ret_bool (by simp), HB2.out⟩
      · have p6 : decide ((n : Int) ≤ 6) = false := decide_eq_false (by omega)
        rw [decide_eq_false h6]
        clear h6
        go_enter Tryz.func14, Tryz.ntmps14
        go_wp2_with (first | (go_at_call 24; (with_reducible refine (K1.out _ _ _ S1.out).mono ?_); rintro e w' ⟨rfl, rfl⟩) | (go_at_call 24; (with_reducible refine (K2.out _ _ _ S2.out).mono ?_); rintro e w' ⟨rfl, rfl⟩))
        go_ret
        exact ⟨rfl, HB2.out⟩
end Go.Proofs.YtcpglhjmhegfmaaGreatDoor
