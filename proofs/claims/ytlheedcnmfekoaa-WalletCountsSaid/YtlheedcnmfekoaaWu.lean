/- wallet.find, wallet.count. -/
import Derived.Test.YtlheedcnmfekoaaWt
namespace Go.Proofs.Ytlheedcnmfekoaa
open Go.RowKit
set_option maxRecDepth 100000
set_option linter.unusedVariables false
set_option maxHeartbeats 4000000

theorem wal_find (us : List Uz) (A : Option Addr) (n c : Nat) (S : Nat → Prop) (sec : ByteArray) (Aa Ah : Option Addr) (na ca nh ch : Nat) (sc : ByteArray) (z : Int) (w : World) (hn : us.length = n) (hm : n ≤ 100000) (h : SlU w S A us) (hS : ∀ g, S g → g < w.heap.size) :
    Calls Try.prog 37 #[.agg #[.string sec, .slice Aa na ca, .slice Ah nh ch, .slice A n c], .string sc, .int .i64 z] w fun e w' => e = .returned (.int .i64 (idxU (isU sc z) us 0)) ∧ Below w.heap.size w w' := by
  obtain ⟨W, hW⟩ : ∃ W, ((w.alloc (.cells #[.string sec, .slice Aa na ca, .slice Ah nh ch, .slice A n c] 28)).alloc (.cells #[.string sc] 9)).alloc (.cells #[.int .i64 z] 3) = W := ⟨_, rfl⟩
  have hbw : Below w.heap.size w W := by rw [← hW]; exact (((Below.refl w.heap.size w).alloc (Nat.le_refl _) _).alloc (by simp) _).alloc (by simp; omega) _
  have hsz : W.heap.size = w.heap.size + 3 := by rw [← hW]; simp
  have h1 : W.cell? ⟨w.heap.size + 1, 0, none⟩ = some (.string sc) := by rw [← hW]; simp [go_sem]
  have h2 : W.cell? ⟨w.heap.size + 1 + 1, 0, none⟩ = some (.int .i64 z) := by rw [← hW]; simp [go_sem]
  have HI := Lib.hid (index_U us A n c S sc z (w.heap.size + 1) (w.heap.size + 1 + 1) W hn hm (RowC.keep h (fun p hp => hbw.cell (hS _ hp))) (fun g hg => Nat.lt_of_lt_of_le (hS g hg) hbw.size) h1 h2 (by omega) (by omega))
  have HB := Lib.hid hbw
  rw [← hW] at HI HB
  clear hbw hsz h1 h2 hW h hS hn hm
  go_enter Try.func37, Try.ntmps37
  go_wp2_with (go_at_call 59; (with_reducible refine HI.out.mono ?_); rintro e w5 ⟨rfl, hb5⟩)
  go_ret
  exact ⟨rfl, below2 HB.out hb5⟩
/-- The count of the first that is meant, or 0. -/
def cntU (f : Uz → Bool) (us : List Uz) : Int := match us.find? f with | some x => x.2.2 | none => 0
theorem idxU_none {f : Uz → Bool} {us : List Uz} (h : us.find? f = none) (k : Nat) : idxU f us k = -1 := by
  induction us generalizing k with
  | nil => rfl
  | cons x r ih =>
    rw [List.find?_cons] at h
    unfold idxU
    cases hx : f x
    · rw [hx] at h; simpa using ih h (k + 1)
    · rw [hx] at h; cases h
theorem idxU_some {f : Uz → Bool} {us : List Uz} {x : Uz} (h : us.find? f = some x) (k : Nat) : ∃ i : Nat, idxU f us k = ((k + i : Nat) : Int) ∧ us[i]? = some x := by
  induction us generalizing k with
  | nil => cases h
  | cons y r ih =>
    rw [List.find?_cons] at h
    unfold idxU
    cases hy : f y
    · rw [hy] at h
      obtain ⟨i, h1, h2⟩ := ih h (k + 1)
      exact ⟨i + 1, by simp only [Bool.false_eq_true, if_false]; rw [h1]; congr 1; omega, by simpa using h2⟩
    · rw [hy] at h
      injection h with h
      subst h
      exact ⟨0, by simp, rfl⟩
theorem wal_count (us : List Uz) (A : Option Addr) (n c : Nat) (S : Nat → Prop) (sec : ByteArray) (Aa Ah : Option Addr) (na ca nh ch : Nat) (sc : ByteArray) (z : Int) (w : World) (hn : us.length = n) (hm : n ≤ 100000) (h : SlU w S A us) (hS : ∀ g, S g → g < w.heap.size) :
    Calls Try.prog 14 #[.agg #[.string sec, .slice Aa na ca, .slice Ah nh ch, .slice A n c], .string sc, .int .i64 z] w fun e w' => e = .returned (.int .i64 (cntU (isU sc z) us)) ∧ Below w.heap.size w w' := by
  have HF := Lib.hid (fun W (hb : Below w.heap.size w W) => wal_find us A n c S sec Aa Ah na ca nh ch sc z W hn hm (RowC.keep h (fun p hp => hb.cell (hS _ hp))) (fun g hg => Nat.lt_of_lt_of_le (hS g hg) hb.size))
  have HBX := Lib.hid (And.intro (heap_alloc_new w (.cells #[.string sec, .slice Aa na ca, .slice Ah nh ch, .slice A n c] 28)) ((Below.refl w.heap.size w).alloc (Nat.le_refl _) (.cells #[.string sec, .slice Aa na ca, .slice Ah nh ch, .slice A n c] 28)))
  have hz : w.heap.size < (w.alloc (.cells #[.string sec, .slice Aa na ca, .slice Ah nh ch, .slice A n c] 28)).heap.size := by simp
  have HZ := Lib.hid hz
  clear hz
  cases hf : us.find? (isU sc z) with
  | none =>
    have hc : cntU (isU sc z) us = 0 := by unfold cntU; rw [hf]
    rw [idxU_none hf 0] at HF
    rw [hc]
    clear hc hf h hS hn hm
    go_enter Try.func14, Try.ntmps14
    go_wp2_with (go_at_call 37; (with_reducible refine (HF.out _ HBX.out.2).mono ?_); rintro e w5 ⟨rfl, hb5⟩; have HB5 := Lib.hid (below2 HBX.out.2 hb5); clear hb5)
    go_ret
    exact ⟨rfl, HB5.out⟩
  | some x =>
    obtain ⟨i, hi1, hi2⟩ := idxU_some hf 0
    rw [Nat.zero_add] at hi1
    obtain ⟨s, p, q⟩ := x
    have hc : cntU (isU sc z) us = q := by unfold cntU; rw [hf]
    have hin : i < n := by rw [← hn]; exact (List.getElem?_eq_some_iff.1 hi2).1
    obtain ⟨g, off, rfl, hsg, y0, y1, y2⟩ := SlU.at_ h hi2
    have hgw := hS g hsg
    have HY := Lib.hid (And.intro y2 hgw)
    have k1 : (i : Int) < (n : Int) := by omega
    rw [hi1] at HF
    rw [hc]
    clear hc hf h hS hn hm hi1 hi2 y0 y1 y2 hsg hgw
    go_enter Try.func14, Try.ntmps14
    go_wp2_with (go_at_call 37; (with_reducible refine (HF.out _ HBX.out.2).mono ?_); rintro e w5 ⟨rfl, hb5⟩; have HB5 := Lib.hid (below2 HBX.out.2 hb5); have x3 := cell_of_row w5 _ 3 _ _ _ ((hb5.block _ HZ.out).trans HBX.out.1); have y2 := (HB5.out.cell (p := ⟨g, off + i * 3 + 2, none⟩) HY.out.2).trans HY.out.1; clear hb5)
    go_ret
    exact ⟨rfl, HB5.out⟩

end Go.Proofs.Ytlheedcnmfekoaa
