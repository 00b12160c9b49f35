/- The walk of the law ShamirSplits. -/
import Derived.Test.YtlcmlbdgibjmlaaGreatDoorSy
import Derived.Test.YtlcmlbdgibjmlaaGreatDoorSQ
import Derived.Test.YtlcmlbdgibjmlaaGreatDoorCS
namespace Go.Proofs.YtlcmlbdgibjmlaaGreatDoor
open Go.RowKit
set_option maxRecDepth 100000
set_option linter.unusedVariables false
set_option linter.unusedSimpArgs false
set_option maxHeartbeats 4000000

/-- The error of a split. -/
def spl2E (q s : ByteArray) (need count : Int) (vals : List ByteArray) (seed : ByteArray) (z : Int) : Int :=
  if splE q s need count vals z = 0 then manyE vals seed z (num q) (need.toNat - 1) else splE q s need count vals z
/-- What a split hands back, on both sides. -/
def splitPost (k : Nat) (q s : ByteArray) (need count : Int) (vals : List ByteArray) (A : Option Addr) (n : Nat) (seed : ByteArray) (z : Int) (e : Ending) (w' : World) : Prop :=
  (spl2E q s need count vals seed z = 0 ∧ ∃ A' c' At ct, e = .returned (.tuple #[.slice A' count.toNat c', .agg #[.slice At n ct, .string seed, .int .i64 (z + ((need.toNat - 1 : Nat) : Int))], .int .i64 0]) ∧ SLs w' w'.heap.size A' (shrL (num q) count.toNat (num s :: coinsL vals seed (num q) z (need.toNat - 1))) ∧ SLs w' w'.heap.size At vals ∧ AtOld A At k) ∨
  (spl2E q s need count vals seed z ≠ 0 ∧ e = splNil (spl2E q s need count vals seed z))
theorem splE_zero {q s : ByteArray} {need count : Int} {vals : List ByteArray} {z : Int} (h : splE q s need count vals z = 0) :
    goodT vals z = true ∧ isE q = 0 ∧ s = B (num s) ∧ num s < num q ∧ 1 ≤ need ∧ need ≤ count ∧ count ≤ 255 ∧ count.toNat < num q := by
  unfold splE at h
  cases hg : goodT vals z
  · rw [hg, if_neg (by decide)] at h; cases h
  · rw [hg, if_pos rfl] at h
    by_cases hsh : shE q [[s]] = 0
    · rw [if_pos hsh] at h
      obtain ⟨hv, hE⟩ := shE_zero hsh
      have hQ := isE_zero hE
      have hvs : [s].all valid = true := hv [s] (by simp)
      by_cases hb : blwS q [s] = true
      · rw [if_pos hb] at h
        have hnb := blw_nums hQ hvs hb
        by_cases hc : need < 1 ∨ count < need ∨ 255 < count ∨ ¬ natCmp (B count.toNat) q < 0
        · rw [if_pos hc] at h; cases h
        · have c4 : natCmp (B count.toNat) q < 0 := by
            apply Decidable.byContradiction
            intro hx
            exact hc (.inr (.inr (.inr hx)))
          have hvq : valid q = true := by rw [hQ.eq]; exact valid_B (u64_lt_lim hQ.lt)
          have c5 := (natCmp_lt (valid_B (k_lim (by omega))) hvq).1 c4
          rw [num_B] at c5
          have hs1 := hnb.1
          simp at hs1
          exact ⟨rfl, hE, hs1, hnb.2 (num s) (by simp), by omega, by omega, by omega, c5⟩
      · rw [if_neg hb] at h; cases h
    · rw [if_neg hsh] at h; exact absurd h hsh
theorem splE_split {q s : ByteArray} {need count : Int} {vals : List ByteArray} {seed : ByteArray} {z : Int} {A : Option Addr} {n k : Nat} {e : Ending} {w' : World} (h0 : splE q s need count vals z = 0)
    (h : splPost k (num q) (num s) need.toNat count.toNat vals A n seed z e w') : splitPost k q s need count vals A n seed z e w' := by
  have hv : spl2E q s need count vals seed z = manyE vals seed z (num q) (need.toNat - 1) := by unfold spl2E; rw [if_pos h0]
  rcases h with ⟨h1, h2⟩ | ⟨h1, h2⟩
  · exact .inl ⟨hv.trans h1, h2⟩
  · exact .inr ⟨by rw [hv]; exact h1, by rw [hv]; exact h2⟩
theorem shamir_Split_all (q s : ByteArray) (need count : Int) (vals : List ByteArray) (A : Option Addr) (n c : Nat) (seed : ByteArray) (z : Int) (w : World)
    (hn : vals.length = n) (hm : n ≤ 1000) (h : SLs w w.heap.size A vals) (hs : seed.size ≤ 100000) (hT10 : Tab10 w) (hT : Tab w) :
    Calls Tryz.prog 13 #[.string q, .string s, .int .i64 need, .int .i64 count, .agg #[.slice A n c, .string seed, .int .i64 z]] w fun e w' => splitPost w.heap.size q s need count vals A n seed z e w' ∧ Below w.heap.size w w' := by
  by_cases h0 : splE q s need count vals z = 0
  · obtain ⟨hg, hE, hsB, hsq, h1, h2, h3, h4⟩ := splE_zero h0
    have hQ := isE_zero hE
    have hqB := hQ.eq
    rw [hqB] at hE
    have := shamir_SplitG (num q) (num s) need.toNat count.toNat vals A n c seed z w hE hsq (by omega) (by omega) (by omega) h4 hn hm h hg hs hT10 hT
    rw [← hqB, ← hsB, Int.toNat_of_nonneg (by omega), Int.toNat_of_nonneg (by omega)] at this
    exact this.mono (fun e w' ⟨hp, hb⟩ => ⟨splE_split h0 hp, hb⟩)
  · have hv : spl2E q s need count vals seed z = splE q s need count vals z := by unfold spl2E; rw [if_neg h0]
    exact (shamir_Split_err q s need count vals A n c seed z w hn hm h hs hT10 hT h0).mono (fun e w' ⟨hp, hb⟩ => ⟨.inr ⟨by rw [hv]; exact h0, by rw [hv]; exact hp⟩, hb⟩)
theorem r19_Split_all (q s : ByteArray) (need count : Int) (vals : List ByteArray) (A : Option Addr) (n c : Nat) (seed : ByteArray) (z : Int) (w : World)
    (hn : vals.length = n) (hm : n ≤ 1000) (h : SLs w w.heap.size A vals) (hs : seed.size ≤ 100000) :
    Calls Tryz.prog 14 #[.string q, .string s, .int .i64 need, .int .i64 count, .agg #[.slice A n c, .string seed, .int .i64 z]] w fun e w' => splitPost w.heap.size q s need count vals A n seed z e w' ∧ Below w.heap.size w w' := by
  by_cases h0 : splE q s need count vals z = 0
  · obtain ⟨hg, hE, hsB, hsq, h1, h2, h3, h4⟩ := splE_zero h0
    have hQ := isE_zero hE
    have hqB := hQ.eq
    rw [hqB] at hE
    have := r19_Split_ok (num q) (num s) need.toNat count.toNat vals A n c seed z w hE hsq (by omega) (by omega) (by omega) h4 hn hm h hg hs
    rw [← hqB, ← hsB, Int.toNat_of_nonneg (by omega), Int.toNat_of_nonneg (by omega)] at this
    exact this.mono (fun e w' ⟨hp, hb⟩ => ⟨splE_split h0 hp, hb⟩)
  · have hv : spl2E q s need count vals seed z = splE q s need count vals z := by unfold spl2E; rw [if_neg h0]
    exact (r19_Split_err q s need count vals A n c seed z w hn hm h h0).mono (fun e w' ⟨hp, hb⟩ => ⟨.inr ⟨by rw [hv]; exact h0, by rw [hv]; exact hp⟩, hb⟩)
/-- A sharing and a tape in their boxes. -/
structure ShB (w wx : World) (q s : ByteArray) (need count : Int) (A : Option Addr) (n c : Nat) (seed : ByteArray) (z : Int) : Prop where
  c0 : wx.cell? ⟨w.heap.size, 0, none⟩ = some (.string q)
  c1 : wx.cell? ⟨w.heap.size, 1, none⟩ = some (.string s)
  c2 : wx.cell? ⟨w.heap.size, 2, none⟩ = some (.int .i64 need)
  c3 : wx.cell? ⟨w.heap.size, 3, none⟩ = some (.int .i64 count)
  t0 : wx.cell? ⟨w.heap.size + 1, 0, none⟩ = some (.slice A n c)
  t1 : wx.cell? ⟨w.heap.size + 1, 1, none⟩ = some (.string seed)
  t2 : wx.cell? ⟨w.heap.size + 1, 2, none⟩ = some (.int .i64 z)
  bel : Below w.heap.size w wx
section
variable {w wx wy : World} {q s : ByteArray} {need count : Int} {A : Option Addr} {n c : Nat} {seed : ByteArray} {z : Int}
theorem ShB.next (h : ShB w wx q s need count A n c seed z) (hb : Below wx.heap.size wx wy) : ShB w wy q s need count A n c seed z := by
  have l1 : w.heap.size + 1 < wx.heap.size := cell_in (a := ⟨w.heap.size + 1, 0, none⟩) h.t0
  have l0 : w.heap.size < wx.heap.size := by omega
  exact ⟨(hb.cell (p := ⟨w.heap.size, 0, none⟩) l0).trans h.c0, (hb.cell (p := ⟨w.heap.size, 1, none⟩) l0).trans h.c1, (hb.cell (p := ⟨w.heap.size, 2, none⟩) l0).trans h.c2, (hb.cell (p := ⟨w.heap.size, 3, none⟩) l0).trans h.c3,
    (hb.cell (p := ⟨w.heap.size + 1, 0, none⟩) l1).trans h.t0, (hb.cell (p := ⟨w.heap.size + 1, 1, none⟩) l1).trans h.t1, (hb.cell (p := ⟨w.heap.size + 1, 2, none⟩) l1).trans h.t2, below2 h.bel hb⟩
theorem ShB.alloc (h : ShB w wx q s need count A n c seed z) (o : Obj) : ShB w (wx.alloc o) q s need count A n c seed z := h.next ((Below.refl _ _).alloc (Nat.le_refl _) o)
theorem ShB.start (w : World) (q s : ByteArray) (need count : Int) (A : Option Addr) (n c : Nat) (seed : ByteArray) (z : Int) (T1 T2 : TypeId) :
    ShB w ((w.alloc (.cells #[.string q, .string s, .int .i64 need, .int .i64 count] T1)).alloc (.cells #[.slice A n c, .string seed, .int .i64 z] T2)) q s need count A n c seed z :=
  ⟨by simp [go_sem], by simp [go_sem], by simp [go_sem], by simp [go_sem], by simp [go_sem], by simp [go_sem], by simp [go_sem], ((Below.refl _ _).alloc (Nat.le_refl _) _).alloc (by rw [World.size_alloc]; omega) _⟩
end
/-- A tape in a box. -/
structure TpB (wx : World) (g : Nat) (A : Option Addr) (n c : Nat) (seed : ByteArray) (z : Int) : Prop where
  x0 : wx.cell? ⟨g, 0, none⟩ = some (.slice A n c)
  x1 : wx.cell? ⟨g, 1, none⟩ = some (.string seed)
  x2 : wx.cell? ⟨g, 2, none⟩ = some (.int .i64 z)
theorem TpB.start (w : World) (A : Option Addr) (n c : Nat) (seed : ByteArray) (z : Int) (T : TypeId) : TpB (w.alloc (.cells #[.slice A n c, .string seed, .int .i64 z] T)) w.heap.size A n c seed z :=
  ⟨by simp [go_sem], by simp [go_sem], by simp [go_sem]⟩
theorem TpB.next {wx wy : World} {g : Nat} {A : Option Addr} {n c : Nat} {seed : ByteArray} {z : Int} (h : TpB wx g A n c seed z) (hb : Below wx.heap.size wx wy) : TpB wy g A n c seed z := by
  have l : g < wx.heap.size := cell_in (a := ⟨g, 0, none⟩) h.x0
  exact ⟨(hb.cell (p := ⟨g, 0, none⟩) l).trans h.x0, (hb.cell (p := ⟨g, 1, none⟩) l).trans h.x1, (hb.cell (p := ⟨g, 2, none⟩) l).trans h.x2⟩
theorem law19_Splits (q s : ByteArray) (need count : Int) (vals : List ByteArray) (A : Option Addr) (n c : Nat) (seed : ByteArray) (z : Int) (w : World)
    (hn : vals.length = n) (h : SLs w w.heap.size A vals) (hT : Tab w) (hT10 : Tab10 w) :
    Calls Tryz.prog 4 #[.agg #[.string q, .string s, .int .i64 need, .int .i64 count], .agg #[.slice A n c, .string seed, .int .i64 z]] w fun e w' => e = .returned (.bool true) ∧ Below w.heap.size w w' := by
  have KA := Lib.hid (fun wq (h1 : Below w.heap.size w wq) => law19_awake wq (hT.below h1) (hT10.below h1))
  have HP := Lib.hid (ShB.start w q s need count A n c seed z 34 36)
  by_cases k1 : 12 < q.size
  · have d1 : decide ((12 : Int) < (q.size : Int)) = true := decide_eq_true (by omega)
    clear k1 hn h hT hT10
    go_enter Tryz.func4, Tryz.ntmps4
    go_wp2_with (first | (go_at_call 10; (with_reducible refine (KA.out _ HP.out.bel).mono ?_); rintro e w2 ⟨rfl, hb2⟩; have HP2 := Lib.hid (HP.out.next hb2); clear hb2))
    go_ret
    exact ⟨rfl, HP2.out.bel⟩
  have d1 : decide ((12 : Int) < (q.size : Int)) = false := decide_eq_false (by omega)
  by_cases k2 : 12 < s.size
  · have d2 : decide ((12 : Int) < (s.size : Int)) = true := decide_eq_true (by omega)
    clear k1 k2 hn h hT hT10
    go_enter Tryz.func4, Tryz.ntmps4
    go_wp2_with (first | (go_at_call 10; (with_reducible refine (KA.out _ HP.out.bel).mono ?_); rintro e w2 ⟨rfl, hb2⟩; have HP2 := Lib.hid (HP.out.next hb2); clear hb2))
    go_ret
    exact ⟨rfl, HP2.out.bel⟩
  have d2 : decide ((12 : Int) < (s.size : Int)) = false := decide_eq_false (by omega)
  by_cases k3 : 12 < count ∧ count ≤ 255
  · have d3 : decide ((12 : Int) < count) = true := decide_eq_true k3.1
    have d4 : decide (count ≤ (255 : Int)) = true := decide_eq_true k3.2
    clear k1 k2 k3 hn h hT hT10
    go_enter Tryz.func4, Tryz.ntmps4
    go_wp2_with (first | (go_at_call 10; (with_reducible refine (KA.out _ HP.out.bel).mono ?_); rintro e w2 ⟨rfl, hb2⟩; have HP2 := Lib.hid (HP.out.next hb2); clear hb2))
    go_ret
    exact ⟨rfl, HP2.out.bel⟩
  obtain ⟨b3, hb3⟩ : ∃ b3, b3 = decide ((12 : Int) < count) := ⟨_, rfl⟩
  have d4 : b3 = true → decide (count ≤ (255 : Int)) = false := fun hb => decide_eq_false (by rw [hb] at hb3; have := of_decide_eq_true hb3.symm; omega)
  have d3 := hb3.symm
  clear hb3
  have HD4 := Lib.hid d4
  clear d4
  by_cases k5 : 60 < n
  · have d5 : decide ((60 : Int) < (n : Int)) = true := decide_eq_true (by omega)
    cases b3
    · clear k1 k2 k3 k5 hn h hT hT10
      go_enter Tryz.func4, Tryz.ntmps4
      go_wp2_with (first | (go_at_call 10; (with_reducible refine (KA.out _ HP.out.bel).mono ?_); rintro e w2 ⟨rfl, hb2⟩; have HP2 := Lib.hid (HP.out.next hb2); clear hb2))
      go_ret
      exact ⟨rfl, HP2.out.bel⟩
    · have d4 := HD4.out rfl
      clear k1 k2 k3 k5 hn h hT hT10
      go_enter Tryz.func4, Tryz.ntmps4
      go_wp2_with (first | (go_at_call 10; (with_reducible refine (KA.out _ HP.out.bel).mono ?_); rintro e w2 ⟨rfl, hb2⟩; have HP2 := Lib.hid (HP.out.next hb2); clear hb2))
      go_ret
      exact ⟨rfl, HP2.out.bel⟩
  have d5 : decide ((60 : Int) < (n : Int)) = false := decide_eq_false (by omega)
  by_cases k6 : 60 < seed.size
  · have d6 : decide ((60 : Int) < (seed.size : Int)) = true := decide_eq_true (by omega)
    cases b3
    · clear k1 k2 k3 k5 k6 hn h hT hT10
      go_enter Tryz.func4, Tryz.ntmps4
      go_wp2_with (first | (go_at_call 10; (with_reducible refine (KA.out _ HP.out.bel).mono ?_); rintro e w2 ⟨rfl, hb2⟩; have HP2 := Lib.hid (HP.out.next hb2); clear hb2))
      go_ret
      exact ⟨rfl, HP2.out.bel⟩
    · have d4 := HD4.out rfl
      clear k1 k2 k3 k5 k6 hn h hT hT10
      go_enter Tryz.func4, Tryz.ntmps4
      go_wp2_with (first | (go_at_call 10; (with_reducible refine (KA.out _ HP.out.bel).mono ?_); rintro e w2 ⟨rfl, hb2⟩; have HP2 := Lib.hid (HP.out.next hb2); clear hb2))
      go_ret
      exact ⟨rfl, HP2.out.bel⟩
  have d6 : decide ((60 : Int) < (seed.size : Int)) = false := decide_eq_false (by omega)
  have KP := Lib.hid (fun wq (h1 : Below w.heap.size w wq) => shamir_Split_all q s need count vals A n c seed z wq hn (by omega) (h.to h1) (by omega) (hT10.below h1) (hT.below h1))
  have KR := Lib.hid (fun wq (h1 : Below w.heap.size w wq) => r19_Split_all q s need count vals A n c seed z wq hn (by omega) (h.to h1) (by omega))
  have HN := Lib.hid (And.intro hn (show n ≤ 60 by omega))
  have HC := Lib.hid (show ¬ (12 < count ∧ count ≤ 255) from k3)
  clear k1 k2 k3 k5 k6 hn h hT hT10
  go_enter Tryz.func4, Tryz.ntmps4
  go_upto_region 1 with fail
  go_cut [42] (fun e wx => e = .bool false ∧ ShB w wx q s need count A n c seed z)
  case first =>
    cases b3
    · go_wp2_with fail
      go_meet
      exact ⟨rfl, HP.out⟩
    · have d4 := HD4.out rfl
      go_wp2_with fail
      go_meet
      exact ⟨rfl, HP.out⟩
  case rest =>
  obtain ⟨rfl, hcut⟩ := hcut
  have HP0 := Lib.hid hcut
  obtain ⟨c0, c1, c2, c3, t0, t1, t2, _⟩ := hcut
  clear d1 d2 d3 d5 d6 HD4
  obtain ⟨E, hE⟩ : ∃ E, E = spl2E q s need count vals seed z := ⟨_, rfl⟩
  by_cases h0 : E = 0
  · subst h0
    obtain ⟨K, hK⟩ : ∃ K, K = count.toNat := ⟨_, rfl⟩
    obtain ⟨zt, hzt⟩ : ∃ zt, zt = z + ((need.toNat - 1 : Nat) : Int) := ⟨_, rfl⟩
    obtain ⟨L, hL⟩ : ∃ L, L = shrL (num q) count.toNat (num s :: coinsL vals seed (num q) z (need.toNat - 1)) := ⟨_, rfl⟩
    have hpost : ∀ k e w', splitPost k q s need count vals A n seed z e w' → ∃ A' c' At ct, e = .returned (.tuple #[.slice A' K c', .agg #[.slice At n ct, .string seed, .int .i64 zt], .int .i64 0]) ∧ SLs w' w'.heap.size A' L ∧ SLs w' w'.heap.size At vals := by
      rintro k e w' (⟨_, A', c', At, ct, h1, h2, h3, _⟩ | ⟨h1, _⟩)
      · exact ⟨A', c', At, ct, by rw [hK, hzt]; exact h1, by rw [hL]; exact h2, h3⟩
      · exact absurd hE.symm h1
    have KP2 := Lib.hid (fun wq (h1 : Below w.heap.size w wq) => (KP.out wq h1).mono (R' := fun e w' => (∃ A' c' At ct, e = .returned (.tuple #[.slice A' K c', .agg #[.slice At n ct, .string seed, .int .i64 zt], .int .i64 0]) ∧ SLs w' w'.heap.size A' L ∧ SLs w' w'.heap.size At vals) ∧ Below wq.heap.size wq w') (fun e w' ⟨hp, hb⟩ => ⟨hpost _ _ _ hp, hb⟩))
    have KR2 := Lib.hid (fun wq (h1 : Below w.heap.size w wq) => (KR.out wq h1).mono (R' := fun e w' => (∃ A' c' At ct, e = .returned (.tuple #[.slice A' K c', .agg #[.slice At n ct, .string seed, .int .i64 zt], .int .i64 0]) ∧ SLs w' w'.heap.size A' L ∧ SLs w' w'.heap.size At vals) ∧ Below wq.heap.size wq w') (fun e w' ⟨hp, hb⟩ => ⟨hpost _ _ _ hp, hb⟩))
    have hKL : L.length = K ∧ K ≤ 900 := by
      have h5 : splE q s need count vals z = 0 := by
        by_cases hx : splE q s need count vals z = 0
        · exact hx
        · have := hE
          unfold spl2E at this
          rw [if_neg hx] at this
          exact absurd this.symm hx
      have h6 := splE_zero h5
      rw [hL, hK]
      unfold shrL
      rw [List.length_map, List.length_range]
      exact ⟨rfl, by omega⟩
    have HKL := Lib.hid hKL
    clear hE hK hzt hL hpost hKL KP KR HC
    go_upto_region 4 with (first
      | (go_at_call 13; (with_reducible refine (KP2.out _ HP0.out.bel).mono ?_); rintro e w1 ⟨⟨A1, b1, At1, bt1, rfl, hs1, hv1⟩, hb1⟩
         have HP1 := Lib.hid ((HP0.out.next hb1).alloc (.cells #[.slice At1 n bt1, .string seed, .int .i64 zt] 36))
         have HS1 := Lib.hid (hs1.to ((Below.refl _ _).alloc (Nat.le_refl _) (.cells #[.slice At1 n bt1, .string seed, .int .i64 zt] 36)))
         have HV1 := Lib.hid (hv1.to ((Below.refl _ _).alloc (Nat.le_refl _) (.cells #[.slice At1 n bt1, .string seed, .int .i64 zt] 36)))
         clear hb1 hs1 hv1))
    have HX1 := Lib.hid (TpB.start w1 At1 n bt1 seed zt 36)
    obtain ⟨W1, hW1⟩ : ∃ W1, W1 = w1.alloc (.cells #[.slice At1 n bt1, .string seed, .int .i64 zt] 36) := ⟨_, rfl⟩
    rw [← hW1] at HP1 HS1 HV1 HX1 ⊢
    obtain ⟨g1, hg1⟩ : ∃ g1, g1 = w1.heap.size := ⟨_, rfl⟩
    rw [← hg1] at HX1 ⊢
    clear hW1 hg1 c0 c1 c2 c3 t0 t1 t2
    obtain ⟨c0, c1, c2, c3, t0, t1, t2, _⟩ := HP1.out
    go_upto_region 5 with (first
      | (go_at_call 14; (with_reducible refine (KR2.out _ HP1.out.bel).mono ?_); rintro e w2 ⟨⟨A2, b2, At2, bt2, rfl, hs2, hv2⟩, hb2⟩
         have hbb := below2 hb2 ((Below.refl _ _).alloc (Nat.le_refl _) (.cells #[.slice At2 n bt2, .string seed, .int .i64 zt] 36))
         have HP2 := Lib.hid (HP1.out.next hbb)
         have HS21 := Lib.hid (HS1.out.to hbb)
         have HV21 := Lib.hid (HV1.out.to hbb)
         have HX21 := Lib.hid (HX1.out.next hbb)
         have HS2 := Lib.hid (hs2.to ((Below.refl _ _).alloc (Nat.le_refl _) (.cells #[.slice At2 n bt2, .string seed, .int .i64 zt] 36)))
         have HV2 := Lib.hid (hv2.to ((Below.refl _ _).alloc (Nat.le_refl _) (.cells #[.slice At2 n bt2, .string seed, .int .i64 zt] 36)))
         clear hb2 hs2 hv2 hbb))
    have HX2 := Lib.hid (TpB.start w2 At2 n bt2 seed zt 36)
    obtain ⟨W2, hW2⟩ : ∃ W2, W2 = w2.alloc (.cells #[.slice At2 n bt2, .string seed, .int .i64 zt] 36) := ⟨_, rfl⟩
    rw [← hW2] at HP2 HS2 HV2 HX2 HS21 HV21 HX21 ⊢
    obtain ⟨g2, hg2⟩ : ∃ g2, g2 = w2.heap.size := ⟨_, rfl⟩
    rw [← hg2] at HX2 ⊢
    clear hW2 hg2 c0 c1 c2 c3 t0 t1 t2 HP1 HS1 HV1 HX1 KP2 KR2
    go_wp2_with (first
      | (go_at_call 10; (with_reducible refine (KA.out _ HP2.out.bel).mono ?_); rintro e w3 ⟨rfl, hb3⟩
         have HP3 := Lib.hid (HP2.out.next hb3); have HS31 := Lib.hid (HS21.out.to hb3); have HS32 := Lib.hid (HS2.out.to hb3); have HV31 := Lib.hid (HV21.out.to hb3); have HV32 := Lib.hid (HV2.out.to hb3); have HX31 := Lib.hid (HX21.out.next hb3); have HX32 := Lib.hid (HX2.out.next hb3); clear hb3)
      | (go_at_call 15; (with_reducible refine (r06_SameNats L A1 A2 K b1 b2 _ HKL.out.1 HKL.out.2 HS31.out HS32.out).mono ?_); rintro e w4 ⟨rfl, hb4⟩
         have HP4 := Lib.hid (HP3.out.next hb4); have HV41 := Lib.hid (HV31.out.to hb4); have HV42 := Lib.hid (HV32.out.to hb4); obtain ⟨x0, x1, x2⟩ := (HX31.out.next hb4); obtain ⟨y0, y1, y2⟩ := (HX32.out.next hb4); clear hb4)
      | (go_at_call 16; (with_reducible refine (r06_Same vals At1 At2 n bt1 bt2 seed zt _ HN.out.1 (Nat.le_trans HN.out.2 (by decide)) HV41.out HV42.out).mono ?_); rintro e w5 ⟨rfl, hb5⟩
         have HP5 := Lib.hid (HP4.out.next hb5); clear hb5))
    go_ret
    exact ⟨rfl, HP5.out.bel⟩
  · have hpost : ∀ k e w', splitPost k q s need count vals A n seed z e w' → e = splNil E := by
      rintro k e w' (⟨h1, _⟩ | ⟨_, h2⟩)
      · exact absurd (hE.trans h1) h0
      · rw [hE]; exact h2
    have KP2 := Lib.hid (fun wq (h1 : Below w.heap.size w wq) => (KP.out wq h1).mono (R' := fun e w' => e = splNil E ∧ Below wq.heap.size wq w') (fun e w' ⟨hp, hb⟩ => ⟨hpost _ _ _ hp, hb⟩))
    have KR2 := Lib.hid (fun wq (h1 : Below w.heap.size w wq) => (KR.out wq h1).mono (R' := fun e w' => e = splNil E ∧ Below wq.heap.size wq w') (fun e w' ⟨hp, hb⟩ => ⟨hpost _ _ _ hp, hb⟩))
    clear hpost
    unfold splNil at KP2 KR2
    clear hE h0 KP KR HC
    go_upto_region 4 with (first
      | (go_at_call 13; (with_reducible refine (KP2.out _ HP0.out.bel).mono ?_); rintro e w1 ⟨rfl, hb1⟩
         have HP1 := Lib.hid ((HP0.out.next hb1).alloc (.cells #[.slice none 0 0, .string ⟨#[]⟩, .int .i64 0] 36))
         clear hb1))
    have HX1 := Lib.hid (TpB.start w1 none 0 0 ⟨#[]⟩ 0 36)
    obtain ⟨W1, hW1⟩ : ∃ W1, W1 = w1.alloc (.cells #[.slice none 0 0, .string ⟨#[]⟩, .int .i64 0] 36) := ⟨_, rfl⟩
    rw [← hW1] at HP1 HX1 ⊢
    obtain ⟨g1, hg1⟩ : ∃ g1, g1 = w1.heap.size := ⟨_, rfl⟩
    rw [← hg1] at HX1 ⊢
    clear hW1 hg1 c0 c1 c2 c3 t0 t1 t2
    obtain ⟨c0, c1, c2, c3, t0, t1, t2, _⟩ := HP1.out
    go_upto_region 5 with (first
      | (go_at_call 14; (with_reducible refine (KR2.out _ HP1.out.bel).mono ?_); rintro e w2 ⟨rfl, hb2⟩
         have hbb := below2 hb2 ((Below.refl _ _).alloc (Nat.le_refl _) (.cells #[.slice none 0 0, .string ⟨#[]⟩, .int .i64 0] 36))
         have HP2 := Lib.hid (HP1.out.next hbb)
         have HX21 := Lib.hid (HX1.out.next hbb)
         clear hb2 hbb))
    have HX2 := Lib.hid (TpB.start w2 none 0 0 ⟨#[]⟩ 0 36)
    obtain ⟨W2, hW2⟩ : ∃ W2, W2 = w2.alloc (.cells #[.slice none 0 0, .string ⟨#[]⟩, .int .i64 0] 36) := ⟨_, rfl⟩
    rw [← hW2] at HP2 HX2 HX21 ⊢
    obtain ⟨g2, hg2⟩ : ∃ g2, g2 = w2.heap.size := ⟨_, rfl⟩
    rw [← hg2] at HX2 ⊢
    clear hW2 hg2 c0 c1 c2 c3 t0 t1 t2 HP1 HX1 KP2 KR2
    go_wp2_with (first
      | (go_at_call 10; (with_reducible refine (KA.out _ HP2.out.bel).mono ?_); rintro e w3 ⟨rfl, hb3⟩
         have HP3 := Lib.hid (HP2.out.next hb3); have HX31 := Lib.hid (HX21.out.next hb3); have HX32 := Lib.hid (HX2.out.next hb3); clear hb3)
      | (go_at_call 15; (with_reducible refine (r06_SameNats [] none none 0 0 0 _ rfl (by decide) SLs.nil_ SLs.nil_).mono ?_); rintro e w4 ⟨rfl, hb4⟩
         have HP4 := Lib.hid (HP3.out.next hb4); obtain ⟨x0, x1, x2⟩ := (HX31.out.next hb4); obtain ⟨y0, y1, y2⟩ := (HX32.out.next hb4); clear hb4)
      | (go_at_call 16; (with_reducible refine (r06_Same [] none none 0 0 0 ⟨#[]⟩ 0 _ rfl (by decide) SLs.nil_ SLs.nil_).mono ?_); rintro e w5 ⟨rfl, hb5⟩
         have HP5 := Lib.hid (HP4.out.next hb5); clear hb5))
    go_ret
    exact ⟨rfl, HP5.out.bel⟩

end Go.Proofs.YtlcmlbdgibjmlaaGreatDoor
