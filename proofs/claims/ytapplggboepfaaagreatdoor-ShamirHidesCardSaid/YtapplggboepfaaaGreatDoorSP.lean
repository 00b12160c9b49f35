/- shamir.Split with one post for all its ways; sharings and tapes in boxes. -/
import Derived.Test.YtapplggboepfaaaGreatDoorSX
import Derived.Test.YtapplggboepfaaaGreatDoorSQ
namespace Go.Proofs.YtapplggboepfaaaGreatDoor
open Go.RowKit
set_option maxRecDepth 100000
set_option linter.unusedVariables false
set_option linter.unusedSimpArgs false
set_option maxHeartbeats 4000000

/-- The error of a split. -/
def spl2E (q s : ByteArray) (need count : Int) (vals : List ByteArray) (seed : ByteArray) (z : Int) : Int :=
  if splE q s need count vals z = 0 then manyE vals seed z (num q) (need.toNat - 1) else splE q s need count vals z
/-- What a split hands back, on both sides. -/
def splitPost (k : Nat) (q s : ByteArray) (need count : Int) (vals : List ByteArray) (A : Option Addr) (n : Nat) (seed : ByteArray) (z : Int) (e : Ending) (w' : World) : Prop :=
  (spl2E q s need count vals seed z = 0 ∧ ∃ A' c' At ct, e = .returned (.tuple #[.slice A' count.toNat c', .agg #[.slice At n ct, .string seed, .int .i64 (z + ((need.toNat - 1 : Nat) : Int))], .int .i64 0]) ∧ SLs w' w'.heap.size A' (shrL (num q) count.toNat (num s :: coinsL vals seed (num q) z (need.toNat - 1))) ∧ SLs w' w'.heap.size At vals ∧ AtOld A At k) ∨
  (spl2E q s need count vals seed z ≠ 0 ∧ e = splNil (spl2E q s need count vals seed z))
theorem splE_zero {q s : ByteArray} {need count : Int} {vals : List ByteArray} {z : Int} (h : splE q s need count vals z = 0) :
    goodT vals z = true ∧ isE q = 0 ∧ s = B (num s) ∧ num s < num q ∧ 1 ≤ need ∧ need ≤ count ∧ count ≤ 255 ∧ count.toNat < num q := by
  unfold splE at h
  cases hg : goodT vals z
  · rw [hg, if_neg (by decide)] at h; cases h
  · rw [hg, if_pos rfl] at h
    by_cases hsh : shE q [[s]] = 0
    · rw [if_pos hsh] at h
      obtain ⟨hv, hE⟩ := shE_zero hsh
      have hQ := isE_zero hE
      have hvs : [s].all valid = true := hv [s] (by simp)
      by_cases hb : blwS q [s] = true
      · rw [if_pos hb] at h
        have hnb := blw_nums hQ hvs hb
        by_cases hc : need < 1 ∨ count < need ∨ 255 < count ∨ ¬ natCmp (B count.toNat) q < 0
        · rw [if_pos hc] at h; cases h
        · have c4 : natCmp (B count.toNat) q < 0 := by
            apply Decidable.byContradiction
            intro hx
            exact hc (.inr (.inr (.inr hx)))
          have hvq : valid q = true := by rw [hQ.eq]; exact valid_B (u64_lt_lim hQ.lt)
          have c5 := (natCmp_lt (valid_B (k_lim (by omega))) hvq).1 c4
          rw [num_B] at c5
          have hs1 := hnb.1
          simp at hs1
          exact ⟨rfl, hE, hs1, hnb.2 (num s) (by simp), by omega, by omega, by omega, c5⟩
      · rw [if_neg hb] at h; cases h
    · rw [if_neg hsh] at h; exact absurd h hsh
theorem splE_split {q s : ByteArray} {need count : Int} {vals : List ByteArray} {seed : ByteArray} {z : Int} {A : Option Addr} {n k : Nat} {e : Ending} {w' : World} (h0 : splE q s need count vals z = 0)
    (h : splPost k (num q) (num s) need.toNat count.toNat vals A n seed z e w') : splitPost k q s need count vals A n seed z e w' := by
  have hv : spl2E q s need count vals seed z = manyE vals seed z (num q) (need.toNat - 1) := by unfold spl2E; rw [if_pos h0]
  rcases h with ⟨h1, h2⟩ | ⟨h1, h2⟩
  · exact .inl ⟨hv.trans h1, h2⟩
  · exact .inr ⟨by rw [hv]; exact h1, by rw [hv]; exact h2⟩
theorem shamir_Split_all (q s : ByteArray) (need count : Int) (vals : List ByteArray) (A : Option Addr) (n c : Nat) (seed : ByteArray) (z : Int) (w : World)
    (hn : vals.length = n) (hm : n ≤ 1000) (h : SLs w w.heap.size A vals) (hs : seed.size ≤ 100000) (hT10 : Tab10 w) (hT : Tab w) :
    Calls Tryz.prog 8 #[.string q, .string s, .int .i64 need, .int .i64 count, .agg #[.slice A n c, .string seed, .int .i64 z]] w fun e w' => splitPost w.heap.size q s need count vals A n seed z e w' ∧ Below w.heap.size w w' := by
  by_cases h0 : splE q s need count vals z = 0
  · obtain ⟨hg, hE, hsB, hsq, h1, h2, h3, h4⟩ := splE_zero h0
    have hQ := isE_zero hE
    have hqB := hQ.eq
    rw [hqB] at hE
    have := shamir_SplitG (num q) (num s) need.toNat count.toNat vals A n c seed z w hE hsq (by omega) (by omega) (by omega) h4 hn hm h hg hs hT10 hT
    rw [← hqB, ← hsB, Int.toNat_of_nonneg (by omega), Int.toNat_of_nonneg (by omega)] at this
    exact this.mono (fun e w' ⟨hp, hb⟩ => ⟨splE_split h0 hp, hb⟩)
  · have hv : spl2E q s need count vals seed z = splE q s need count vals z := by unfold spl2E; rw [if_neg h0]
    exact (shamir_Split_err q s need count vals A n c seed z w hn hm h hs hT10 hT h0).mono (fun e w' ⟨hp, hb⟩ => ⟨.inr ⟨by rw [hv]; exact h0, by rw [hv]; exact hp⟩, hb⟩)
/-- A sharing and a tape in their boxes. -/
structure ShB (w wx : World) (q s : ByteArray) (need count : Int) (A : Option Addr) (n c : Nat) (seed : ByteArray) (z : Int) : Prop where
  c0 : wx.cell? ⟨w.heap.size, 0, none⟩ = some (.string q)
  c1 : wx.cell? ⟨w.heap.size, 1, none⟩ = some (.string s)
  c2 : wx.cell? ⟨w.heap.size, 2, none⟩ = some (.int .i64 need)
  c3 : wx.cell? ⟨w.heap.size, 3, none⟩ = some (.int .i64 count)
  t0 : wx.cell? ⟨w.heap.size + 1, 0, none⟩ = some (.slice A n c)
  t1 : wx.cell? ⟨w.heap.size + 1, 1, none⟩ = some (.string seed)
  t2 : wx.cell? ⟨w.heap.size + 1, 2, none⟩ = some (.int .i64 z)
  bel : Below w.heap.size w wx
section
variable {w wx wy : World} {q s : ByteArray} {need count : Int} {A : Option Addr} {n c : Nat} {seed : ByteArray} {z : Int}
theorem ShB.next (h : ShB w wx q s need count A n c seed z) (hb : Below wx.heap.size wx wy) : ShB w wy q s need count A n c seed z := by
  have l1 : w.heap.size + 1 < wx.heap.size := cell_in (a := ⟨w.heap.size + 1, 0, none⟩) h.t0
  have l0 : w.heap.size < wx.heap.size := by omega
  exact ⟨(hb.cell (p := ⟨w.heap.size, 0, none⟩) l0).trans h.c0, (hb.cell (p := ⟨w.heap.size, 1, none⟩) l0).trans h.c1, (hb.cell (p := ⟨w.heap.size, 2, none⟩) l0).trans h.c2, (hb.cell (p := ⟨w.heap.size, 3, none⟩) l0).trans h.c3,
    (hb.cell (p := ⟨w.heap.size + 1, 0, none⟩) l1).trans h.t0, (hb.cell (p := ⟨w.heap.size + 1, 1, none⟩) l1).trans h.t1, (hb.cell (p := ⟨w.heap.size + 1, 2, none⟩) l1).trans h.t2, below2 h.bel hb⟩
theorem ShB.alloc (h : ShB w wx q s need count A n c seed z) (o : Obj) : ShB w (wx.alloc o) q s need count A n c seed z := h.next ((Below.refl _ _).alloc (Nat.le_refl _) o)
theorem ShB.start (w : World) (q s : ByteArray) (need count : Int) (A : Option Addr) (n c : Nat) (seed : ByteArray) (z : Int) (T1 T2 : TypeId) :
    ShB w ((w.alloc (.cells #[.string q, .string s, .int .i64 need, .int .i64 count] T1)).alloc (.cells #[.slice A n c, .string seed, .int .i64 z] T2)) q s need count A n c seed z :=
  ⟨by simp [go_sem], by simp [go_sem], by simp [go_sem], by simp [go_sem], by simp [go_sem], by simp [go_sem], by simp [go_sem], ((Below.refl _ _).alloc (Nat.le_refl _) _).alloc (by rw [World.size_alloc]; omega) _⟩
end
/-- A tape in a box. -/
structure TpB (wx : World) (g : Nat) (A : Option Addr) (n c : Nat) (seed : ByteArray) (z : Int) : Prop where
  x0 : wx.cell? ⟨g, 0, none⟩ = some (.slice A n c)
  x1 : wx.cell? ⟨g, 1, none⟩ = some (.string seed)
  x2 : wx.cell? ⟨g, 2, none⟩ = some (.int .i64 z)
theorem TpB.start (w : World) (A : Option Addr) (n c : Nat) (seed : ByteArray) (z : Int) (T : TypeId) : TpB (w.alloc (.cells #[.slice A n c, .string seed, .int .i64 z] T)) w.heap.size A n c seed z :=
  ⟨by simp [go_sem], by simp [go_sem], by simp [go_sem]⟩
theorem TpB.next {wx wy : World} {g : Nat} {A : Option Addr} {n c : Nat} {seed : ByteArray} {z : Int} (h : TpB wx g A n c seed z) (hb : Below wx.heap.size wx wy) : TpB wy g A n c seed z := by
  have l : g < wx.heap.size := cell_in (a := ⟨g, 0, none⟩) h.x0
  exact ⟨(hb.cell (p := ⟨g, 0, none⟩) l).trans h.x0, (hb.cell (p := ⟨g, 1, none⟩) l).trans h.x1, (hb.cell (p := ⟨g, 2, none⟩) l).trans h.x2⟩
end Go.Proofs.YtapplggboepfaaaGreatDoor
