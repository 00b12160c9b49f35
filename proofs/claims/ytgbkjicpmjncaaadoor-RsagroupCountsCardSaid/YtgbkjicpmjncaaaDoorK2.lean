/- RsagroupCounts: what the calls answer in a good group of modulus up to 1000; the row of counts in memory. -/
import Derived.Test.YtgbkjicpmjncaaaDoorK1
import Derived.Test.YtgbkjicpmjncaaaDoorLc
namespace Go.Proofs.YtgbkjicpmjncaaaDoor
open Go.RowKit
set_option maxRecDepth 100000
set_option linter.unusedVariables false
set_option maxHeartbeats 400000

theorem madeCells_ints (n : Nat) : madeCells #[Value.int .i64 0] n = intCells (List.replicate n 0) := by
  apply Array.ext
  · simp [madeCells, intCells]
  · intro i h1 h2
    simp [madeCells, intCells, Nat.mod_one]
/-- 'make([]int, n)' for a machine word n. -/
theorem make_ints (n : Nat) (h : n ≤ 1000000) (w : World) : (Instr.makeSlice 43 (.int .u64 (n : Int)) (.int .u64 (n : Int))).run Tryd.prog w =
    .ok (.slice (some ⟨w.heap.size, 0, none⟩) n n) (w.alloc (.cells (intCells (List.replicate n 0)) 3)) := by
  rw [← madeCells_ints]
  exact run_make_row' 43 3 (.int .i64 0) 8 Tryd.underlying43 i64_info rfl .u64 .u64 n (by omega) (by omega) w
theorem Ck.newL (w : World) (T : TypeId) (L : List Nat) : Ck (w.alloc (.cells (intCells L) T)) w.heap.size T L := heap_alloc_new w _
/-- The row of counts in memory. -/
def RowS (w : World) (r n S : Nat) : Prop := ∃ L : List Nat, Ck w r 3 L ∧ L.length = n ∧ ∀ j, j < n → L.getD j 0 = dig S j
theorem RowS.new (w : World) (n : Nat) : RowS (w.alloc (.cells (intCells (List.replicate n 0)) 3)) w.heap.size n 0 :=
  ⟨_, Ck.newL w 3 _, by simp, fun j hj => by rw [dig_zero, List.getD, List.getElem?_replicate, if_pos hj]; rfl⟩
theorem RowS.lt {w : World} {r n S : Nat} (h : RowS w r n S) : r < w.heap.size := by
  obtain ⟨L, h, _, _⟩ := h
  exact h.lt
theorem RowS.next {w w' : World} {r n S : Nat} (h : RowS w r n S) (hb : Below w.heap.size w w') : RowS w' r n S := by
  obtain ⟨L, h, h2, h3⟩ := h
  exact ⟨L, h.below hb h.lt, h2, h3⟩
theorem RowS.cell {w : World} {r n S : Nat} (h : RowS w r n S) {i : Nat} (hi : i < n) : w.cell? ⟨r, i, none⟩ = some (.int .i64 (dig S i : Nat)) := by
  obtain ⟨L, h, h2, h3⟩ := h
  rw [h.cell (by omega), h3 i hi]
theorem RowS.free {w : World} {r n S : Nat} (h : RowS w r n S) (i : Nat) : w.frozen? ⟨r, i, none⟩ = false := by
  obtain ⟨L, h, h2, h3⟩ := h
  exact h.free i
theorem RowS.set {w : World} {r n S S' : Nat} (h : RowS w r n S) {i c : Nat} (hi : i < n) (hS : ∀ j, dig S' j = if j = i then c else dig S j) : RowS (w.setCell ⟨r, i, none⟩ (.int .i64 c)) r n S' := by
  obtain ⟨L, h, h2, h3⟩ := h
  refine ⟨L.set i c, h.set i c, by rw [List.length_set, h2], fun j hj => ?_⟩
  rw [hS j]
  by_cases e : j = i
  · subst e
    rw [if_pos rfl]
    simp [List.getD, h2, hi]
  · rw [if_neg e, ← h3 j hj]
    simp [List.getD, Ne.symm e]
/-- The boxes of the law's arguments. -/
structure CtAt (w : World) (m o p q : ByteArray) (wx : World) : Prop where
  c0 : wx.cell? ⟨w.heap.size, 0, none⟩ = some (.string m)
  c1 : wx.cell? ⟨w.heap.size, 1, none⟩ = some (.string o)
  d0 : wx.cell? ⟨w.heap.size + 1, 0, none⟩ = some (.string p)
  d1 : wx.cell? ⟨w.heap.size + 1, 1, none⟩ = some (.string q)
  tab : Tab wx
  below : Below w.heap.size w wx
  size : w.heap.size + 1 < wx.heap.size
theorem CtAt.next {w wx w' : World} {m o p q : ByteArray} (h : CtAt w m o p q wx) (hb : Below wx.heap.size wx w') : CtAt w m o p q w' := by
  have hz := h.size
  exact ⟨(hb.cell (p := ⟨w.heap.size, 0, none⟩) (by show w.heap.size < _; omega)).trans h.c0, (hb.cell (p := ⟨w.heap.size, 1, none⟩) (by show w.heap.size < _; omega)).trans h.c1, (hb.cell (p := ⟨w.heap.size + 1, 0, none⟩) hz).trans h.d0, (hb.cell (p := ⟨w.heap.size + 1, 1, none⟩) hz).trans h.d1, h.tab.below hb, below2 h.below hb, by have := hb.size; omega⟩
theorem CtAt.set {w wx : World} {m o p q : ByteArray} (h : CtAt w m o p q wx) (h0 : Tab w) {r i : Nat} (hr : w.heap.size + 1 < r) (v : Value) : CtAt w m o p q (wx.setCell ⟨r, i, none⟩ v) := by
  have hb : Below r wx (wx.setCell ⟨r, i, none⟩ v) := Below.setCell (Below.refl r wx) (p := ⟨r, i, none⟩) (Nat.le_refl r) v
  have hz := h.size
  have ht := h0.lt
  exact ⟨(hb.cell (p := ⟨w.heap.size, 0, none⟩) (by show w.heap.size < _; omega)).trans h.c0, (hb.cell (p := ⟨w.heap.size, 1, none⟩) (by show w.heap.size < _; omega)).trans h.c1, (hb.cell (p := ⟨w.heap.size + 1, 0, none⟩) hr).trans h.d0, (hb.cell (p := ⟨w.heap.size + 1, 1, none⟩) hr).trans h.d1, h.tab.setCell (by show _ < r; omega) v, h.below.setCell (by show _ ≤ r; omega) v, by simpa using hz⟩
/-- What the calls answer in a good group. -/
structure Good (m o p q : ByteArray) (n P Q M : Nat) : Prop where
  small : natSmall m = (n, true)
  n1000 : n ≤ 1000
  n8 : 8 < n
  mle : M ≤ 1000
  has : ∀ x, 0 < x → x < n → hasS m o (B x) = decide (Nat.gcd x n = 1)
  sq : ∀ x, 0 < x → x < n → Nat.gcd x n = 1 → isSquareS m o p q (B x) = (sqB x P Q, 0)
  gen : ∀ x, 0 < x → x < n → Nat.gcd x n = 1 → isGenS m o p q (B x) = (genB x P Q, 0)
  order : orderS p q = (B M, 0)
  counts : loop1 n P Q M (n - 1) 1 0 = true
theorem good_of {m o p q : ByteArray} (sm : m.size ≤ 8) (hn : num m ≤ 1000) (hc : checkS m o p q = 0) : Good m o p q (num m) (num p) (num q) ((num p - 1) / 2 * ((num q - 1) / 2)) := by
  obtain ⟨⟨vm, vp, vq⟩, hg, ht, hm2, hme⟩ := checkS_zero hc
  obtain ⟨tp, tq, hne⟩ := trapS_zero ht
  obtain ⟨_, p2, _, sp1, sp2⟩ := safeS_zero tp.1 tp.2
  obtain ⟨_, q2, _, sq1, sq2⟩ := safeS_zero tq.1 tq.2
  have hnb := good_big hg
  have hmul : num m = num p * num q := by
    have h1 : natMul p q = fitted (num p * num q) := by unfold natMul; rw [vp, vq]; rfl
    rw [h1] at hm2 hme
    unfold fitted at hm2 hme
    split at hm2
    · rename_i hlt
      rw [if_pos hlt] at hme
      rw [← B_num vm, B_beq] at hme
      exact (of_decide_eq_true hme).symm
    · cases hm2
  have hpq : num p ≠ num q := by
    intro e
    rw [← B_num vp, ← B_num vq, e] at hne
    simp at hne
  have hM : (num p - 1) / 2 * ((num q - 1) / 2) ≤ num p * num q := Nat.mul_le_mul (by omega) (by omega)
  have hhas : ∀ x, 0 < x → x < num m → hasS m o (B x) = decide (Nat.gcd x (num m) = 1) := by
    intro x hx hxl
    have hlim : x < lim := u64_lt_lim (by omega)
    unfold hasS
    rw [hg, valid_B hlim, B_isEmpty_false (by omega), num_B]
    have hcm : natCmp (B x) m < 0 := by
      have hv := goodS_valid hg
      rw [← B_num hv, natCmp_BB hlim (valid_num_lt hv)]
      exact cmpN_neg.2 hxl
    rw [decide_eq_true hcm]
    rfl
  have hel : ∀ x, 0 < x → x < num m → Nat.gcd x (num m) = 1 → elementS m o p q (B x) = 0 := by
    intro x hx hxl hgc
    unfold elementS
    rw [valid_B (u64_lt_lim (by omega)), hc, hhas x hx hxl, decide_eq_true hgc]
    rfl
  refine ⟨?_, hn, hnb, by omega, hhas, ?_, ?_, ?_, ?_⟩
  · unfold natSmall
    rw [vm, decide_eq_true sm]
    rfl
  · intro x hx hxl hgc
    unfold isSquareS
    rw [hel x hx hxl hgc, num_B]
    rfl
  · intro x hx hxl hgc
    unfold isGenS
    rw [hel x hx hxl hgc, num_B]
    rfl
  · unfold orderS
    rw [vp, vq, ht]
    rw [if_pos (by rfl), if_pos rfl]
    unfold natMul
    have l1 : (num p - 1) / 2 < lim := u64_lt_lim (by have := natSmall_bound m sm; have := Nat.mul_le_mul_left (num p) q2; omega)
    have l2 : (num q - 1) / 2 < lim := u64_lt_lim (by have := natSmall_bound m sm; have := Nat.mul_le_mul_right (num q) p2; omega)
    rw [valid_B l1, valid_B l2, num_B, num_B]
    unfold fitted
    have l3 : (num p - 1) / 2 * ((num q - 1) / 2) < lim := u64_lt_lim (by omega)
    simp [l3]
  · have := counted_of (p := num p) (q := num q) (by unfold safeN; rw [sp1, sp2]; rfl) (by unfold safeN; rw [sq1, sq2]; rfl) p2 q2 hpq (by omega)
    unfold counted at this
    rw [← hmul] at this
    exact this

end Go.Proofs.YtgbkjicpmjncaaaDoor
