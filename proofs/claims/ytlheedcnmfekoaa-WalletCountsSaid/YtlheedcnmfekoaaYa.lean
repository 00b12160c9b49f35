/- Encoding: parts of a string; what changes but a reader's box; the length of what is read (plain). -/
import Derived.Test.YtlheedcnmfekoaaWf
import Derived.Test.YtlheedcnmfekoaaWc
namespace Go.Proofs.Ytlheedcnmfekoaa
open Go.RowKit
set_option maxRecDepth 100000
set_option linter.unusedVariables false
set_option maxHeartbeats 4000000

/-- The bytes from a up to e. -/
def seg (s : ByteArray) (a e : Nat) : List UInt8 := (s.data.toList.take e).drop a
section
variable {s : ByteArray} {a e n : Nat}
theorem seg_len (he : e ≤ s.size) : (seg s a e).length = e - a := by
  unfold seg
  rw [List.length_drop, List.length_take, Nat.min_eq_left (by rw [Array.length_toList]; exact he)]
theorem seg_nil (h : e ≤ a) : seg s a e = [] := by
  unfold seg
  exact List.drop_eq_nil_of_le (Nat.le_trans (List.length_take_le _ _) h)
theorem seg_cons (h : a < e) (he : e ≤ s.size) : seg s a e = s[a]'(by omega) :: seg s (a + 1) e := by
  unfold seg
  have hl : a < (s.data.toList.take e).length := by rw [List.length_take, Nat.min_eq_left (by rw [Array.length_toList]; exact he)]; exact h
  rw [List.drop_eq_getElem_cons hl, List.getElem_take]
  rfl
theorem seg_take (h : a + n ≤ e) : (seg s a e).take n = seg s a (a + n) := by
  unfold seg
  rw [List.take_drop, List.take_take, Nat.min_eq_left (by omega)]
theorem seg_drop : (seg s a e).drop n = seg s (a + n) e := by
  unfold seg
  rw [List.drop_drop]
theorem seg_all : seg s 0 s.size = s.data.toList := by
  unfold seg
  rw [List.drop_zero, List.take_of_length_le (by rw [Array.length_toList]; exact Nat.le_refl _)]
theorem seg_extract (h : a ≤ e) (he : e ≤ s.size) : s.extract a e = ⟨(seg s a e).toArray⟩ := by
  unfold seg
  have : (s.extract a e).data = ((s.data.toList.take e).drop a).toArray := by
    rw [ByteArray.data_extract]
    apply Array.toList_inj.1
    simp [List.extract, List.take_drop, show a + (e - a) = e by omega]
  cases hx : s.extract a e
  rw [hx] at this
  simp only at this
  rw [this]
end
/-- What reading a length leaves over is the end of the same part. -/
theorem szS_seg {s : ByteArray} {f k a e n : Nat} {r : List UInt8} (he : e ≤ s.size) (h : szS f k (seg s a e) = some (n, r)) : ∃ a2, a < a2 ∧ a2 ≤ e ∧ r = seg s a2 e := by
  induction f generalizing k a n with
  | zero => simp [szS] at h
  | succ f ih =>
    by_cases hl : a < e
    · rw [seg_cons hl he] at h
      simp only [szS] at h
      split at h
      · cases h
      · split at h
        · simp only [Option.some.injEq, Prod.mk.injEq] at h
          exact ⟨a + 1, by omega, by omega, h.2.symm⟩
        · cases hs : szS f (k + 1) (seg s (a + 1) e) with
          | none => rw [hs] at h; cases h
          | some x =>
            rw [hs] at h
            simp only [Option.some.injEq, Prod.mk.injEq] at h
            obtain ⟨a2, h1, h2, h3⟩ := ih (n := x.1) (k := k + 1) (a := a + 1) (by rw [hs, ← h.2])
            exact ⟨a2, by omega, h2, h3⟩
    · rw [seg_nil (by omega)] at h
      simp [szS] at h
theorem szS_pos {f k n : Nat} {L r : List UInt8} (h : szS f k L = some (n, r)) (hk : 0 < k) : 0 < n := by
  induction f generalizing k L n with
  | zero => simp [szS] at h
  | succ f ih =>
    cases L with
    | nil => simp [szS] at h
    | cons b L =>
      simp only [szS] at h
      split at h
      · cases h
      · rename_i h0
        split at h
        · simp only [Option.some.injEq, Prod.mk.injEq] at h
          have : ¬ (b.toNat = 0 ∧ 0 < k) := h0
          have := h.1
          omega
        · cases hs : szS f (k + 1) L with
          | none => rw [hs] at h; cases h
          | some x =>
            rw [hs] at h
            simp only [Option.some.injEq, Prod.mk.injEq] at h
            have := ih (n := x.1) (k := k + 1) (L := L) (by rw [hs, ← h.2]) (by omega)
            omega
/-- One step: the byte, and either it is the last one or the others follow. -/
theorem szS_step {f k n : Nat} {b : UInt8} {L r : List UInt8} (h : szS (f + 1) k (b :: L) = some (n, r)) : ¬ (b.toNat = 0 ∧ 0 < k) ∧ ((b.toNat < 128 ∧ n = b.toNat ∧ r = L) ∨ (128 ≤ b.toNat ∧ ∃ m, szS f (k + 1) L = some (m, r) ∧ n = b.toNat - 128 + 128 * m)) := by
  simp only [szS] at h
  split at h
  · cases h
  · rename_i h0
    refine ⟨h0, ?_⟩
    split at h
    · rename_i h1
      simp only [Option.some.injEq, Prod.mk.injEq] at h
      exact .inl ⟨h1, h.1.symm, h.2.symm⟩
    · rename_i h1
      cases hs : szS f (k + 1) L with
      | none => rw [hs] at h; cases h
      | some x =>
        rw [hs] at h
        simp only [Option.some.injEq, Prod.mk.injEq] at h
        exact .inr ⟨by omega, x.1, by rw [← h.2], h.1.symm⟩

/-! ### the world but for a box -/
section
variable {w w' : World} {row : Option Nat}
theorem gb_drew : w.grownBy w.drew row := ⟨rfl, rfl, rfl, Nat.le_refl _, fun _ _ _ => rfl⟩
theorem gb_set {rb i : Nat} {u : Value} : w.grownBy (w.setCell ⟨rb, i, none⟩ u) (some rb) := ⟨rfl, rfl, rfl, by simp, fun k _ hk => heap_setCell_other _ _ _ _ (fun e => hk (by rw [e]))⟩
theorem gb_below (h : Below w.heap.size w w') : w.grownBy w' row := ⟨h.os, h.tape, h.output, h.size, fun k hk _ => h.block k hk⟩
theorem gb_refl : w.grownBy w row := World.grownBy.refl w _
theorem gb_cell {p : Addr} {rb : Nat} (h : w.grownBy w' (some rb)) (hp : p.block < w.heap.size) (hr : p.block ≠ rb) : w'.cell? p = w.cell? p := World.cell?_of_block (h.block p.block hp (fun e => hr (by injection e)))
end

end Go.Proofs.Ytlheedcnmfekoaa
