/- Wallet: use (words). -/
import Derived.Test.YtlheedcnmfekoaaXe
namespace Go.Proofs.Ytlheedcnmfekoaa
open Go.RowKit
set_option maxRecDepth 100000
set_option linter.unusedVariables false
set_option maxHeartbeats 4000000

/-- A count is set. -/
def putU (u : Uz) : List Uz → List Uz
  | [] => [u]
  | x :: r => if isU u.1 u.2.1 x = true then u :: r else x :: putU u r
theorem putU_none {u : Uz} {us : List Uz} (h : us.find? (isU u.1 u.2.1) = none) : putU u us = us ++ [u] := by
  induction us with
  | nil => rfl
  | cons x r ih =>
    rw [List.find?_cons] at h
    unfold putU
    cases hx : isU u.1 u.2.1 x
    · rw [hx] at h; rw [ih h]; rfl
    · rw [hx] at h; cases h
theorem putU_some {u x : Uz} {us : List Uz} (h : us.find? (isU u.1 u.2.1) = some x) (k : Nat) : ∃ i : Nat, idxU (isU u.1 u.2.1) us k = ((k + i : Nat) : Int) ∧ i < us.length ∧ putU u us = us.set i u := by
  induction us generalizing k with
  | nil => cases h
  | cons y r ih =>
    rw [List.find?_cons] at h
    unfold idxU putU
    cases hy : isU u.1 u.2.1 y
    · rw [hy] at h
      obtain ⟨i, h1, h2, h3⟩ := ih h (k + 1)
      refine ⟨i + 1, ?_, ?_, ?_⟩
      · simp only [Bool.false_eq_true, if_false]; rw [h1]; congr 1; omega
      · simpa using h2
      · simp only [Bool.false_eq_true, if_false]; rw [h3]; rfl
    · refine ⟨0, by simp, by simp, by simp⟩
theorem putU_len (u : Uz) (us : List Uz) : (putU u us).length ≤ us.length + 1 := by
  induction us with
  | nil => simp [putU]
  | cons x r ih =>
    unfold putU
    split
    · simp
    · simp only [List.length_cons]; omega
theorem cellsU_app (a b : List Uz) : cellsU (a ++ b) = cellsU a ++ cellsU b := by
  induction a with
  | nil => rfl
  | cons x r ih => obtain ⟨s, p, c⟩ := x; simp only [List.cons_append, cellsU, ih]
theorem cellsU_set {us : List Uz} {i : Nat} (hi : i < us.length) (s : ByteArray) (p c : Int) : (((cellsU us).set (i * 3) (.string s)).set (i * 3 + 1) (.int .i64 p)).set (i * 3 + 2) (.int .i64 c) = cellsU (us.set i (s, p, c)) := by
  induction us generalizing i with
  | nil => simp at hi
  | cons x r ih =>
    obtain ⟨s', p', c'⟩ := x
    cases i with
    | zero => rfl
    | succ i =>
      have e1 : (i + 1) * 3 = i * 3 + 1 + 1 + 1 := by omega
      rw [e1]
      simp only [cellsU, List.set_cons_succ, List.cons.injEq, true_and]
      exact ih (by simpa using hi)

/-- The boxes of use: the wallet, the count, the result. -/
structure UsB (w : World) (sec : ByteArray) (Aa : Option Addr) (na ca : Nat) (Ah : Option Addr) (nh ch : Nat) (Au : Option Addr) (nu cu : Nat) (s : ByteArray) (p c : Int) (wx : World) : Prop where
  box : wx.heap[w.heap.size]? = some (.cells #[.string sec, .slice Aa na ca, .slice Ah nh ch, .slice Au nu cu] 28 (0, 0))
  arg : wx.heap[w.heap.size + 1]? = some (.cells #[.string s, .int .i64 p, .int .i64 c] 56 (0, 0))
  res : wx.heap[w.heap.size + 1 + 1]? = some (.cells #[.string ⟨#[]⟩, .slice none 0 0, .slice none 0 0, .slice none 0 0] 28 (0, 0))
  bel : Below w.heap.size w wx
  size : w.heap.size + 3 ≤ wx.heap.size
section
variable {w wx w' : World} {sec : ByteArray} {Aa : Option Addr} {na ca : Nat} {Ah : Option Addr} {nh ch : Nat} {Au : Option Addr} {nu cu : Nat} {s : ByteArray} {p c : Int}
theorem UsB.start : UsB w sec Aa na ca Ah nh ch Au nu cu s p c (((w.alloc (.cells #[.string sec, .slice Aa na ca, .slice Ah nh ch, .slice Au nu cu] 28)).alloc (.cells #[.string s, .int .i64 p, .int .i64 c] 56)).alloc (.cells #[.string ⟨#[]⟩, .slice none 0 0, .slice none 0 0, .slice none 0 0] 28)) :=
  ⟨(Below.heap_alloc _ _ _ (by simp; omega)).trans (two_boxes w _ _).1, (Below.heap_alloc _ _ _ (by simp)).trans (two_boxes w _ _).2, by have := heap_alloc_new ((w.alloc (.cells #[.string sec, .slice Aa na ca, .slice Ah nh ch, .slice Au nu cu] 28)).alloc (.cells #[.string s, .int .i64 p, .int .i64 c] 56)) (.cells #[.string ⟨#[]⟩, .slice none 0 0, .slice none 0 0, .slice none 0 0] 28); rwa [World.size_alloc, World.size_alloc] at this, (((Below.refl _ _).alloc (Nat.le_refl _) _).alloc (by simp) _).alloc (by simp; omega) _, by simp⟩
theorem UsB.next (h : UsB w sec Aa na ca Ah nh ch Au nu cu s p c wx) (hb : Below wx.heap.size wx w') : UsB w sec Aa na ca Ah nh ch Au nu cu s p c w' :=
  ⟨(hb.block _ (by have := h.size; omega)).trans h.box, (hb.block _ (by have := h.size; omega)).trans h.arg, (hb.block _ (by have := h.size; omega)).trans h.res, below2 h.bel hb, Nat.le_trans h.size hb.size⟩
theorem UsB.drew (h : UsB w sec Aa na ca Ah nh ch Au nu cu s p c wx) : UsB w sec Aa na ca Ah nh ch Au nu cu s p c wx.drew := h.next (Below.refl _ _).drew
theorem UsB.bc (h : UsB w sec Aa na ca Ah nh ch Au nu cu s p c wx) : (wx.cell? ⟨w.heap.size, 0, none⟩ = some (.string sec) ∧ wx.cell? ⟨w.heap.size, 1, none⟩ = some (.slice Aa na ca) ∧ wx.cell? ⟨w.heap.size, 2, none⟩ = some (.slice Ah nh ch) ∧ wx.cell? ⟨w.heap.size, 3, none⟩ = some (.slice Au nu cu)) ∧ (wx.frozen? ⟨w.heap.size, 0, none⟩ = false ∧ wx.frozen? ⟨w.heap.size, 1, none⟩ = false ∧ wx.frozen? ⟨w.heap.size, 2, none⟩ = false ∧ wx.frozen? ⟨w.heap.size, 3, none⟩ = false) :=
  ⟨⟨cell_of_row wx _ 0 _ _ _ h.box, cell_of_row wx _ 1 _ _ _ h.box, cell_of_row wx _ 2 _ _ _ h.box, cell_of_row wx _ 3 _ _ _ h.box⟩, frozen_of_row wx _ 0 _ _ h.box, frozen_of_row wx _ 1 _ _ h.box, frozen_of_row wx _ 2 _ _ h.box, frozen_of_row wx _ 3 _ _ h.box⟩
theorem UsB.ac (h : UsB w sec Aa na ca Ah nh ch Au nu cu s p c wx) : wx.cell? ⟨w.heap.size + 1, 0, none⟩ = some (.string s) ∧ wx.cell? ⟨w.heap.size + 1, 1, none⟩ = some (.int .i64 p) ∧ wx.cell? ⟨w.heap.size + 1, 2, none⟩ = some (.int .i64 c) :=
  ⟨cell_of_row wx _ 0 _ _ _ h.arg, cell_of_row wx _ 1 _ _ _ h.arg, cell_of_row wx _ 2 _ _ _ h.arg⟩
theorem UsB.rc (h : UsB w sec Aa na ca Ah nh ch Au nu cu s p c wx) : (wx.cell? ⟨w.heap.size + 1 + 1, 0, none⟩ = some (.string ⟨#[]⟩) ∧ wx.cell? ⟨w.heap.size + 1 + 1, 1, none⟩ = some (.slice none 0 0) ∧ wx.cell? ⟨w.heap.size + 1 + 1, 2, none⟩ = some (.slice none 0 0) ∧ wx.cell? ⟨w.heap.size + 1 + 1, 3, none⟩ = some (.slice none 0 0)) ∧ (wx.frozen? ⟨w.heap.size + 1 + 1, 0, none⟩ = false ∧ wx.frozen? ⟨w.heap.size + 1 + 1, 1, none⟩ = false ∧ wx.frozen? ⟨w.heap.size + 1 + 1, 2, none⟩ = false ∧ wx.frozen? ⟨w.heap.size + 1 + 1, 3, none⟩ = false) :=
  ⟨⟨cell_of_row wx _ 0 _ _ _ h.res, cell_of_row wx _ 1 _ _ _ h.res, cell_of_row wx _ 2 _ _ _ h.res, cell_of_row wx _ 3 _ _ _ h.res⟩, frozen_of_row wx _ 0 _ _ h.res, frozen_of_row wx _ 1 _ _ h.res, frozen_of_row wx _ 2 _ _ h.res, frozen_of_row wx _ 3 _ _ h.res⟩
/-- The box is written anew. -/
theorem UsB.put {A1 A2 A3 : Option Addr} {n1 n2 n3 c1 c2 c3 : Nat} (h : UsB w sec Aa na ca Ah nh ch Au nu cu s p c wx) (sec' : ByteArray) :
    UsB w sec' A1 n1 c1 A2 n2 c2 A3 n3 c3 s p c ((((wx.setCell ⟨w.heap.size, 0, none⟩ (.string sec')).setCell ⟨w.heap.size, 1, none⟩ (.slice A1 n1 c1)).setCell ⟨w.heap.size, 2, none⟩ (.slice A2 n2 c2)).setCell ⟨w.heap.size, 3, none⟩ (.slice A3 n3 c3)) := by
  have hne1 : w.heap.size + 1 ≠ w.heap.size := by omega
  have hne2 : w.heap.size + 1 + 1 ≠ w.heap.size := by omega
  refine ⟨?_, ?_, ?_, (((h.bel.setCell (p := ⟨w.heap.size, 0, none⟩) (Nat.le_refl _) _).setCell (p := ⟨w.heap.size, 1, none⟩) (Nat.le_refl _) _).setCell (p := ⟨w.heap.size, 2, none⟩) (Nat.le_refl _) _).setCell (p := ⟨w.heap.size, 3, none⟩) (Nat.le_refl _) _, by simpa using h.size⟩
  · have e0 := heap_setCell_same wx w.heap.size 0 _ _ (.string sec') h.box
    have e1 := heap_setCell_same _ w.heap.size 1 _ _ (.slice A1 n1 c1) e0
    have e2 := heap_setCell_same _ w.heap.size 2 _ _ (.slice A2 n2 c2) e1
    have e3 := heap_setCell_same _ w.heap.size 3 _ _ (.slice A3 n3 c3) e2
    exact e3
  · rw [heap_setCell_other _ _ _ _ hne1, heap_setCell_other _ _ _ _ hne1, heap_setCell_other _ _ _ _ hne1, heap_setCell_other _ _ _ _ hne1]
    exact h.arg
  · rw [heap_setCell_other _ _ _ _ hne2, heap_setCell_other _ _ _ _ hne2, heap_setCell_other _ _ _ _ hne2, heap_setCell_other _ _ _ _ hne2]
    exact h.res
end
/-- A wallet of the call's own is not touched by stores below its base. -/
theorem OwnW.set {w : World} {base : Nat} {qs : List Az} {hs : List Hz} {us : List Uz} {vA vH vU : Value} (h : OwnW w base qs hs us vA vH vU) {a : Addr} (ha : a.block < base) (u : Value) : OwnW (w.setCell a u) base qs hs us vA vH vU := by
  have hne : ∀ {e : TypeId} {size : Nat} {v : Value} {n : Nat} {xs : List Value}, w.ownsRow base e size v n xs → (w.setCell a u).ownsRow base e size v n xs := fun {e size v n xs} o => owns_set o (fun e => by have := (o.lt _ e).1; omega) _
  obtain ⟨L, h1, h2⟩ := h.h
  exact ⟨hne h.a, ⟨L, hne h1, (h2.keep fun p hp => World.cell?_setCell_other _ _ _ _ (fun e => by have := congrArg Addr.block e; have := hp.1; omega)).mono fun g hg => by simpa using hg⟩, hne h.u, h.ah, h.au, h.hu⟩
theorem OwnW.next {w w' : World} {base : Nat} {qs : List Az} {hs : List Hz} {us : List Uz} {vA vH vU : Value} (h : OwnW w base qs hs us vA vH vU) (hb : Below w.heap.size w w') : OwnW w' base qs hs us vA vH vU := by
  obtain ⟨L, h1, h2⟩ := h.h
  exact ⟨owns_below h.a hb, ⟨L, owns_below h1 hb, (h2.keep fun p hp => hb.cell hp.2.1).mono fun g hg => ⟨hg.1, Nat.lt_of_lt_of_le hg.2.1 hb.size, hg.2.2⟩⟩, owns_below h.u hb, h.ah, h.au, h.hu⟩
theorem OwnW.mono {w : World} {base base' : Nat} {qs : List Az} {hs : List Hz} {us : List Uz} {vA vH vU : Value} (h : OwnW w base qs hs us vA vH vU) (hb : base' ≤ base) : OwnW w base' qs hs us vA vH vU := by
  obtain ⟨L, h1, h2⟩ := h.h
  exact ⟨owns_mono h.a hb, ⟨L, owns_mono h1 hb, h2.mono fun g hg => ⟨Nat.le_trans hb hg.1, hg.2⟩⟩, owns_mono h.u hb, h.ah, h.au, h.hu⟩
/-- The row of counts has grown. -/
theorem OwnW.appU {w w' : World} {base : Nat} {qs : List Az} {hs : List Hz} {us us' : List Uz} {vA vH vU vU' : Value} (h : OwnW w base qs hs us vA vH vU) (o : w'.ownsRow base 56 3 vU' us'.length (cellsU us')) (hg : w.grownBy w' vU.ownBlock) (hv : vU'.ownBlock = vU.ownBlock ∨ vU'.ownBlock = some w.heap.size) : OwnW w' base qs hs us' vA vH vU' := by
  obtain ⟨L, h1, h2⟩ := h.h
  have hnew : ∀ g, g < w.heap.size → vU.ownBlock ≠ some g → vU'.ownBlock ≠ some g := fun g hl hn e => by
    rcases hv with hv | hv
    · rw [hv] at e; exact hn e
    · rw [hv] at e; injection e with e; omega
  refine ⟨owns_grown h.a hg (fun g e1 e2 => h.au g e1 e2), ⟨L, owns_grown h1 hg (fun g e1 e2 => h.hu g e1 e2), (h2.keep fun p hp => World.cell?_of_block (hg.block p.block hp.2.1 (fun e => hp.2.2.2.2 e.symm))).mono fun g hp => ⟨hp.1, Nat.lt_of_lt_of_le hp.2.1 hg.size, hp.2.2.1, hp.2.2.2.1, hnew g hp.2.1 hp.2.2.2.2⟩⟩, o, h.ah, fun g e => hnew g (h.a.lt _ e).2 (h.au g e), fun g e => hnew g (h1.lt _ e).2 (h.hu g e)⟩
/-- A count in the row is written anew. -/
theorem OwnW.setU {w : World} {base : Nat} {qs : List Az} {hs : List Hz} {us : List Uz} {vA vH : Value} {g n cap : Nat} (h : OwnW w base qs hs us vA vH (.slice (some ⟨g, 0, none⟩) n cap)) (hn : us.length = n) {i : Nat} (hi : i < us.length) (s : ByteArray) (p c : Int) :
    OwnW (((w.setCell ⟨g, i * 3, none⟩ (.string s)).setCell ⟨g, i * 3 + 1, none⟩ (.int .i64 p)).setCell ⟨g, i * 3 + 2, none⟩ (.int .i64 c)) base qs hs (us.set i (s, p, c)) vA vH (.slice (some ⟨g, 0, none⟩) n cap) := by
  subst hn
  have hu := h.u
  have s1 := hu.stored (i * 3) (.string s)
  have s2 := s1.1.stored (i * 3 + 1) (.int .i64 p)
  have s3 := s2.1.stored (i * 3 + 2) (.int .i64 c)
  rw [cellsU_set hi] at s3
  have hg : w.grownBy (((w.setCell ⟨g, i * 3, none⟩ (.string s)).setCell ⟨g, i * 3 + 1, none⟩ (.int .i64 p)).setCell ⟨g, i * 3 + 2, none⟩ (.int .i64 c)) (some g) := (s1.2.trans s2.2).trans s3.2
  have e : (us.set i (s, p, c)).length = us.length := List.length_set ..
  have o := s3.1
  rw [← e] at o
  have := h.appU (us' := us.set i (s, p, c)) (vU' := .slice (some ⟨g, 0, none⟩) (us.set i (s, p, c)).length cap) o hg (.inl rfl)
  rwa [e] at this

end Go.Proofs.Ytlheedcnmfekoaa
