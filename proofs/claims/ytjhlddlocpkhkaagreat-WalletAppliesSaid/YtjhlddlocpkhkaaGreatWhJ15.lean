/- Wallet: use (words). Wallet: use, for every wallet of less than 4096 counts. Wallet: the boxes of a call on a wallet and another struct; rows of requests and credentials that grow or are written. Wallet: ask, for every wallet of less than 4096 requests. wallet.entry. wallet.changed. Wallet, plain: the entries of counts are well. -/
import Derived.Test.YtjhlddlocpkhkaaGreatWhXe
import Derived.Test.YtjhlddlocpkhkaaGreatWhJ05
import Derived.Test.YtjhlddlocpkhkaaGreatWhJ13
import Derived.Test.YtjhlddlocpkhkaaGreatWhWq
namespace Go.Proofs.YtjhlddlocpkhkaaGreat
open Go.RowKit
set_option maxRecDepth 100000
set_option linter.unusedVariables false
set_option maxHeartbeats 4000000
/-- A count is set. -/
def putU (u : Uz) : List Uz → List Uz
  | [] => [u]
  | x :: r => if isU u.1 u.2.1 x = true then u :: r else x :: putU u r
theorem putU_none {u : Uz} {us : List Uz} (h : us.find? (isU u.1 u.2.1) = none) : putU u us = us ++ [u] := by
  induction us with
  | nil => rfl
  | cons x r ih =>
    rw [List.find?_cons] at h
    unfold putU
    cases hx : isU u.1 u.2.1 x
    · rw [hx] at h; rw [ih h]; rfl
    · rw [hx] at h; cases h
theorem putU_some {u x : Uz} {us : List Uz} (h : us.find? (isU u.1 u.2.1) = some x) (k : Nat) : ∃ i : Nat, idxU (isU u.1 u.2.1) us k = ((k + i : Nat) : Int) ∧ i < us.length ∧ putU u us = us.set i u := by
  induction us generalizing k with
  | nil => cases h
  | cons y r ih =>
    rw [List.find?_cons] at h
    unfold idxU putU
    cases hy : isU u.1 u.2.1 y
    · rw [hy] at h
      obtain ⟨i, h1, h2, h3⟩ := ih h (k + 1)
      refine ⟨i + 1, ?_, ?_, ?_⟩
      · simp only [Bool.false_eq_true, if_false]; rw [h1]; congr 1; omega
      · simpa using h2
      · simp only [Bool.false_eq_true, if_false]; rw [h3]; rfl
    · refine ⟨0, by simp, by simp, by simp⟩
theorem putU_len (u : Uz) (us : List Uz) : (putU u us).length ≤ us.length + 1 := by
  induction us with
  | nil => simp [putU]
  | cons x r ih =>
    unfold putU
    split
    · simp
    · simp only [List.length_cons]; omega
theorem cellsU_app (a b : List Uz) : cellsU (a ++ b) = cellsU a ++ cellsU b := by
  induction a with
  | nil => rfl
  | cons x r ih => obtain ⟨s, p, c⟩ := x; simp only [List.cons_append, cellsU, ih]
theorem cellsU_set {us : List Uz} {i : Nat} (hi : i < us.length) (s : ByteArray) (p c : Int) : (((cellsU us).set (i * 3) (.string s)).set (i * 3 + 1) (.int .i64 p)).set (i * 3 + 2) (.int .i64 c) = cellsU (us.set i (s, p, c)) := by
  induction us generalizing i with
  | nil => simp at hi
  | cons x r ih =>
    obtain ⟨s', p', c'⟩ := x
    cases i with
    | zero => rfl
    | succ i =>
      have e1 : (i + 1) * 3 = i * 3 + 1 + 1 + 1 := by omega
      rw [e1]
      simp only [cellsU, List.set_cons_succ, List.cons.injEq, true_and]
      exact ih (by simpa using hi)
/-- The boxes of use: the wallet, the count, the result. -/
structure UsB (w : World) (sec : ByteArray) (Aa : Option Addr) (na ca : Nat) (Ah : Option Addr) (nh ch : Nat) (Au : Option Addr) (nu cu : Nat) (s : ByteArray) (p c : Int) (wx : World) : Prop where
  box : wx.heap[w.heap.size]? = some (.cells #[.string sec, .slice Aa na ca, .slice Ah nh ch, .slice Au nu cu] 27 (0, 0))
  arg : wx.heap[w.heap.size + 1]? = some (.cells #[.string s, .int .i64 p, .int .i64 c] 57 (0, 0))
  res : wx.heap[w.heap.size + 1 + 1]? = some (.cells #[.string ⟨#[]⟩, .slice none 0 0, .slice none 0 0, .slice none 0 0] 27 (0, 0))
  bel : Below w.heap.size w wx
  size : w.heap.size + 3 ≤ wx.heap.size
section
variable {w wx w' : World} {sec : ByteArray} {Aa : Option Addr} {na ca : Nat} {Ah : Option Addr} {nh ch : Nat} {Au : Option Addr} {nu cu : Nat} {s : ByteArray} {p c : Int}
theorem UsB.start : UsB w sec Aa na ca Ah nh ch Au nu cu s p c (((w.alloc (.cells #[.string sec, .slice Aa na ca, .slice Ah nh ch, .slice Au nu cu] 27)).alloc (.cells #[.string s, .int .i64 p, .int .i64 c] 57)).alloc (.cells #[.string ⟨#[]⟩, .slice none 0 0, .slice none 0 0, .slice none 0 0] 27)) :=
  ⟨(Below.heap_alloc _ _ _ (by simp; omega)).trans (two_boxes w _ _).1, (Below.heap_alloc _ _ _ (by simp)).trans (two_boxes w _ _).2, by have := heap_alloc_new ((w.alloc (.cells #[.string sec, .slice Aa na ca, .slice Ah nh ch, .slice Au nu cu] 27)).alloc (.cells #[.string s, .int .i64 p, .int .i64 c] 57)) (.cells #[.string ⟨#[]⟩, .slice none 0 0, .slice none 0 0, .slice none 0 0] 27); rwa [World.size_alloc, World.size_alloc] at this, (((Below.refl _ _).alloc (Nat.le_refl _) _).alloc (by simp) _).alloc (by simp; omega) _, by simp⟩
theorem UsB.next (h : UsB w sec Aa na ca Ah nh ch Au nu cu s p c wx) (hb : Below wx.heap.size wx w') : UsB w sec Aa na ca Ah nh ch Au nu cu s p c w' :=
  ⟨(hb.block _ (by have := h.size; omega)).trans h.box, (hb.block _ (by have := h.size; omega)).trans h.arg, (hb.block _ (by have := h.size; omega)).trans h.res, below2 h.bel hb, Nat.le_trans h.size hb.size⟩
theorem UsB.drew (h : UsB w sec Aa na ca Ah nh ch Au nu cu s p c wx) : UsB w sec Aa na ca Ah nh ch Au nu cu s p c wx.drew := h.next (Below.refl _ _).drew
theorem UsB.bc (h : UsB w sec Aa na ca Ah nh ch Au nu cu s p c wx) : (wx.cell? ⟨w.heap.size, 0, none⟩ = some (.string sec) ∧ wx.cell? ⟨w.heap.size, 1, none⟩ = some (.slice Aa na ca) ∧ wx.cell? ⟨w.heap.size, 2, none⟩ = some (.slice Ah nh ch) ∧ wx.cell? ⟨w.heap.size, 3, none⟩ = some (.slice Au nu cu)) ∧ (wx.frozen? ⟨w.heap.size, 0, none⟩ = false ∧ wx.frozen? ⟨w.heap.size, 1, none⟩ = false ∧ wx.frozen? ⟨w.heap.size, 2, none⟩ = false ∧ wx.frozen? ⟨w.heap.size, 3, none⟩ = false) :=
  ⟨⟨cell_of_row wx _ 0 _ _ _ h.box, cell_of_row wx _ 1 _ _ _ h.box, cell_of_row wx _ 2 _ _ _ h.box, cell_of_row wx _ 3 _ _ _ h.box⟩, frozen_of_row wx _ 0 _ _ h.box, frozen_of_row wx _ 1 _ _ h.box, frozen_of_row wx _ 2 _ _ h.box, frozen_of_row wx _ 3 _ _ h.box⟩
theorem UsB.ac (h : UsB w sec Aa na ca Ah nh ch Au nu cu s p c wx) : wx.cell? ⟨w.heap.size + 1, 0, none⟩ = some (.string s) ∧ wx.cell? ⟨w.heap.size + 1, 1, none⟩ = some (.int .i64 p) ∧ wx.cell? ⟨w.heap.size + 1, 2, none⟩ = some (.int .i64 c) :=
  ⟨cell_of_row wx _ 0 _ _ _ h.arg, cell_of_row wx _ 1 _ _ _ h.arg, cell_of_row wx _ 2 _ _ _ h.arg⟩
theorem UsB.rc (h : UsB w sec Aa na ca Ah nh ch Au nu cu s p c wx) : (wx.cell? ⟨w.heap.size + 1 + 1, 0, none⟩ = some (.string ⟨#[]⟩) ∧ wx.cell? ⟨w.heap.size + 1 + 1, 1, none⟩ = some (.slice none 0 0) ∧ wx.cell? ⟨w.heap.size + 1 + 1, 2, none⟩ = some (.slice none 0 0) ∧ wx.cell? ⟨w.heap.size + 1 + 1, 3, none⟩ = some (.slice none 0 0)) ∧ (wx.frozen? ⟨w.heap.size + 1 + 1, 0, none⟩ = false ∧ wx.frozen? ⟨w.heap.size + 1 + 1, 1, none⟩ = false ∧ wx.frozen? ⟨w.heap.size + 1 + 1, 2, none⟩ = false ∧ wx.frozen? ⟨w.heap.size + 1 + 1, 3, none⟩ = false) :=
  ⟨⟨cell_of_row wx _ 0 _ _ _ h.res, cell_of_row wx _ 1 _ _ _ h.res, cell_of_row wx _ 2 _ _ _ h.res, cell_of_row wx _ 3 _ _ _ h.res⟩, frozen_of_row wx _ 0 _ _ h.res, frozen_of_row wx _ 1 _ _ h.res, frozen_of_row wx _ 2 _ _ h.res, frozen_of_row wx _ 3 _ _ h.res⟩
/-- The box is written anew. -/
theorem UsB.put {A1 A2 A3 : Option Addr} {n1 n2 n3 c1 c2 c3 : Nat} (h : UsB w sec Aa na ca Ah nh ch Au nu cu s p c wx) (sec' : ByteArray) :
    UsB w sec' A1 n1 c1 A2 n2 c2 A3 n3 c3 s p c ((((wx.setCell ⟨w.heap.size, 0, none⟩ (.string sec')).setCell ⟨w.heap.size, 1, none⟩ (.slice A1 n1 c1)).setCell ⟨w.heap.size, 2, none⟩ (.slice A2 n2 c2)).setCell ⟨w.heap.size, 3, none⟩ (.slice A3 n3 c3)) := by
  have hne1 : w.heap.size + 1 ≠ w.heap.size := by omega
  have hne2 : w.heap.size + 1 + 1 ≠ w.heap.size := by omega
  refine ⟨?_, ?_, ?_, (((h.bel.setCell (p := ⟨w.heap.size, 0, none⟩) (Nat.le_refl _) _).setCell (p := ⟨w.heap.size, 1, none⟩) (Nat.le_refl _) _).setCell (p := ⟨w.heap.size, 2, none⟩) (Nat.le_refl _) _).setCell (p := ⟨w.heap.size, 3, none⟩) (Nat.le_refl _) _, by simpa using h.size⟩
  · have e0 := heap_setCell_same wx w.heap.size 0 _ _ (.string sec') h.box
    have e1 := heap_setCell_same _ w.heap.size 1 _ _ (.slice A1 n1 c1) e0
    have e2 := heap_setCell_same _ w.heap.size 2 _ _ (.slice A2 n2 c2) e1
    have e3 := heap_setCell_same _ w.heap.size 3 _ _ (.slice A3 n3 c3) e2
    exact e3
  · rw [heap_setCell_other _ _ _ _ hne1, heap_setCell_other _ _ _ _ hne1, heap_setCell_other _ _ _ _ hne1, heap_setCell_other _ _ _ _ hne1]
    exact h.arg
  · rw [heap_setCell_other _ _ _ _ hne2, heap_setCell_other _ _ _ _ hne2, heap_setCell_other _ _ _ _ hne2, heap_setCell_other _ _ _ _ hne2]
    exact h.res
end
/-- A wallet of the call's own is not touched by stores below its base. -/
theorem OwnW.set {w : World} {base : Nat} {qs : List Az} {hs : List Hz} {us : List Uz} {vA vH vU : Value} (h : OwnW w base qs hs us vA vH vU) {a : Addr} (ha : a.block < base) (u : Value) : OwnW (w.setCell a u) base qs hs us vA vH vU := by
  have hne : ∀ {e : TypeId} {size : Nat} {v : Value} {n : Nat} {xs : List Value}, w.ownsRow base e size v n xs → (w.setCell a u).ownsRow base e size v n xs := fun {e size v n xs} o => owns_set o (fun e => by have := (o.lt _ e).1; omega) _
  obtain ⟨L, h1, h2⟩ := h.h
  exact ⟨hne h.a, ⟨L, hne h1, (h2.keep fun p hp => World.cell?_setCell_other _ _ _ _ (fun e => by have := congrArg Addr.block e; have := hp.1; omega)).mono fun g hg => by simpa using hg⟩, hne h.u, h.ah, h.au, h.hu⟩
theorem OwnW.next {w w' : World} {base : Nat} {qs : List Az} {hs : List Hz} {us : List Uz} {vA vH vU : Value} (h : OwnW w base qs hs us vA vH vU) (hb : Below w.heap.size w w') : OwnW w' base qs hs us vA vH vU := by
  obtain ⟨L, h1, h2⟩ := h.h
  exact ⟨owns_below h.a hb, ⟨L, owns_below h1 hb, (h2.keep fun p hp => hb.cell hp.2.1).mono fun g hg => ⟨hg.1, Nat.lt_of_lt_of_le hg.2.1 hb.size, hg.2.2⟩⟩, owns_below h.u hb, h.ah, h.au, h.hu⟩
theorem OwnW.mono {w : World} {base base' : Nat} {qs : List Az} {hs : List Hz} {us : List Uz} {vA vH vU : Value} (h : OwnW w base qs hs us vA vH vU) (hb : base' ≤ base) : OwnW w base' qs hs us vA vH vU := by
  obtain ⟨L, h1, h2⟩ := h.h
  exact ⟨owns_mono h.a hb, ⟨L, owns_mono h1 hb, h2.mono fun g hg => ⟨Nat.le_trans hb hg.1, hg.2⟩⟩, owns_mono h.u hb, h.ah, h.au, h.hu⟩
/-- The row of counts has grown. -/
theorem OwnW.appU {w w' : World} {base : Nat} {qs : List Az} {hs : List Hz} {us us' : List Uz} {vA vH vU vU' : Value} (h : OwnW w base qs hs us vA vH vU) (o : w'.ownsRow base 57 3 vU' us'.length (cellsU us')) (hg : w.grownBy w' vU.ownBlock) (hv : vU'.ownBlock = vU.ownBlock ∨ vU'.ownBlock = some w.heap.size) : OwnW w' base qs hs us' vA vH vU' := by
  obtain ⟨L, h1, h2⟩ := h.h
  have hnew : ∀ g, g < w.heap.size → vU.ownBlock ≠ some g → vU'.ownBlock ≠ some g := fun g hl hn e => by
    rcases hv with hv | hv
    · rw [hv] at e; exact hn e
    · rw [hv] at e; injection e with e; omega
  refine ⟨owns_grown h.a hg (fun g e1 e2 => h.au g e1 e2), ⟨L, owns_grown h1 hg (fun g e1 e2 => h.hu g e1 e2), (h2.keep fun p hp => World.cell?_of_block (hg.block p.block hp.2.1 (fun e => hp.2.2.2.2 e.symm))).mono fun g hp => ⟨hp.1, Nat.lt_of_lt_of_le hp.2.1 hg.size, hp.2.2.1, hp.2.2.2.1, hnew g hp.2.1 hp.2.2.2.2⟩⟩, o, h.ah, fun g e => hnew g (h.a.lt _ e).2 (h.au g e), fun g e => hnew g (h1.lt _ e).2 (h.hu g e)⟩
/-- A count in the row is written anew. -/
theorem OwnW.setU {w : World} {base : Nat} {qs : List Az} {hs : List Hz} {us : List Uz} {vA vH : Value} {g n cap : Nat} (h : OwnW w base qs hs us vA vH (.slice (some ⟨g, 0, none⟩) n cap)) (hn : us.length = n) {i : Nat} (hi : i < us.length) (s : ByteArray) (p c : Int) :
    OwnW (((w.setCell ⟨g, i * 3, none⟩ (.string s)).setCell ⟨g, i * 3 + 1, none⟩ (.int .i64 p)).setCell ⟨g, i * 3 + 2, none⟩ (.int .i64 c)) base qs hs (us.set i (s, p, c)) vA vH (.slice (some ⟨g, 0, none⟩) n cap) := by
  subst hn
  have hu := h.u
  have s1 := hu.stored (i * 3) (.string s)
  have s2 := s1.1.stored (i * 3 + 1) (.int .i64 p)
  have s3 := s2.1.stored (i * 3 + 2) (.int .i64 c)
  rw [cellsU_set hi] at s3
  have hg : w.grownBy (((w.setCell ⟨g, i * 3, none⟩ (.string s)).setCell ⟨g, i * 3 + 1, none⟩ (.int .i64 p)).setCell ⟨g, i * 3 + 2, none⟩ (.int .i64 c)) (some g) := (s1.2.trans s2.2).trans s3.2
  have e : (us.set i (s, p, c)).length = us.length := List.length_set ..
  have o := s3.1
  rw [← e] at o
  have := h.appU (us' := us.set i (s, p, c)) (vU' := .slice (some ⟨g, 0, none⟩) (us.set i (s, p, c)).length cap) o hg (.inl rfl)
  rwa [e] at this
end Go.Proofs.YtjhlddlocpkhkaaGreat

namespace Go.Proofs.YtjhlddlocpkhkaaGreat
open Go.RowKit
set_option maxRecDepth 100000
set_option linter.unusedVariables false
set_option maxHeartbeats 8000000
theorem reads_new (w : World) (cs : List Value) (T : TypeId) (k : Nat) (hk : cs.length = 1 * k) : Reads (w.alloc (.cells cs.toArray T)) (w.alloc (.cells cs.toArray T)).heap.size k (some ⟨w.heap.size, 0, none⟩) 1 cs := ⟨hk, fun _ => ⟨_, rfl, by simp, fun j u hu => by
  rw [addr_add, Nat.zero_add]
  rw [cell_of_row _ _ j _ _ _ (heap_alloc_new w _), ← hu]
  simp⟩⟩
theorem UsB.far {w wx w' : World} {sec : ByteArray} {Aa : Option Addr} {na ca : Nat} {Ah : Option Addr} {nh ch : Nat} {Au : Option Addr} {nu cu : Nat} {s : ByteArray} {p c : Int} (h : UsB w sec Aa na ca Ah nh ch Au nu cu s p c wx) (hb : Below (w.heap.size + 3) wx w') : UsB w sec Aa na ca Ah nh ch Au nu cu s p c w' :=
  ⟨(hb.block _ (by omega)).trans h.box, (hb.block _ (by omega)).trans h.arg, (hb.block _ (by omega)).trans h.res, h.bel.trans (hb.mono (Nat.le_add_right _ 3)), Nat.le_trans h.size hb.size⟩
theorem UsB.put3 {w wx : World} {sec : ByteArray} {Aa : Option Addr} {na ca : Nat} {Ah : Option Addr} {nh ch : Nat} {Au : Option Addr} {nu cu : Nat} {s : ByteArray} {p c : Int} {A3' : Option Addr} {n3' c3' : Nat} (h : UsB w sec Aa na ca Ah nh ch Au nu cu s p c wx) : UsB w sec Aa na ca Ah nh ch A3' n3' c3' s p c (wx.setCell ⟨w.heap.size, 3, none⟩ (.slice A3' n3' c3')) :=
  ⟨heap_setCell_same wx w.heap.size 3 _ _ _ h.box, (heap_setCell_other _ _ _ _ (show w.heap.size + 1 ≠ w.heap.size by omega)).trans h.arg, (heap_setCell_other _ _ _ _ (show w.heap.size + 1 + 1 ≠ w.heap.size by omega)).trans h.res, h.bel.setCell (p := ⟨w.heap.size, 3, none⟩) (Nat.le_refl _) _, by simpa using h.size⟩
/-- The end: the box's last cell, then the result. -/
theorem OwnW.fin {w wx : World} {sec : ByteArray} {Aa : Option Addr} {na ca : Nat} {Ah : Option Addr} {nh ch : Nat} {Au : Option Addr} {nu cu : Nat} {s : ByteArray} {p c : Int} {qs : List Az} {hs : List Hz} {us : List Uz} {A1 A2 A3 : Option Addr} {n1 n2 n3 c1 c2 c3 : Nat} (h : UsB w sec Aa na ca Ah nh ch Au nu cu s p c wx) (o : OwnW wx (w.heap.size + 3) qs hs us (.slice A1 n1 c1) (.slice A2 n2 c2) (.slice A3 n3 c3)) (h1 : qs.length = n1) (h2 : hs.length = n2) (h3 : us.length = n3) (v0 v1 v2 v3 : Value) :
    WalM ((((wx.setCell ⟨w.heap.size + 1 + 1, 0, none⟩ v0).setCell ⟨w.heap.size + 1 + 1, 1, none⟩ v1).setCell ⟨w.heap.size + 1 + 1, 2, none⟩ v2).setCell ⟨w.heap.size + 1 + 1, 3, none⟩ v3) (fun g => w.heap.size ≤ g ∧ g < ((((wx.setCell ⟨w.heap.size + 1 + 1, 0, none⟩ v0).setCell ⟨w.heap.size + 1 + 1, 1, none⟩ v1).setCell ⟨w.heap.size + 1 + 1, 2, none⟩ v2).setCell ⟨w.heap.size + 1 + 1, 3, none⟩ v3).heap.size) qs hs us A1 A2 A3 ∧
    Below w.heap.size w ((((wx.setCell ⟨w.heap.size + 1 + 1, 0, none⟩ v0).setCell ⟨w.heap.size + 1 + 1, 1, none⟩ v1).setCell ⟨w.heap.size + 1 + 1, 2, none⟩ v2).setCell ⟨w.heap.size + 1 + 1, 3, none⟩ v3) := by
  subst h1 h2 h3
  have hl : w.heap.size ≤ w.heap.size + 1 + 1 := by omega
  refine ⟨?_, (((h.bel.setCell (p := ⟨w.heap.size + 1 + 1, 0, none⟩) hl _).setCell (p := ⟨w.heap.size + 1 + 1, 1, none⟩) hl _).setCell (p := ⟨w.heap.size + 1 + 1, 2, none⟩) hl _).setCell (p := ⟨w.heap.size + 1 + 1, 3, none⟩) hl _⟩
  have o' := ((((o.set (a := ⟨w.heap.size + 1 + 1, 0, none⟩) (by simp) v0).set (a := ⟨w.heap.size + 1 + 1, 1, none⟩) (by simp) v1).set (a := ⟨w.heap.size + 1 + 1, 2, none⟩) (by simp) v2).set (a := ⟨w.heap.size + 1 + 1, 3, none⟩) (by simp) v3)
  exact o'.form.mono fun g hg => ⟨by have := hg.1; omega, hg.2⟩
theorem wal_use (sec : ByteArray) (qs : List Az) (hs : List Hz) (us : List Uz) (Aa Ah Au : Option Addr) (na ca nh ch nu cu : Nat) (s : ByteArray) (p c : Int) (S : Nat → Prop) (w : World) (hq : qs.length = na) (hn : hs.length = nh) (hu : us.length = nu) (hma : na ≤ 100000) (hmh : nh ≤ 100000) (hmu : nu < 4096) (hatt : ∀ x ∈ hs, x.att.length ≤ 100000) (h : WalM w S qs hs us Aa Ah Au) (hS : ∀ g, S g → g < w.heap.size) :
    Calls Tryz.prog 52 #[.agg #[.string sec, .slice Aa na ca, .slice Ah nh ch, .slice Au nu cu], .agg #[.string s, .int .i64 p, .int .i64 c]] w fun e w' => ∃ A1 c1 A2 c2 A3 n3 c3, e = .returned (.tuple #[.agg #[.string sec, .slice A1 na c1, .slice A2 nh c2, .slice A3 n3 c3], .int .i64 0]) ∧ n3 = (putU (s, p, c) us).length ∧ WalM w' (fun g => w.heap.size ≤ g ∧ g < w'.heap.size) qs hs (putU (s, p, c) us) A1 A2 A3 ∧ Below w.heap.size w w' := by
  have HF := Lib.hid (fun W (hb : Below w.heap.size w W) => wal_find us Au nu cu S sec Aa Ah na ca nh ch s p W hu (by omega) (by have := (h.keep (fun q hq => hb.cell (hS _ hq))).u; exact this) (fun g hg => Nat.lt_of_lt_of_le (hS g hg) hb.size))
  have HC := Lib.hid (fun W (hb : Below w.heap.size w W) => wal_copied sec qs hs us Aa Ah Au na ca nh ch nu cu S W hq hn hu hma hmh (by omega) hatt (h.keep (fun q hq => hb.cell (hS _ hq))) (fun g hg => Nat.lt_of_lt_of_le (hS g hg) hb.size))
  have HB0 := Lib.hid (UsB.start (w := w) (sec := sec) (Aa := Aa) (na := na) (ca := ca) (Ah := Ah) (nh := nh) (ch := ch) (Au := Au) (nu := nu) (cu := cu) (s := s) (p := p) (c := c))
  have HQ := Lib.hid (And.intro hq (And.intro hn hu))
  have HMU := Lib.hid hmu
  clear h hS hq hn hatt hma hmh hmu
  cases hf : us.find? (isU s p) with
  | none =>
    have HP := Lib.hid (putU_none (u := (s, p, c)) hf)
    rw [idxU_none hf 0] at HF
    clear hf hu
    have k4 : (4096 ≤ (nu : Int)) = False := by have := HMU.out; simp; omega
    go_enter Tryz.func52, Tryz.ntmps52
    go_upto_region 4 with (go_at_call 68; (with_reducible refine (HF.out _ HB0.out.bel).mono ?_); rintro e w1 ⟨rfl, hb1⟩; have HB1 := Lib.hid (HB0.out.next hb1); obtain ⟨⟨x0, x1, x2, x3⟩, y0, y1, y2, y3⟩ := HB1.out.bc; obtain ⟨z0, z1, z2⟩ := HB1.out.ac; clear hb1)
    go_upto_region 5 with (go_at_call 67; (with_reducible refine (HC.out _ HB1.out.bel).mono ?_); rintro e w2 ⟨A1, c1, A2, c2, A3, c3, rfl, how, hb2⟩; have HB2 := Lib.hid (HB1.out.next hb2); have HO2 := Lib.hid how; obtain ⟨⟨x0, x1, x2, x3⟩, y0, y1, y2, y3⟩ := HB2.out.bc; clear how hb2)
    have HB3 := Lib.hid (HB2.out.put (A1 := A1) (n1 := na) (c1 := c1) (A2 := A2) (n2 := nh) (c2 := c2) (A3 := A3) (n3 := nu) (c3 := c3) sec)
    have HO3 : Hid (OwnW ((((w2.setCell ⟨w.heap.size, 0, none⟩ (.string sec)).setCell ⟨w.heap.size, 1, none⟩ (.slice A1 na c1)).setCell ⟨w.heap.size, 2, none⟩ (.slice A2 nh c2)).setCell ⟨w.heap.size, 3, none⟩ (.slice A3 nu c3)) (w.heap.size + 3) qs hs us (.slice A1 na c1) (.slice A2 nh c2) (.slice A3 nu c3)) := Lib.hid ((((((HO2.out.mono HB1.out.size).set (a := ⟨w.heap.size, 0, none⟩) (by simp) _).set (a := ⟨w.heap.size, 1, none⟩) (by simp) _).set (a := ⟨w.heap.size, 2, none⟩) (by simp) _).set (a := ⟨w.heap.size, 3, none⟩) (by simp) _))
    clear x0 x1 x2 x3 y0 y1 y2 y3 z0 z1 z2
    obtain ⟨w3, hw3⟩ : ∃ w3, ((((w2.setCell ⟨w.heap.size, 0, none⟩ (.string sec)).setCell ⟨w.heap.size, 1, none⟩ (.slice A1 na c1)).setCell ⟨w.heap.size, 2, none⟩ (.slice A2 nh c2)).setCell ⟨w.heap.size, 3, none⟩ (.slice A3 nu c3)) = w3 := ⟨_, rfl⟩
    rw [hw3] at HB3 HO3 ⊢
    clear hw3
    obtain ⟨⟨x0, x1, x2, x3⟩, y0, y1, y2, y3⟩ := HB3.out.bc
    obtain ⟨z0, z1, z2⟩ := HB3.out.ac
    go_upto_region 6 with fail
    obtain ⟨i, hi, hz, hs1, hb1⟩ := infoE_U
    have HONE : Hid (∀ u ∈ [Value.string s, .int .i64 p, .int .i64 c], u.oneCell' = true) := Lib.hid (cellsU_one [(s, p, c)])
    have HRN := Lib.hid (reads_new w3 [.string s, .int .i64 p, .int .i64 c] 57 3 rfl)
    have HOA := Lib.hid (HO3.out.next ((Below.refl _ w3).alloc (Nat.le_refl _) (.cells #[.string s, .int .i64 p, .int .i64 c] 57)))
    have HBA := Lib.hid (HB3.out.next ((Below.refl _ w3).alloc (Nat.le_refl _) (.cells #[.string s, .int .i64 p, .int .i64 c] 57)))
    go_wp2_with (at_builtin; go_loud (refine wpList_append_any _ rfl _ _ 25 rfl (w.heap.size + 3) 57 i (.agg #[.string ByteArray.empty, .int .i64 0, .int .i64 0]) 3 32 Tryz.underlying25 hi hz hs1 hb1 rfl (by decide) (.slice A3 nu c3) nu (cellsU us) rfl (by have := HOA.out.u; rw [HQ.out.2.2] at this; exact this) _ (some ⟨w3.heap.size, 0, none⟩) 1 _ [.string s, .int .i64 p, .int .i64 c] rfl HRN.out HONE.out (by have := HMU.out; unfold maxLen; omega) (by have := HMU.out; omega) (by have := HB3.out.size; simp; omega) ?_))
    intro v' w4 hown hgrow hv
    obtain ⟨A4, c4, rfl⟩ := owns_shape hown
    have hb4 : Below (w.heap.size + 3) (w3.alloc (.cells #[.string s, .int .i64 p, .int .i64 c] 57)) w4 := below_grown hgrow (by have := HB3.out.size; simp; omega) (fun g hg => (HOA.out.u.lt g hg).1)
    have HB4 := Lib.hid (HBA.out.far hb4)
    have ho4 : OwnW w4 (w.heap.size + 3) qs hs (us ++ [(s, p, c)]) (.slice A1 na c1) (.slice A2 nh c2) (.slice A4 (nu + 1) c4) := HOA.out.appU (by rw [cellsU_app, List.length_append, HQ.out.2.2]; exact hown) hgrow (by simpa using hv)
    have HO4 := Lib.hid ho4
    obtain ⟨⟨x0, x1, x2, x3⟩, y0, y1, y2, y3⟩ := HB4.out.bc
    clear hown hgrow hv hb4 ho4
    go_upto_region 8 with fail
    have HB5 := Lib.hid (HB4.out.put3 (A3' := A4) (n3' := nu + 1) (c3' := c4))
    have HO5 := Lib.hid (HO4.out.set (a := ⟨w.heap.size, 3, none⟩) (by simp) (.slice A4 (nu + 1) c4))
    clear x0 x1 x2 x3 y0 y1 y2 y3 z0 z1 z2
    obtain ⟨w5, hw5⟩ : ∃ w5, w4.setCell ⟨w.heap.size, 3, none⟩ (.slice A4 (nu + 1) c4) = w5 := ⟨_, rfl⟩
    rw [hw5] at HB5 HO5 ⊢
    clear hw5
    obtain ⟨⟨x0, x1, x2, x3⟩, y0, y1, y2, y3⟩ := HB5.out.bc
    obtain ⟨⟨r0, r1, r2, r3⟩, g0, g1, g2, g3⟩ := HB5.out.rc
    go_wp2_with fail
    have HF := OwnW.fin HB5.out HO5.out HQ.out.1 HQ.out.2.1 (by rw [List.length_append, HQ.out.2.2]; rfl) (.string sec) (.slice A1 na c1) (.slice A2 nh c2) (.slice A4 (nu + 1) c4)
    refine bodyPost_ret (v := .tuple #[.agg #[.string sec, .slice A1 na c1, .slice A2 nh c2, .slice A4 (nu + 1) c4], .int .i64 0]) (by simp [results, Tryz.results52, go_sem, r0, r1, r2, r3]) rfl ?_
    exact ⟨A1, c1, A2, c2, A4, nu + 1, c4, rfl, by rw [HP.out, List.length_append, HQ.out.2.2]; rfl, by rw [HP.out]; exact HF.1, HF.2⟩
  | some x =>
    obtain ⟨i, hi1, hin, hput⟩ := putU_some (u := (s, p, c)) hf 0
    rw [Nat.zero_add] at hi1
    have HP := Lib.hid hput
    rw [hi1] at HF
    have hil : (i : Int) < (nu : Int) := by rw [← hu]; omega
    have hil2 : i < nu := by rw [← hu]; exact hin
    have HIL := Lib.hid hil2
    have HIN := Lib.hid hin
    clear hf hu hi1 hput hin
    go_enter Tryz.func52, Tryz.ntmps52
    go_upto_region 4 with (go_at_call 68; (with_reducible refine (HF.out _ HB0.out.bel).mono ?_); rintro e w1 ⟨rfl, hb1⟩; have HB1 := Lib.hid (HB0.out.next hb1); obtain ⟨⟨x0, x1, x2, x3⟩, y0, y1, y2, y3⟩ := HB1.out.bc; obtain ⟨z0, z1, z2⟩ := HB1.out.ac; clear hb1)
    go_upto_region 5 with (go_at_call 67; (with_reducible refine (HC.out _ HB1.out.bel).mono ?_); rintro e w2 ⟨A1, c1, A2, c2, A3, c3, rfl, how, hb2⟩; have HB2 := Lib.hid (HB1.out.next hb2); have HO2 := Lib.hid how; obtain ⟨⟨x0, x1, x2, x3⟩, y0, y1, y2, y3⟩ := HB2.out.bc; clear how hb2)
    have HB3 := Lib.hid (HB2.out.put (A1 := A1) (n1 := na) (c1 := c1) (A2 := A2) (n2 := nh) (c2 := c2) (A3 := A3) (n3 := nu) (c3 := c3) sec)
    have HO3 : Hid (OwnW ((((w2.setCell ⟨w.heap.size, 0, none⟩ (.string sec)).setCell ⟨w.heap.size, 1, none⟩ (.slice A1 na c1)).setCell ⟨w.heap.size, 2, none⟩ (.slice A2 nh c2)).setCell ⟨w.heap.size, 3, none⟩ (.slice A3 nu c3)) (w.heap.size + 3) qs hs us (.slice A1 na c1) (.slice A2 nh c2) (.slice A3 nu c3)) := Lib.hid ((((((HO2.out.mono HB1.out.size).set (a := ⟨w.heap.size, 0, none⟩) (by simp) _).set (a := ⟨w.heap.size, 1, none⟩) (by simp) _).set (a := ⟨w.heap.size, 2, none⟩) (by simp) _).set (a := ⟨w.heap.size, 3, none⟩) (by simp) _))
    clear x0 x1 x2 x3 y0 y1 y2 y3 z0 z1 z2
    obtain ⟨w3, hw3⟩ : ∃ w3, ((((w2.setCell ⟨w.heap.size, 0, none⟩ (.string sec)).setCell ⟨w.heap.size, 1, none⟩ (.slice A1 na c1)).setCell ⟨w.heap.size, 2, none⟩ (.slice A2 nh c2)).setCell ⟨w.heap.size, 3, none⟩ (.slice A3 nu c3)) = w3 := ⟨_, rfl⟩
    rw [hw3] at HB3 HO3 ⊢
    clear hw3
    obtain ⟨⟨x0, x1, x2, x3⟩, y0, y1, y2, y3⟩ := HB3.out.bc
    obtain ⟨z0, z1, z2⟩ := HB3.out.ac
    obtain ⟨g3, rfl⟩ : ∃ g3, A3 = some ⟨g3, 0, none⟩ := by
      rcases HO3.out.u.2 with ⟨_, h0⟩ | ⟨g, cap, cur, hv, _⟩
      · have := HIN.out; omega
      · injection hv with h1; exact ⟨g, h1⟩
    have hu3 := HO3.out.u
    rw [HQ.out.2.2] at hu3
    have hl3 := cellsU_len us
    have k0 : w3.cell? ⟨g3, i * 3, none⟩ = some ((cellsU us)[i * 3]'(by have := HIN.out; omega)) := (hu3.cellAt (i * 3) (by omega)).trans (List.getElem?_eq_getElem _)
    have k1 : w3.cell? ⟨g3, i * 3 + 1, none⟩ = some ((cellsU us)[i * 3 + 1]'(by have := HIN.out; omega)) := (hu3.cellAt (i * 3 + 1) (by omega)).trans (List.getElem?_eq_getElem _)
    have k2 : w3.cell? ⟨g3, i * 3 + 2, none⟩ = some ((cellsU us)[i * 3 + 2]'(by have := HIN.out; omega)) := (hu3.cellAt (i * 3 + 2) (by omega)).trans (List.getElem?_eq_getElem _)
    have f0 := hu3.frozenAt (i * 3)
    have f1 := hu3.frozenAt (i * 3 + 1)
    have f2 := hu3.frozenAt (i * 3 + 2)
    obtain ⟨u0, hu0⟩ : ∃ u, (cellsU us)[i * 3]'(by have := HIN.out; omega) = u := ⟨_, rfl⟩
    obtain ⟨u1, hu1⟩ : ∃ u, (cellsU us)[i * 3 + 1]'(by have := HIN.out; omega) = u := ⟨_, rfl⟩
    obtain ⟨u2, hu2⟩ : ∃ u, (cellsU us)[i * 3 + 2]'(by have := HIN.out; omega) = u := ⟨_, rfl⟩
    rw [hu0] at k0
    rw [hu1] at k1
    rw [hu2] at k2
    have HB5 : Hid (UsB w sec A1 na c1 A2 nh c2 (some ⟨g3, 0, none⟩) nu c3 s p c (((w3.setCell ⟨g3, i * 3, none⟩ (.string s)).setCell ⟨g3, i * 3 + 1, none⟩ (.int .i64 p)).setCell ⟨g3, i * 3 + 2, none⟩ (.int .i64 c))) := Lib.hid (HB3.out.far ((((Below.refl _ w3).setCell (p := ⟨g3, i * 3, none⟩) (hu3.lt g3 rfl).1 _).setCell (p := ⟨g3, i * 3 + 1, none⟩) (hu3.lt g3 rfl).1 _).setCell (p := ⟨g3, i * 3 + 2, none⟩) (hu3.lt g3 rfl).1 _))
    have HO5 := Lib.hid (HO3.out.setU HQ.out.2.2 HIN.out s p c)
    clear hu3 hl3 hu0 hu1 hu2
    go_upto_region 8 with fail
    clear x0 x1 x2 x3 y0 y1 y2 y3 z0 z1 z2 f0 f1 f2 k0 k1 k2
    obtain ⟨w5, hw5⟩ : ∃ w5, (((w3.setCell ⟨g3, i * 3, none⟩ (.string s)).setCell ⟨g3, i * 3 + 1, none⟩ (.int .i64 p)).setCell ⟨g3, i * 3 + 2, none⟩ (.int .i64 c)) = w5 := ⟨_, rfl⟩
    rw [hw5] at HB5 HO5 ⊢
    clear hw5
    obtain ⟨⟨x0, x1, x2, x3⟩, y0, y1, y2, y3⟩ := HB5.out.bc
    obtain ⟨⟨r0, r1, r2, r3⟩, g0, g1, g2, g4⟩ := HB5.out.rc
    go_wp2_with fail
    have HF := OwnW.fin HB5.out HO5.out HQ.out.1 HQ.out.2.1 (by rw [List.length_set]; exact HQ.out.2.2) (.string sec) (.slice A1 na c1) (.slice A2 nh c2) (.slice (some ⟨g3, 0, none⟩) nu c3)
    refine bodyPost_ret (v := .tuple #[.agg #[.string sec, .slice A1 na c1, .slice A2 nh c2, .slice (some ⟨g3, 0, none⟩) nu c3], .int .i64 0]) (by simp [results, Tryz.results52, go_sem, r0, r1, r2, r3]) rfl ?_
    exact ⟨A1, c1, A2, c2, some ⟨g3, 0, none⟩, nu, c3, rfl, by rw [HP.out, List.length_set, HQ.out.2.2], by rw [HP.out]; exact HF.1, HF.2⟩
end Go.Proofs.YtjhlddlocpkhkaaGreat

namespace Go.Proofs.YtjhlddlocpkhkaaGreat
open Go.RowKit
set_option maxRecDepth 100000
set_option linter.unusedVariables false
set_option maxHeartbeats 4000000
/-- The boxes of a call: the wallet, another struct, the result. -/
structure BxB (w : World) (sec : ByteArray) (Aa : Option Addr) (na ca : Nat) (Ah : Option Addr) (nh ch : Nat) (Au : Option Addr) (nu cu : Nat) (cs : Array Value) (T : TypeId) (wx : World) : Prop where
  box : wx.heap[w.heap.size]? = some (.cells #[.string sec, .slice Aa na ca, .slice Ah nh ch, .slice Au nu cu] 27 (0, 0))
  arg : wx.heap[w.heap.size + 1]? = some (.cells cs T (0, 0))
  res : wx.heap[w.heap.size + 1 + 1]? = some (.cells #[.string ⟨#[]⟩, .slice none 0 0, .slice none 0 0, .slice none 0 0] 27 (0, 0))
  bel : Below w.heap.size w wx
  size : w.heap.size + 3 ≤ wx.heap.size
section
variable {w wx w' : World} {sec : ByteArray} {Aa : Option Addr} {na ca : Nat} {Ah : Option Addr} {nh ch : Nat} {Au : Option Addr} {nu cu : Nat} {cs : Array Value} {T : TypeId}
theorem BxB.start : BxB w sec Aa na ca Ah nh ch Au nu cu cs T (((w.alloc (.cells #[.string sec, .slice Aa na ca, .slice Ah nh ch, .slice Au nu cu] 27)).alloc (.cells cs T)).alloc (.cells #[.string ⟨#[]⟩, .slice none 0 0, .slice none 0 0, .slice none 0 0] 27)) :=
  ⟨(Below.heap_alloc _ _ _ (by simp; omega)).trans (two_boxes w _ _).1, (Below.heap_alloc _ _ _ (by simp)).trans (two_boxes w _ _).2, by have := heap_alloc_new ((w.alloc (.cells #[.string sec, .slice Aa na ca, .slice Ah nh ch, .slice Au nu cu] 27)).alloc (.cells cs T)) (.cells #[.string ⟨#[]⟩, .slice none 0 0, .slice none 0 0, .slice none 0 0] 27); rwa [World.size_alloc, World.size_alloc] at this, (((Below.refl _ _).alloc (Nat.le_refl _) _).alloc (by simp) _).alloc (by simp; omega) _, by simp⟩
theorem BxB.next (h : BxB w sec Aa na ca Ah nh ch Au nu cu cs T wx) (hb : Below wx.heap.size wx w') : BxB w sec Aa na ca Ah nh ch Au nu cu cs T w' :=
  ⟨(hb.block _ (by have := h.size; omega)).trans h.box, (hb.block _ (by have := h.size; omega)).trans h.arg, (hb.block _ (by have := h.size; omega)).trans h.res, below2 h.bel hb, Nat.le_trans h.size hb.size⟩
theorem BxB.drew (h : BxB w sec Aa na ca Ah nh ch Au nu cu cs T wx) : BxB w sec Aa na ca Ah nh ch Au nu cu cs T wx.drew := h.next (Below.refl _ _).drew
theorem BxB.bc (h : BxB w sec Aa na ca Ah nh ch Au nu cu cs T wx) : (wx.cell? ⟨w.heap.size, 0, none⟩ = some (.string sec) ∧ wx.cell? ⟨w.heap.size, 1, none⟩ = some (.slice Aa na ca) ∧ wx.cell? ⟨w.heap.size, 2, none⟩ = some (.slice Ah nh ch) ∧ wx.cell? ⟨w.heap.size, 3, none⟩ = some (.slice Au nu cu)) ∧ (wx.frozen? ⟨w.heap.size, 0, none⟩ = false ∧ wx.frozen? ⟨w.heap.size, 1, none⟩ = false ∧ wx.frozen? ⟨w.heap.size, 2, none⟩ = false ∧ wx.frozen? ⟨w.heap.size, 3, none⟩ = false) :=
  ⟨⟨cell_of_row wx _ 0 _ _ _ h.box, cell_of_row wx _ 1 _ _ _ h.box, cell_of_row wx _ 2 _ _ _ h.box, cell_of_row wx _ 3 _ _ _ h.box⟩, frozen_of_row wx _ 0 _ _ h.box, frozen_of_row wx _ 1 _ _ h.box, frozen_of_row wx _ 2 _ _ h.box, frozen_of_row wx _ 3 _ _ h.box⟩
theorem BxB.rc (h : BxB w sec Aa na ca Ah nh ch Au nu cu cs T wx) : (wx.cell? ⟨w.heap.size + 1 + 1, 0, none⟩ = some (.string ⟨#[]⟩) ∧ wx.cell? ⟨w.heap.size + 1 + 1, 1, none⟩ = some (.slice none 0 0) ∧ wx.cell? ⟨w.heap.size + 1 + 1, 2, none⟩ = some (.slice none 0 0) ∧ wx.cell? ⟨w.heap.size + 1 + 1, 3, none⟩ = some (.slice none 0 0)) ∧ (wx.frozen? ⟨w.heap.size + 1 + 1, 0, none⟩ = false ∧ wx.frozen? ⟨w.heap.size + 1 + 1, 1, none⟩ = false ∧ wx.frozen? ⟨w.heap.size + 1 + 1, 2, none⟩ = false ∧ wx.frozen? ⟨w.heap.size + 1 + 1, 3, none⟩ = false) :=
  ⟨⟨cell_of_row wx _ 0 _ _ _ h.res, cell_of_row wx _ 1 _ _ _ h.res, cell_of_row wx _ 2 _ _ _ h.res, cell_of_row wx _ 3 _ _ _ h.res⟩, frozen_of_row wx _ 0 _ _ h.res, frozen_of_row wx _ 1 _ _ h.res, frozen_of_row wx _ 2 _ _ h.res, frozen_of_row wx _ 3 _ _ h.res⟩
/-- The box is written anew. -/
theorem BxB.put {A1 A2 A3 : Option Addr} {n1 n2 n3 c1 c2 c3 : Nat} (h : BxB w sec Aa na ca Ah nh ch Au nu cu cs T wx) (sec' : ByteArray) :
    BxB w sec' A1 n1 c1 A2 n2 c2 A3 n3 c3 cs T ((((wx.setCell ⟨w.heap.size, 0, none⟩ (.string sec')).setCell ⟨w.heap.size, 1, none⟩ (.slice A1 n1 c1)).setCell ⟨w.heap.size, 2, none⟩ (.slice A2 n2 c2)).setCell ⟨w.heap.size, 3, none⟩ (.slice A3 n3 c3)) := by
  have hne1 : w.heap.size + 1 ≠ w.heap.size := by omega
  have hne2 : w.heap.size + 1 + 1 ≠ w.heap.size := by omega
  refine ⟨?_, ?_, ?_, (((h.bel.setCell (p := ⟨w.heap.size, 0, none⟩) (Nat.le_refl _) _).setCell (p := ⟨w.heap.size, 1, none⟩) (Nat.le_refl _) _).setCell (p := ⟨w.heap.size, 2, none⟩) (Nat.le_refl _) _).setCell (p := ⟨w.heap.size, 3, none⟩) (Nat.le_refl _) _, by simpa using h.size⟩
  · have e0 := heap_setCell_same wx w.heap.size 0 _ _ (.string sec') h.box
    have e1 := heap_setCell_same _ w.heap.size 1 _ _ (.slice A1 n1 c1) e0
    have e2 := heap_setCell_same _ w.heap.size 2 _ _ (.slice A2 n2 c2) e1
    have e3 := heap_setCell_same _ w.heap.size 3 _ _ (.slice A3 n3 c3) e2
    exact e3
  · rw [heap_setCell_other _ _ _ _ hne1, heap_setCell_other _ _ _ _ hne1, heap_setCell_other _ _ _ _ hne1, heap_setCell_other _ _ _ _ hne1]
    exact h.arg
  · rw [heap_setCell_other _ _ _ _ hne2, heap_setCell_other _ _ _ _ hne2, heap_setCell_other _ _ _ _ hne2, heap_setCell_other _ _ _ _ hne2]
    exact h.res
end
section
theorem BxB.far {w wx w' : World} {sec : ByteArray} {Aa : Option Addr} {na ca : Nat} {Ah : Option Addr} {nh ch : Nat} {Au : Option Addr} {nu cu : Nat} {cs : Array Value} {T : TypeId} (h : BxB w sec Aa na ca Ah nh ch Au nu cu cs T wx) (hb : Below (w.heap.size + 3) wx w') : BxB w sec Aa na ca Ah nh ch Au nu cu cs T w' :=
  ⟨(hb.block _ (by omega)).trans h.box, (hb.block _ (by omega)).trans h.arg, (hb.block _ (by omega)).trans h.res, h.bel.trans (hb.mono (Nat.le_add_right _ 3)), Nat.le_trans h.size hb.size⟩
end
section
variable {w wx w' : World} {sec : ByteArray} {Aa : Option Addr} {na ca : Nat} {Ah : Option Addr} {nh ch : Nat} {Au : Option Addr} {nu cu : Nat} {cs : Array Value} {T : TypeId}
/-- One cell of the wallet's box is written. -/
theorem BxB.put1 {A' : Option Addr} {n' c' : Nat} (h : BxB w sec Aa na ca Ah nh ch Au nu cu cs T wx) : BxB w sec A' n' c' Ah nh ch Au nu cu cs T (wx.setCell ⟨w.heap.size, 1, none⟩ (.slice A' n' c')) :=
  ⟨heap_setCell_same wx w.heap.size 1 _ _ _ h.box, (heap_setCell_other _ _ _ _ (show w.heap.size + 1 ≠ w.heap.size by omega)).trans h.arg, (heap_setCell_other _ _ _ _ (show w.heap.size + 1 + 1 ≠ w.heap.size by omega)).trans h.res, h.bel.setCell (p := ⟨w.heap.size, 1, none⟩) (Nat.le_refl _) _, by simpa using h.size⟩
theorem BxB.put2 {A' : Option Addr} {n' c' : Nat} (h : BxB w sec Aa na ca Ah nh ch Au nu cu cs T wx) : BxB w sec Aa na ca A' n' c' Au nu cu cs T (wx.setCell ⟨w.heap.size, 2, none⟩ (.slice A' n' c')) :=
  ⟨heap_setCell_same wx w.heap.size 2 _ _ _ h.box, (heap_setCell_other _ _ _ _ (show w.heap.size + 1 ≠ w.heap.size by omega)).trans h.arg, (heap_setCell_other _ _ _ _ (show w.heap.size + 1 + 1 ≠ w.heap.size by omega)).trans h.res, h.bel.setCell (p := ⟨w.heap.size, 2, none⟩) (Nat.le_refl _) _, by simpa using h.size⟩
/-- The end: the wallet is laid into the result. -/
theorem BxB.fin {qs : List Az} {hs : List Hz} {us : List Uz} {A1 A2 A3 : Option Addr} {n1 n2 n3 c1 c2 c3 : Nat} (h : BxB w sec Aa na ca Ah nh ch Au nu cu cs T wx) (o : OwnW wx (w.heap.size + 3) qs hs us (.slice A1 n1 c1) (.slice A2 n2 c2) (.slice A3 n3 c3)) (h1 : qs.length = n1) (h2 : hs.length = n2) (h3 : us.length = n3) (v0 v1 v2 v3 : Value) :
    WalM ((((wx.setCell ⟨w.heap.size + 1 + 1, 0, none⟩ v0).setCell ⟨w.heap.size + 1 + 1, 1, none⟩ v1).setCell ⟨w.heap.size + 1 + 1, 2, none⟩ v2).setCell ⟨w.heap.size + 1 + 1, 3, none⟩ v3) (fun g => w.heap.size ≤ g ∧ g < ((((wx.setCell ⟨w.heap.size + 1 + 1, 0, none⟩ v0).setCell ⟨w.heap.size + 1 + 1, 1, none⟩ v1).setCell ⟨w.heap.size + 1 + 1, 2, none⟩ v2).setCell ⟨w.heap.size + 1 + 1, 3, none⟩ v3).heap.size) qs hs us A1 A2 A3 ∧
    Below w.heap.size w ((((wx.setCell ⟨w.heap.size + 1 + 1, 0, none⟩ v0).setCell ⟨w.heap.size + 1 + 1, 1, none⟩ v1).setCell ⟨w.heap.size + 1 + 1, 2, none⟩ v2).setCell ⟨w.heap.size + 1 + 1, 3, none⟩ v3) := by
  subst h1 h2 h3
  have hl : w.heap.size ≤ w.heap.size + 1 + 1 := by omega
  refine ⟨?_, (((h.bel.setCell (p := ⟨w.heap.size + 1 + 1, 0, none⟩) hl _).setCell (p := ⟨w.heap.size + 1 + 1, 1, none⟩) hl _).setCell (p := ⟨w.heap.size + 1 + 1, 2, none⟩) hl _).setCell (p := ⟨w.heap.size + 1 + 1, 3, none⟩) hl _⟩
  have o' := ((((o.set (a := ⟨w.heap.size + 1 + 1, 0, none⟩) (by simp) v0).set (a := ⟨w.heap.size + 1 + 1, 1, none⟩) (by simp) v1).set (a := ⟨w.heap.size + 1 + 1, 2, none⟩) (by simp) v2).set (a := ⟨w.heap.size + 1 + 1, 3, none⟩) (by simp) v3)
  exact o'.form.mono fun g hg => ⟨by have := hg.1; omega, hg.2⟩
end
theorem cellsA_app (a b : List Az) : cellsA (a ++ b) = cellsA a ++ cellsA b := by
  induction a with
  | nil => rfl
  | cons x r ih => obtain ⟨i, s, n, x, b⟩ := x; simp only [List.cons_append, cellsA, ih]
/-- The row of requests has changed: grown, or written within. -/
theorem OwnW.appA {w w' : World} {base : Nat} {qs qs' : List Az} {hs : List Hz} {us : List Uz} {vA vH vU vA' : Value} (h : OwnW w base qs hs us vA vH vU) (o : w'.ownsRow base 40 5 vA' qs'.length (cellsA qs')) (hg : w.grownBy w' vA.ownBlock) (hv : vA'.ownBlock = vA.ownBlock ∨ vA'.ownBlock = some w.heap.size) : OwnW w' base qs' hs us vA' vH vU := by
  obtain ⟨L, h1, h2⟩ := h.h
  have hnew : ∀ g, g < w.heap.size → vA.ownBlock ≠ some g → vA'.ownBlock ≠ some g := fun g hl hn e => by
    rcases hv with hv | hv
    · rw [hv] at e; exact hn e
    · rw [hv] at e; injection e with e; omega
  refine ⟨o, ⟨L, owns_grown h1 hg (fun g e1 e2 => h.ah g e2 e1), (h2.keep fun p hp => World.cell?_of_block (hg.block p.block hp.2.1 (fun e => hp.2.2.1 e.symm))).mono fun g hp => ⟨hp.1, Nat.lt_of_lt_of_le hp.2.1 hg.size, hnew g hp.2.1 hp.2.2.1, hp.2.2.2.1, hp.2.2.2.2⟩⟩, owns_grown h.u hg (fun g e1 e2 => h.au g e2 e1), fun g e1 e2 => hnew g (h1.lt _ e2).2 (fun e => h.ah g e e2) e1, fun g e1 e2 => hnew g (h.u.lt _ e2).2 (fun e => h.au g e e2) e1, h.hu⟩
end Go.Proofs.YtjhlddlocpkhkaaGreat

namespace Go.Proofs.YtjhlddlocpkhkaaGreat
open Go.RowKit
set_option maxRecDepth 100000
set_option linter.unusedVariables false
set_option maxHeartbeats 8000000
/-- What a change of a wallet hands back where it goes well. -/
def ChGot (w : World) (sec : ByteArray) (qs : List Az) (hs : List Hz) (us : List Uz) (o : Ending) (w' : World) : Prop :=
  ∃ A1 n1 c1 A2 n2 c2 A3 n3 c3, o = .returned (.tuple #[.agg #[.string sec, .slice A1 n1 c1, .slice A2 n2 c2, .slice A3 n3 c3], .int .i64 0]) ∧ n1 = qs.length ∧ n2 = hs.length ∧ n3 = us.length ∧ WalM w' (fun g => w.heap.size ≤ g ∧ g < w'.heap.size) qs hs us A1 A2 A3 ∧ Below w.heap.size w w'
/-- What it hands back with an error. -/
def ChErr (w : World) (e : Int) (o : Ending) (w' : World) : Prop := o = .returned (.tuple #[.agg #[.string ⟨#[]⟩, .slice none 0 0, .slice none 0 0, .slice none 0 0], .int .i64 e]) ∧ Below w.heap.size w w'
theorem wal_ask_ok (sec : ByteArray) (qs : List Az) (hs : List Hz) (us : List Uz) (Aa Ah Au : Option Addr) (na ca nh ch nu cu : Nat) (i s n x b : ByteArray) (S : Nat → Prop) (w : World) (hq : qs.length = na) (hn : hs.length = nh) (hu : us.length = nu) (hma : na < 4096) (hmh : nh ≤ 100000) (hmu : nu ≤ 100000) (hatt : ∀ x ∈ hs, x.att.length ≤ 100000) (hno : qs.any (isA n) = false) (h : WalM w S qs hs us Aa Ah Au) (hS : ∀ g, S g → g < w.heap.size) :
    Calls Tryz.prog 61 #[.agg #[.string sec, .slice Aa na ca, .slice Ah nh ch, .slice Au nu cu], .agg #[.string i, .string s, .string n, .string x, .string b]] w (ChGot w sec (qs ++ [(i, s, n, x, b)]) hs us) := by
  have HB0 := Lib.hid (BxB.start (w := w) (sec := sec) (Aa := Aa) (na := na) (ca := ca) (Ah := Ah) (nh := nh) (ch := ch) (Au := Au) (nu := nu) (cu := cu) (cs := #[.string i, .string s, .string n, .string x, .string b]) (T := 40))
  have HF := Lib.hid (fun W (hb : BxB w sec Aa na ca Ah nh ch Au nu cu #[.string i, .string s, .string n, .string x, .string b] 40 W) => contains_ask qs Aa na ca S n (w.heap.size + 1) W hq (by omega) (h.keep (fun q hq => hb.bel.cell (hS _ hq))).a (fun g hg => Nat.lt_of_lt_of_le (hS g hg) hb.bel.size) (cell_of_row W _ 2 _ _ _ hb.arg) (by have := hb.size; omega))
  rw [hno] at HF
  have HC := Lib.hid (fun W (hb : Below w.heap.size w W) => wal_copied sec qs hs us Aa Ah Au na ca nh ch nu cu S W hq hn hu (by omega) hmh hmu hatt (h.keep (fun q hq => hb.cell (hS _ hq))) (fun g hg => Nat.lt_of_lt_of_le (hS g hg) hb.size))
  have HQ := Lib.hid (And.intro hq (And.intro hn hu))
  have HMA := Lib.hid hma
  have hmf : ∀ (fn : Fn) (first cap : Array Value) (w : World), (Instr.makeFunc fn first cap).run Tryz.prog w = .ok (.func fn first cap) w := fun _ _ _ _ => rfl
  clear h hS hq hn hatt hma hmh hmu hu hno
  have k4 : (4096 ≤ (na : Int)) = False := by have := HMA.out; simp; omega
  have k5 : decide ((4096 : Int) ≤ (na : Int)) = false := by have := HMA.out; exact decide_eq_false (by omega)
  go_enter Tryz.func61, Tryz.ntmps61
  go_upto_region 5 with (go_at_call 93; (with_reducible refine (HF.out _ HB0.out).mono ?_); rintro e w1 ⟨rfl, hb1⟩; have HB1 := Lib.hid (HB0.out.next hb1); obtain ⟨⟨x0, x1, x2, x3⟩, y0, y1, y2, y3⟩ := HB1.out.bc; clear hb1)
  go_upto_region 6 with (go_at_call 67; (with_reducible refine (HC.out _ HB1.out.bel).mono ?_); rintro e w2 ⟨A1, c1, A2, c2, A3, c3, rfl, how, hb2⟩; have HB2 := Lib.hid (HB1.out.next hb2); have HO2 := Lib.hid how; obtain ⟨⟨x0, x1, x2, x3⟩, y0, y1, y2, y3⟩ := HB2.out.bc; clear how hb2)
  have HB3 := Lib.hid (HB2.out.put (A1 := A1) (n1 := na) (c1 := c1) (A2 := A2) (n2 := nh) (c2 := c2) (A3 := A3) (n3 := nu) (c3 := c3) sec)
  have HO3 : Hid (OwnW ((((w2.setCell ⟨w.heap.size, 0, none⟩ (.string sec)).setCell ⟨w.heap.size, 1, none⟩ (.slice A1 na c1)).setCell ⟨w.heap.size, 2, none⟩ (.slice A2 nh c2)).setCell ⟨w.heap.size, 3, none⟩ (.slice A3 nu c3)) (w.heap.size + 3) qs hs us (.slice A1 na c1) (.slice A2 nh c2) (.slice A3 nu c3)) := Lib.hid ((((((HO2.out.mono HB1.out.size).set (a := ⟨w.heap.size, 0, none⟩) (by simp) _).set (a := ⟨w.heap.size, 1, none⟩) (by simp) _).set (a := ⟨w.heap.size, 2, none⟩) (by simp) _).set (a := ⟨w.heap.size, 3, none⟩) (by simp) _))
  clear x0 x1 x2 x3 y0 y1 y2 y3
  obtain ⟨w3, hw3⟩ : ∃ w3, ((((w2.setCell ⟨w.heap.size, 0, none⟩ (.string sec)).setCell ⟨w.heap.size, 1, none⟩ (.slice A1 na c1)).setCell ⟨w.heap.size, 2, none⟩ (.slice A2 nh c2)).setCell ⟨w.heap.size, 3, none⟩ (.slice A3 nu c3)) = w3 := ⟨_, rfl⟩
  rw [hw3] at HB3 HO3 ⊢
  clear hw3
  obtain ⟨⟨x0, x1, x2, x3⟩, y0, y1, y2, y3⟩ := HB3.out.bc
  have z0 := cell_of_row w3 _ 0 _ _ _ HB3.out.arg
  have z1 := cell_of_row w3 _ 1 _ _ _ HB3.out.arg
  have z2 := cell_of_row w3 _ 2 _ _ _ HB3.out.arg
  have z3 := cell_of_row w3 _ 3 _ _ _ HB3.out.arg
  have z4 := cell_of_row w3 _ 4 _ _ _ HB3.out.arg
  obtain ⟨ti, hi, hz, hs1, hb1⟩ := infoE_A
  have HONE : Hid (∀ u ∈ [Value.string i, .string s, .string n, .string x, .string b], u.oneCell' = true) := Lib.hid (cellsA_one [(i, s, n, x, b)])
  have HRN := Lib.hid (reads_new w3 [.string i, .string s, .string n, .string x, .string b] 40 5 rfl)
  have HOA := Lib.hid (HO3.out.next ((Below.refl _ w3).alloc (Nat.le_refl _) (.cells #[.string i, .string s, .string n, .string x, .string b] 40)))
  have HBA := Lib.hid (HB3.out.next ((Below.refl _ w3).alloc (Nat.le_refl _) (.cells #[.string i, .string s, .string n, .string x, .string b] 40)))
  go_wp2_with (at_builtin; go_loud (refine wpList_append_any _ rfl _ _ 23 rfl (w.heap.size + 3) 40 ti (.agg #[.string ByteArray.empty, .string ByteArray.empty, .string ByteArray.empty, .string ByteArray.empty, .string ByteArray.empty]) 5 80 Tryz.underlying23 hi hz hs1 hb1 rfl (by decide) (.slice A1 na c1) na (cellsA qs) rfl (by have := HOA.out.a; rw [HQ.out.1] at this; exact this) _ (some ⟨w3.heap.size, 0, none⟩) 1 _ [.string i, .string s, .string n, .string x, .string b] rfl HRN.out HONE.out (by have := HMA.out; unfold maxLen; omega) (by have := HMA.out; omega) (by have := HB3.out.size; simp; omega) ?_))
  intro v' w4 hown hgrow hv
  obtain ⟨A4, c4, rfl⟩ := owns_shape hown
  have hb4 : Below (w.heap.size + 3) (w3.alloc (.cells #[.string i, .string s, .string n, .string x, .string b] 40)) w4 := below_grown hgrow (by have := HB3.out.size; simp; omega) (fun g hg => (HOA.out.a.lt g hg).1)
  have HB4 := Lib.hid (HBA.out.far hb4)
  have ho4 : OwnW w4 (w.heap.size + 3) (qs ++ [(i, s, n, x, b)]) hs us (.slice A4 (na + 1) c4) (.slice A2 nh c2) (.slice A3 nu c3) := HOA.out.appA (by rw [cellsA_app, List.length_append, HQ.out.1]; exact hown) hgrow (by simpa using hv)
  have HO4 := Lib.hid ho4
  clear x0 x1 x2 x3 y0 y1 y2 y3 z0 z1 z2 z3 z4
  obtain ⟨⟨x0, x1, x2, x3⟩, y0, y1, y2, y3⟩ := HB4.out.bc
  clear hown hgrow hv hb4 ho4
  go_upto_region 7 with fail
  have HB5 := Lib.hid (HB4.out.put1 (A' := A4) (n' := na + 1) (c' := c4))
  have HO5 := Lib.hid (HO4.out.set (a := ⟨w.heap.size, 1, none⟩) (by simp) (.slice A4 (na + 1) c4))
  clear x0 x1 x2 x3 y0 y1 y2 y3
  obtain ⟨w5, hw5⟩ : ∃ w5, w4.setCell ⟨w.heap.size, 1, none⟩ (.slice A4 (na + 1) c4) = w5 := ⟨_, rfl⟩
  rw [hw5] at HB5 HO5 ⊢
  clear hw5
  obtain ⟨⟨x0, x1, x2, x3⟩, y0, y1, y2, y3⟩ := HB5.out.bc
  obtain ⟨⟨r0, r1, r2, r3⟩, g0, g1, g2, g3⟩ := HB5.out.rc
  go_wp2_with fail
  have HF := HB5.out.fin HO5.out (by rw [List.length_append, HQ.out.1]; rfl) HQ.out.2.1 HQ.out.2.2 (.string sec) (.slice A4 (na + 1) c4) (.slice A2 nh c2) (.slice A3 nu c3)
  refine bodyPost_ret (v := .tuple #[.agg #[.string sec, .slice A4 (na + 1) c4, .slice A2 nh c2, .slice A3 nu c3], .int .i64 0]) (by simp [results, Tryz.results61, go_sem, r0, r1, r2, r3]) rfl ?_
  exact ⟨A4, na + 1, c4, A2, nh, c2, A3, nu, c3, rfl, by rw [List.length_append, HQ.out.1]; rfl, HQ.out.2.1.symm, HQ.out.2.2.symm, HF.1, HF.2⟩
theorem wal_ask_twice (sec : ByteArray) (qs : List Az) (hs : List Hz) (us : List Uz) (Aa Ah Au : Option Addr) (na ca nh ch nu cu : Nat) (i s n x b : ByteArray) (S : Nat → Prop) (w : World) (hq : qs.length = na) (hma : na < 4096) (hno : qs.any (isA n) = true) (h : WalM w S qs hs us Aa Ah Au) (hS : ∀ g, S g → g < w.heap.size) :
    Calls Tryz.prog 61 #[.agg #[.string sec, .slice Aa na ca, .slice Ah nh ch, .slice Au nu cu], .agg #[.string i, .string s, .string n, .string x, .string b]] w (ChErr w 8) := by
  have HB0 := Lib.hid (BxB.start (w := w) (sec := sec) (Aa := Aa) (na := na) (ca := ca) (Ah := Ah) (nh := nh) (ch := ch) (Au := Au) (nu := nu) (cu := cu) (cs := #[.string i, .string s, .string n, .string x, .string b]) (T := 40))
  have HF := Lib.hid (fun W (hb : BxB w sec Aa na ca Ah nh ch Au nu cu #[.string i, .string s, .string n, .string x, .string b] 40 W) => contains_ask qs Aa na ca S n (w.heap.size + 1) W hq (by omega) (h.keep (fun q hq => hb.bel.cell (hS _ hq))).a (fun g hg => Nat.lt_of_lt_of_le (hS g hg) hb.bel.size) (cell_of_row W _ 2 _ _ _ hb.arg) (by have := hb.size; omega))
  rw [hno] at HF
  have hmf : ∀ (fn : Fn) (first cap : Array Value) (w : World), (Instr.makeFunc fn first cap).run Tryz.prog w = .ok (.func fn first cap) w := fun _ _ _ _ => rfl
  clear h hS hq hma hno
  go_enter Tryz.func61, Tryz.ntmps61
  go_wp2_with (go_at_call 93; (with_reducible refine (HF.out _ HB0.out).mono ?_); rintro e w1 ⟨rfl, hb1⟩; have HB1 := Lib.hid (HB0.out.next hb1); obtain ⟨⟨r0, r1, r2, r3⟩, g0, g1, g2, g3⟩ := HB1.out.rc; clear hb1)
  refine bodyPost_ret (v := .tuple #[.agg #[.string ⟨#[]⟩, .slice none 0 0, .slice none 0 0, .slice none 0 0], .int .i64 8]) (by simp [results, Tryz.results61, go_sem, r0, r1, r2, r3]) rfl ?_
  have hl : w.heap.size ≤ w.heap.size + 1 + 1 := by omega
  exact ⟨rfl, (((HB1.out.bel.setCell (p := ⟨w.heap.size + 1 + 1, 0, none⟩) hl _).setCell (p := ⟨w.heap.size + 1 + 1, 1, none⟩) hl _).setCell (p := ⟨w.heap.size + 1 + 1, 2, none⟩) hl _).setCell (p := ⟨w.heap.size + 1 + 1, 3, none⟩) hl _⟩
end Go.Proofs.YtjhlddlocpkhkaaGreat

namespace Go.Proofs.YtjhlddlocpkhkaaGreat
open Go.RowKit
set_option maxRecDepth 100000
set_option linter.unusedVariables false
set_option maxHeartbeats 4000000
/-- append of a row of items to a row of the call's own. -/
theorem wpList_append_Is {w : World} {ops : Array Oper} {rest : List Oper} {o : Oper} {a : Act} {Q : Exit → Act → World → Prop} (hgd : o.guard = none) (s x : Operand)
    (ho : o.op = .call { callee := .builtin .append, args := #[s, x], argTypes := #[61, 61] })
    (base : Nat) (v : Value) (l : Its) (hs : a.eval s = v) (hown : OwnI w base v l) (m : Its) (S : Nat → Prop) (A : Option Addr) (c : Nat) (hx : a.eval x = .slice A m.len c)
    (hm : SlI w S A m) (hS : ∀ g, S g → g < base) (hsz : l.len ≤ 100000) (hmz : m.len ≤ 100000) (hbase : base ≤ w.heap.size)
    (h : ∀ A' c' w', SlI w' (fun g => g < w'.heap.size) A' (l.app m) → Below base w w' → wpList Tryz.prog ops Q rest (a.put o.dst (.slice A' (l.app m).len c')) w') : wpList Tryz.prog ops Q (o :: rest) a w := by
  obtain ⟨i, hi, hz, hs1, hb1⟩ := itemE
  have hbk := hown.blockOf
  obtain ⟨L, h1, h2⟩ := hown
  obtain ⟨L2, r2, q2⟩ := hm
  have hr : Reads w w.heap.size 4 A m.len L2 := ⟨q2.length, fun hn => by
    obtain ⟨g, off, e, hg, hc⟩ := r2 hn
    exact ⟨_, e, Nat.lt_of_lt_of_le (hS _ hg) hbase, fun j u hu => by rw [addr_add]; exact hc j u hu⟩⟩
  refine wpList_append_any w hgd s x 61 ho base 63 i (.agg #[.int .i64 0, .string ByteArray.empty, .string ByteArray.empty, .slice none 0 0]) 4 64 Tryz.underlying61 hi hz hs1 hb1 rfl (by decide) v l.len L hs h1 w.heap.size A m.len c L2 hx hr q2.one (by unfold maxLen; omega) (by omega) hbase ?_
  intro v' w' g1 g2 g3
  have k1 : RelI w' (fun g => g < w'.heap.size) l L := (h2.keep fun p hp => World.cell?_of_block (g2.block p.block hp.2.1 (fun e => hp.2.2 e.symm))).mono fun g hg => Nat.lt_of_lt_of_le hg.2.1 g2.size
  have k2 : RelI w' (fun g => g < w'.heap.size) m L2 := (q2.keep fun p hp => World.cell?_of_block (g2.block p.block (Nat.lt_of_lt_of_le (hS _ hp) hbase) (fun e => by have h3 := (hbk p.block (by first | exact e | exact e.symm)).1; have := hS _ hp; omega))).mono fun g hg => Nat.lt_of_lt_of_le (Nat.lt_of_lt_of_le (hS g hg) hbase) g2.size
  have hbe := below_grown g2 hbase fun k hk => (hbk k hk).1
  rcases g1.2 with ⟨rfl, h0⟩ | ⟨g, cap, cur, rfl, hb, hg, _⟩
  · have e : (l.app m).len = 0 := by rw [Its.len_app]; omega
    have := h none 0 w' ⟨L ++ L2, fun hn => absurd hn (by omega), k1.app k2⟩ hbe
    rwa [e] at this
  · have e : (l.app m).len = l.len + m.len := Its.len_app l m
    have := h (some ⟨g, 0, none⟩) cap w' ⟨L ++ L2, fun _ => ⟨g, 0, rfl, (Array.getElem?_eq_some_iff.1 hg).1, fun j u hu => by have h4 := g1.cells (g := g) rfl j u hu; rwa [addr_add] at h4⟩, k1.app k2⟩ hbe
    rwa [e] at this
/-- A new row of one item. -/
theorem own_one (W : World) (base : Nat) (hb : base ≤ W.heap.size) (k : Int) (n t : ByteArray) :
    OwnI (W.alloc (.cells #[.int .i64 k, .string n, .string t, .slice none 0 0] 63)) base (.slice (some ⟨W.heap.size, 0, none⟩) 1 1) (.cons k n t .nil .nil) :=
  ⟨[.int .i64 k, .string n, .string t, .slice none 0 0], ⟨rfl, .inr ⟨W.heap.size, 1, _, rfl, hb, heap_alloc_new W _, Nat.le_refl _, by decide, rfl, rfl⟩⟩,
    none, 0, [], [], rfl, fun h => absurd h (by simp [Its.len]), rfl, rfl⟩
theorem wal_entry (name : ByteArray) (l : Its) (A : Option Addr) (c : Nat) (S : Nat → Prop) (w : World) (hsz : l.size ≤ 10000) (hsl : SlI w S A l) (hS : ∀ g, S g → g < w.heap.size) (hel : (encOne (2, ⟨#[]⟩, ⟨#[]⟩, .cons 1 ⟨#[]⟩ name .nil l)).length ≤ 200000000) :
    Calls Tryz.prog 87 #[.string name, .slice A l.len c] w fun e w' => e = .returned (.tuple #[.string (encS (2, ⟨#[]⟩, ⟨#[]⟩, .cons 1 ⟨#[]⟩ name .nil l)).1, .int .i64 (encS (2, ⟨#[]⟩, ⟨#[]⟩, .cons 1 ⟨#[]⟩ name .nil l)).2]) ∧ Below w.heap.size w w' := by
  have HT := Lib.hid (fun W => enc_Text name W)
  have HSL := Lib.hid hsl
  have HS := Lib.hid hS
  have hll : l.len ≤ 100000 := Nat.le_trans (Its.len_size l) (Nat.le_trans hsz (by decide))
  obtain ⟨m, hm⟩ : ∃ m, Its.cons 1 ⟨#[]⟩ name .nil l = m := ⟨_, rfl⟩
  have hap : (Its.cons 1 ⟨#[]⟩ name .nil .nil).app l = m := by rw [← hm]; rfl
  have hmz : m.size ≤ 100000 := by rw [← hm]; simp only [Its.size]; omega
  rw [hm] at hel ⊢
  have HLI := Lib.hid (fun A' c' W (h : SlI W (fun g => g < W.heap.size) A' m) => enc_List m A' c' (fun g => g < W.heap.size) W hmz h (fun g hg => hg))
  have HEC := Lib.hid (fun A' c' W S' (h : SlI W S' A' m) (hS' : ∀ g, S' g → g < W.heap.size) => enc_Encode (2, ⟨#[]⟩, ⟨#[]⟩, m) A' c' S' W hmz hel h hS')
  unfold valI at HEC
  dsimp only at HEC
  obtain ⟨r, hr⟩ : ∃ r, encS (2, ⟨#[]⟩, ⟨#[]⟩, m) = r := ⟨_, rfl⟩
  rw [hr] at HEC ⊢
  have HMZ := Lib.hid (And.intro hap (And.intro hll hmz))
  clear hsl hS hsz hel hm hap hmz hr hll
  go_enter Tryz.func87, Tryz.ntmps87
  go_wp2_with (first
    | (go_at_call 78; (with_reducible refine (HT.out _).mono ?_); rintro e w1 ⟨rfl, hb1⟩; have HB1 := Lib.hid hb1; clear hb1)
    | (at_builtin; go_loud (refine wpList_append_Is rfl (.tmp 8) (.tmp 9) rfl w.heap.size (.slice (some ⟨w1.heap.size, 0, none⟩) 1 1) (.cons 1 ⟨#[]⟩ name .nil .nil) (by simp [Act.eval]) (own_one w1 w.heap.size HB1.out.size 1 ⟨#[]⟩ name) l S A c (by simp [Act.eval]) (HSL.out.below (HB1.out.alloc HB1.out.size _) HS.out) HS.out (by simp [Its.len]) HMZ.out.2.1 (by have := HB1.out.size; simp; omega) ?_); intro A3 c3 w3 hs3 hb3; rw [HMZ.out.1] at hs3; rw [HMZ.out.1]; have HB3 := Lib.hid (And.intro hs3 ((HB1.out.alloc HB1.out.size _).trans hb3)); clear hs3 hb3)
    | (go_at_call 113; (with_reducible refine (HLI.out _ _ _ HB3.out.1).mono ?_); rintro e w4 ⟨A4, c4, rfl, hs4, hb4⟩; have HB4 := Lib.hid (And.intro hs4 (below2 HB3.out.2 hb4)); clear hs4 hb4)
    | (go_at_call 121; (with_reducible refine (HEC.out _ _ _ _ HB4.out.1 (fun g hg => hg.2)).mono ?_); rintro e w5 ⟨rfl, hb5⟩; have HB5 := Lib.hid (below2 HB4.out.2 hb5); clear hb5))
  go_ret2
  exact ⟨rfl, HB5.out⟩
theorem wal_changed (sec : ByteArray) (Aa Ah Au : Option Addr) (na ca nh ch nu cu : Nat) (name : ByteArray) (l : Its) (A : Option Addr) (c : Nat) (S : Nat → Prop) (w : World) (hsz : l.size ≤ 10000) (hsl : SlI w S A l) (hS : ∀ g, S g → g < w.heap.size) (hel : (encOne (2, ⟨#[]⟩, ⟨#[]⟩, .cons 1 ⟨#[]⟩ name .nil l)).length ≤ 200000000) (hok : (encS (2, ⟨#[]⟩, ⟨#[]⟩, .cons 1 ⟨#[]⟩ name .nil l)).2 = 0) :
    Calls Tryz.prog 53 #[.agg #[.string sec, .slice Aa na ca, .slice Ah nh ch, .slice Au nu cu], .int .i64 0, .string name, .slice A l.len c] w fun e w' => e = .returned (.tuple #[.agg #[.string sec, .slice Aa na ca, .slice Ah nh ch, .slice Au nu cu], .string (encS (2, ⟨#[]⟩, ⟨#[]⟩, .cons 1 ⟨#[]⟩ name .nil l)).1, .int .i64 0]) ∧ Below w.heap.size w w' := by
  have HE := Lib.hid (fun W (hb : Below w.heap.size w W) => wal_entry name l A c S W hsz (hsl.below hb hS) (fun g hg => Nat.lt_of_lt_of_le (hS g hg) hb.size) hel)
  rw [hok] at HE
  generalize (encS (2, ⟨#[]⟩, ⟨#[]⟩, .cons 1 ⟨#[]⟩ name .nil l)).1 = r at HE ⊢
  clear hsz hsl hS hel hok
  have HB0 := Lib.hid (And.intro (two_boxes w (.cells #[.string sec, .slice Aa na ca, .slice Ah nh ch, .slice Au nu cu] 27) (.cells #[.string ⟨#[]⟩, .slice none 0 0, .slice none 0 0, .slice none 0 0] 27))
    (((Below.refl w.heap.size w).alloc (Nat.le_refl _) (.cells #[.string sec, .slice Aa na ca, .slice Ah nh ch, .slice Au nu cu] 27)).alloc (by simp) (.cells #[.string ⟨#[]⟩, .slice none 0 0, .slice none 0 0, .slice none 0 0] 27)))
  have hsz0 : w.heap.size + 1 < ((w.alloc (.cells #[.string sec, .slice Aa na ca, .slice Ah nh ch, .slice Au nu cu] 27)).alloc (.cells #[.string ⟨#[]⟩, .slice none 0 0, .slice none 0 0, .slice none 0 0] 27)).heap.size := by simp
  have HZ := Lib.hid hsz0
  clear hsz0
  go_enter Tryz.func53, Tryz.ntmps53
  go_wp2_with (first
    | (go_at_call 87; (with_reducible refine (HE.out _ HB0.out.2).mono ?_); rintro e w1 ⟨rfl, hb1⟩; have hbx := (hb1.block _ (Nat.lt_of_succ_lt HZ.out)).trans HB0.out.1.1; have hres := (hb1.block _ HZ.out).trans HB0.out.1.2; have HB1 := Lib.hid (below2 HB0.out.2 hb1); have x0 := cell_of_row w1 _ 0 _ _ _ hbx; have x1 := cell_of_row w1 _ 1 _ _ _ hbx; have x2 := cell_of_row w1 _ 2 _ _ _ hbx; have x3 := cell_of_row w1 _ 3 _ _ _ hbx; have r0 := cell_of_row w1 _ 0 _ _ _ hres; have r1 := cell_of_row w1 _ 1 _ _ _ hres; have r2 := cell_of_row w1 _ 2 _ _ _ hres; have r3 := cell_of_row w1 _ 3 _ _ _ hres; have g0 := frozen_of_row w1 _ 0 _ _ hres; have g1 := frozen_of_row w1 _ 1 _ _ hres; have g2 := frozen_of_row w1 _ 2 _ _ hres; have g3 := frozen_of_row w1 _ 3 _ _ hres; clear hb1 hbx hres))
  refine bodyPost_ret (v := .tuple #[.agg #[.string sec, .slice Aa na ca, .slice Ah nh ch, .slice Au nu cu], .string r, .int .i64 0]) (by simp [results, Tryz.results53, go_sem, r0, r1, r2, r3]) rfl ?_
  exact ⟨rfl, (((HB1.out.setCell (p := ⟨w.heap.size + 1, 0, none⟩) (Nat.le_succ _) _).setCell (p := ⟨w.heap.size + 1, 1, none⟩) (Nat.le_succ _) _).setCell (p := ⟨w.heap.size + 1, 2, none⟩) (Nat.le_succ _) _).setCell (p := ⟨w.heap.size + 1, 3, none⟩) (Nat.le_succ _) _⟩
theorem lenF_le (f n : Nat) : (lenF f n).length ≤ f := by
  induction f generalizing n with
  | zero => simp [lenF]
  | succ f ih =>
    unfold lenF
    split
    · simp
    · have := ih (n / 128)
      simp only [List.length_cons]
      omega
theorem lenB_le (n : Nat) : (lenB n).length ≤ 10 := lenF_le 10 n
theorem encI_le (k : Int) (n t : ByteArray) (l r : Its) : (encI (.cons k n t l r)).length ≤ 11 + n.size + t.size + (encI l).length + (encI r).length := by
  have h := lenB_le (n.data.toList ++ (t.data.toList ++ encI l)).length
  have h1 : n.data.toList.length = n.size := by rw [Array.length_toList]; rfl
  have h2 : t.data.toList.length = t.size := by rw [Array.length_toList]; rfl
  simp only [encI, List.length_append, List.length_cons] at *
  omega
theorem encI_nil : (encI .nil).length = 0 := rfl
theorem size_nil : (⟨#[]⟩ : ByteArray).size = 0 := rfl
theorem natAbs_lt {z : Int} (h : -9223372036854775808 ≤ z ∧ z ≤ 9223372036854775807) : z.natAbs < 256 ^ 8 := by omega
theorem intIt_le {z : Int} (h : -9223372036854775808 ≤ z ∧ z ≤ 9223372036854775807) : (encI (intIt z)).length ≤ 31 := by
  have hb : (B z.natAbs).size ≤ 8 := B_size_le'.2 (natAbs_lt h)
  have hs : (if decide (z < 0) then B 1 else ⟨#[]⟩).size ≤ 1 := by
    split
    · exact B_size_le'.2 (by decide)
    · exact Nat.zero_le _
  unfold intIt
  have e1 := encI_le 0 (if decide (z < 0) then B 1 else ⟨#[]⟩) ⟨#[]⟩ .nil (.cons 0 (B z.natAbs) ⟨#[]⟩ .nil .nil)
  have e2 := encI_le 0 (B z.natAbs) ⟨#[]⟩ .nil .nil
  simp only [encI_nil, size_nil] at e1 e2
  omega
theorem intIt_ok {z : Int} (h : -9223372036854775808 ≤ z ∧ z ≤ 9223372036854775807) : okI (intIt z) = true := by
  have hb : valid (B z.natAbs) = true := valid_B (Nat.lt_of_lt_of_le (natAbs_lt h) (by rw [lim_eq]; exact Nat.pow_le_pow_right (by decide) (by decide)))
  have hs : valid (if decide (z < 0) then B 1 else ⟨#[]⟩) = true := by
    split
    · exact valid_B (by rw [lim_eq]; exact Nat.one_lt_pow (by decide) (by decide))
    · decide
  unfold intIt
  generalize (if decide (z < 0) then B 1 else ⟨#[]⟩) = y at hs ⊢
  simp [okI, hb, hs, Its.len]
  rfl
theorem intIt_deep (z : Int) : deepI (intIt z) = 0 := by unfold intIt; simp [deepI]
/-- The items of a count, and its entry. -/
def usedL (sc : ByteArray) (p q : Int) : Its := .cons 1 ⟨#[]⟩ sc .nil (.cons 2 ⟨#[]⟩ ⟨#[]⟩ (intIt p) (.cons 2 ⟨#[]⟩ ⟨#[]⟩ (intIt q) .nil))
def entOf (name : ByteArray) (l : Its) : Its.One := (2, ⟨#[]⟩, ⟨#[]⟩, .cons 1 ⟨#[]⟩ name .nil l)
theorem encOne_le (l : Its) : (encOne (2, ⟨#[]⟩, ⟨#[]⟩, l)).length ≤ 11 + (encI l).length := by
  have := encI_le 2 ⟨#[]⟩ ⟨#[]⟩ l .nil
  rw [← encI_one]
  unfold Its.one
  simp only [encI_nil, size_nil] at this
  exact this
theorem usedL_le {sc : ByteArray} {p q : Int} (hp : -9223372036854775808 ≤ p ∧ p ≤ 9223372036854775807) (hq : -9223372036854775808 ≤ q ∧ q ≤ 9223372036854775807) : (encI (usedL sc p q)).length ≤ 95 + sc.size := by
  have e1 := encI_le 1 ⟨#[]⟩ sc .nil (.cons 2 ⟨#[]⟩ ⟨#[]⟩ (intIt p) (.cons 2 ⟨#[]⟩ ⟨#[]⟩ (intIt q) .nil))
  have e2 := encI_le 2 ⟨#[]⟩ ⟨#[]⟩ (intIt p) (.cons 2 ⟨#[]⟩ ⟨#[]⟩ (intIt q) .nil)
  have e3 := encI_le 2 ⟨#[]⟩ ⟨#[]⟩ (intIt q) .nil
  have hp' := intIt_le hp
  have hq' := intIt_le hq
  unfold usedL
  simp only [encI_nil, size_nil] at *
  omega
theorem usedL_ok {sc : ByteArray} {p q : Int} (hp : -9223372036854775808 ≤ p ∧ p ≤ 9223372036854775807) (hq : -9223372036854775808 ≤ q ∧ q ≤ 9223372036854775807) : okI (usedL sc p q) = true := by
  unfold usedL
  simp [okI, intIt_ok hp, intIt_ok hq, Its.len, size_nil]
theorem usedL_deep (sc : ByteArray) (p q : Int) : deepI (usedL sc p q) = 1 := by
  unfold usedL
  simp [deepI, intIt_deep]
theorem usedL_size (sc : ByteArray) (p q : Int) : (usedL sc p q).size = 7 := by unfold usedL intIt; simp [Its.size]
/-- An entry of a short name and short, valid, flat items is well. -/
theorem ent_ok {name : ByteArray} {l : Its} (hn : name.size ≤ 100) (ho : okI l = true) (hd : deepI l ≤ 20) (hl : (encI l).length ≤ 60000) : (encS (entOf name l)).2 = 0 := by
  have h1 : okOne (entOf name l) = true := by
    unfold okOne entOf Its.one
    simp [okI, ho, Its.len, size_nil]
  have h2 : deepOne (entOf name l) ≤ deepMax := by
    unfold entOf deepOne deepMax
    simp [deepI]
    omega
  have h3 : (encOne (entOf name l)).length ≤ textMax := by
    have e1 := encOne_le (.cons 1 ⟨#[]⟩ name .nil l)
    have e2 := encI_le 1 ⟨#[]⟩ name .nil l
    unfold entOf textMax
    simp only [encI_nil, size_nil] at *
    omega
  unfold encS
  rw [if_pos h1, if_pos h2, if_pos h3]
theorem ent_len {name : ByteArray} {l : Its} (hn : name.size ≤ 100) (hl : (encI l).length ≤ 60000) : (encOne (entOf name l)).length ≤ 200000000 := by
  have e1 := encOne_le (.cons 1 ⟨#[]⟩ name .nil l)
  have e2 := encI_le 1 ⟨#[]⟩ name .nil l
  unfold entOf
  simp only [encI_nil, size_nil] at *
  omega
end Go.Proofs.YtjhlddlocpkhkaaGreat
