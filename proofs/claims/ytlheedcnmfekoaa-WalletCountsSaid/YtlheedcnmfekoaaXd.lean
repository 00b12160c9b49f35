/- Wallet: copied, for every wallet. -/
import Derived.Test.YtlheedcnmfekoaaXc
import Derived.Deep.DeepCutAuto
import Derived.Deep.CutBlock
namespace Go.Proofs.Ytlheedcnmfekoaa
open Go.RowKit
set_option maxRecDepth 100000
set_option linter.unusedVariables false
set_option maxHeartbeats 4000000

/-- The box of a wallet and the box of the result. -/
structure CpB (w : World) (sec : ByteArray) (Aa : Option Addr) (na ca : Nat) (Ah : Option Addr) (nh ch : Nat) (Au : Option Addr) (nu cu : Nat) (wx : World) : Prop where
  box : wx.heap[w.heap.size]? = some (.cells #[.string sec, .slice Aa na ca, .slice Ah nh ch, .slice Au nu cu] 28 (0, 0))
  res : wx.heap[w.heap.size + 1]? = some (.cells #[.string ⟨#[]⟩, .slice none 0 0, .slice none 0 0, .slice none 0 0] 28 (0, 0))
  bel : Below w.heap.size w wx
  size : w.heap.size + 2 ≤ wx.heap.size
section
variable {w wx w' : World} {sec : ByteArray} {Aa : Option Addr} {na ca : Nat} {Ah : Option Addr} {nh ch : Nat} {Au : Option Addr} {nu cu : Nat}
theorem CpB.start : CpB w sec Aa na ca Ah nh ch Au nu cu ((w.alloc (.cells #[.string sec, .slice Aa na ca, .slice Ah nh ch, .slice Au nu cu] 28)).alloc (.cells #[.string ⟨#[]⟩, .slice none 0 0, .slice none 0 0, .slice none 0 0] 28)) :=
  ⟨(two_boxes w _ _).1, (two_boxes w _ _).2, ((Below.refl _ _).alloc (Nat.le_refl _) _).alloc (by simp) _, by simp⟩
theorem CpB.next (h : CpB w sec Aa na ca Ah nh ch Au nu cu wx) (hb : Below wx.heap.size wx w') : CpB w sec Aa na ca Ah nh ch Au nu cu w' :=
  ⟨(hb.block _ (by have := h.size; omega)).trans h.box, (hb.block _ (by have := h.size; omega)).trans h.res, below2 h.bel hb, Nat.le_trans h.size hb.size⟩
theorem CpB.drew (h : CpB w sec Aa na ca Ah nh ch Au nu cu wx) : CpB w sec Aa na ca Ah nh ch Au nu cu wx.drew := h.next (Below.refl _ _).drew
theorem CpB.bc (h : CpB w sec Aa na ca Ah nh ch Au nu cu wx) : (wx.cell? ⟨w.heap.size, 0, none⟩ = some (.string sec) ∧ wx.cell? ⟨w.heap.size, 1, none⟩ = some (.slice Aa na ca) ∧ wx.cell? ⟨w.heap.size, 2, none⟩ = some (.slice Ah nh ch) ∧ wx.cell? ⟨w.heap.size, 3, none⟩ = some (.slice Au nu cu)) ∧ (wx.frozen? ⟨w.heap.size, 0, none⟩ = false ∧ wx.frozen? ⟨w.heap.size, 1, none⟩ = false ∧ wx.frozen? ⟨w.heap.size, 2, none⟩ = false ∧ wx.frozen? ⟨w.heap.size, 3, none⟩ = false) :=
  ⟨⟨cell_of_row wx _ 0 _ _ _ h.box, cell_of_row wx _ 1 _ _ _ h.box, cell_of_row wx _ 2 _ _ _ h.box, cell_of_row wx _ 3 _ _ _ h.box⟩, frozen_of_row wx _ 0 _ _ h.box, frozen_of_row wx _ 1 _ _ h.box, frozen_of_row wx _ 2 _ _ h.box, frozen_of_row wx _ 3 _ _ h.box⟩
theorem CpB.rc (h : CpB w sec Aa na ca Ah nh ch Au nu cu wx) : (wx.cell? ⟨w.heap.size + 1, 0, none⟩ = some (.string ⟨#[]⟩) ∧ wx.cell? ⟨w.heap.size + 1, 1, none⟩ = some (.slice none 0 0) ∧ wx.cell? ⟨w.heap.size + 1, 2, none⟩ = some (.slice none 0 0) ∧ wx.cell? ⟨w.heap.size + 1, 3, none⟩ = some (.slice none 0 0)) ∧ (wx.frozen? ⟨w.heap.size + 1, 0, none⟩ = false ∧ wx.frozen? ⟨w.heap.size + 1, 1, none⟩ = false ∧ wx.frozen? ⟨w.heap.size + 1, 2, none⟩ = false ∧ wx.frozen? ⟨w.heap.size + 1, 3, none⟩ = false) :=
  ⟨⟨cell_of_row wx _ 0 _ _ _ h.res, cell_of_row wx _ 1 _ _ _ h.res, cell_of_row wx _ 2 _ _ _ h.res, cell_of_row wx _ 3 _ _ _ h.res⟩, frozen_of_row wx _ 0 _ _ h.res, frozen_of_row wx _ 1 _ _ h.res, frozen_of_row wx _ 2 _ _ h.res, frozen_of_row wx _ 3 _ _ h.res⟩
end
/-- Behind the three clones: rows of the call's own below M. -/
structure CpW (w : World) (sec : ByteArray) (qs : List Az) (LH : List Value) (us : List Uz) (A1 : Option Addr) (na c1 : Nat) (A2 : Option Addr) (nh c2 : Nat) (A3 : Option Addr) (nu c3 : Nat) (M : Nat) (wx : World) : Prop where
  b : CpB w sec A1 na c1 A2 nh c2 A3 nu c3 wx
  a : wx.ownsRow (w.heap.size + 2) 37 5 (.slice A1 na c1) na (cellsA qs)
  h : wx.ownsRow (w.heap.size + 2) 44 9 (.slice A2 nh c2) nh LH
  u : wx.ownsRow (w.heap.size + 2) 56 3 (.slice A3 nu c3) nu (cellsU us)
  ah : ∀ g, (Value.slice A1 na c1).ownBlock = some g → (Value.slice A2 nh c2).ownBlock ≠ some g
  au : ∀ g, (Value.slice A1 na c1).ownBlock = some g → (Value.slice A3 nu c3).ownBlock ≠ some g
  hu : ∀ g, (Value.slice A2 nh c2).ownBlock = some g → (Value.slice A3 nu c3).ownBlock ≠ some g
  m1 : ∀ g, (Value.slice A1 na c1).ownBlock = some g → g < M
  m2 : ∀ g, (Value.slice A2 nh c2).ownBlock = some g → g < M
  m3 : ∀ g, (Value.slice A3 nu c3).ownBlock = some g → g < M
  le : w.heap.size + 2 ≤ M
  mz : M ≤ wx.heap.size
section
variable {w wx w' : World} {sec : ByteArray} {qs : List Az} {LH : List Value} {us : List Uz} {A1 : Option Addr} {na c1 : Nat} {A2 : Option Addr} {nh c2 : Nat} {A3 : Option Addr} {nu c3 M : Nat}
theorem CpW.next (h : CpW w sec qs LH us A1 na c1 A2 nh c2 A3 nu c3 M wx) (hb : Below wx.heap.size wx w') : CpW w sec qs LH us A1 na c1 A2 nh c2 A3 nu c3 M w' :=
  ⟨h.b.next hb, owns_below h.a hb, owns_below h.h hb, owns_below h.u hb, h.ah, h.au, h.hu, h.m1, h.m2, h.m3, h.le, Nat.le_trans h.mz hb.size⟩
theorem CpW.drew (h : CpW w sec qs LH us A1 na c1 A2 nh c2 A3 nu c3 M wx) : CpW w sec qs LH us A1 na c1 A2 nh c2 A3 nu c3 M wx.drew := h.next (Below.refl _ _).drew
theorem CpB.set3 {Aa Ah Au : Option Addr} {ca ch cu : Nat} (h : CpB w sec Aa na ca Ah nh ch Au nu cu wx) :
    CpB w sec A1 na c1 A2 nh c2 A3 nu c3 (((wx.setCell ⟨w.heap.size, 1, none⟩ (.slice A1 na c1)).setCell ⟨w.heap.size, 2, none⟩ (.slice A2 nh c2)).setCell ⟨w.heap.size, 3, none⟩ (.slice A3 nu c3)) := by
  refine ⟨?_, ?_, ((h.bel.setCell (p := ⟨w.heap.size, 1, none⟩) (Nat.le_refl _) _).setCell (p := ⟨w.heap.size, 2, none⟩) (Nat.le_refl _) _).setCell (p := ⟨w.heap.size, 3, none⟩) (Nat.le_refl _) _, by simpa using h.size⟩
  · have e1 := heap_setCell_same wx w.heap.size 1 _ _ (.slice A1 na c1) h.box
    have e2 := heap_setCell_same _ w.heap.size 2 _ _ (.slice A2 nh c2) e1
    have e3 := heap_setCell_same _ w.heap.size 3 _ _ (.slice A3 nu c3) e2
    exact e3
  · rw [heap_setCell_other _ _ _ _ (show w.heap.size + 1 ≠ w.heap.size by omega), heap_setCell_other _ _ _ _ (show w.heap.size + 1 ≠ w.heap.size by omega), heap_setCell_other _ _ _ _ (show w.heap.size + 1 ≠ w.heap.size by omega)]
    exact h.res
theorem owns_set3 {e : TypeId} {size : Nat} {v : Value} {n : Nat} {xs : List Value} (h : wx.ownsRow (w.heap.size + 2) e size v n xs) (v1 v2 v3 : Value) :
    (((wx.setCell ⟨w.heap.size, 1, none⟩ v1).setCell ⟨w.heap.size, 2, none⟩ v2).setCell ⟨w.heap.size, 3, none⟩ v3).ownsRow (w.heap.size + 2) e size v n xs := by
  have hne : v.ownBlock ≠ some w.heap.size := fun e => by have := (h.lt _ e).1; omega
  exact owns_set (owns_set (owns_set h hne _) hne _) hne _
end
/-- Behind the first clone, the second, the third. -/
structure CpP1 (w : World) (sec : ByteArray) (Aa : Option Addr) (na ca : Nat) (Ah : Option Addr) (nh ch : Nat) (Au : Option Addr) (nu cu : Nat) (qs : List Az) (A1 : Option Addr) (c1 : Nat) (wx : World) : Prop where
  b : CpB w sec Aa na ca Ah nh ch Au nu cu wx
  a : wx.ownsRow (w.heap.size + 2) 37 5 (.slice A1 na c1) na (cellsA qs)
structure CpP2 (w : World) (sec : ByteArray) (Aa : Option Addr) (na ca : Nat) (Ah : Option Addr) (nh ch : Nat) (Au : Option Addr) (nu cu : Nat) (qs : List Az) (A1 : Option Addr) (c1 : Nat) (LH : List Value) (A2 : Option Addr) (c2 : Nat) (wx : World) : Prop where
  p : CpP1 w sec Aa na ca Ah nh ch Au nu cu qs A1 c1 wx
  h : wx.ownsRow (w.heap.size + 2) 44 9 (.slice A2 nh c2) nh LH
  ah : ∀ g, (Value.slice A1 na c1).ownBlock = some g → (Value.slice A2 nh c2).ownBlock ≠ some g
structure CpP3 (w : World) (sec : ByteArray) (Aa : Option Addr) (na ca : Nat) (Ah : Option Addr) (nh ch : Nat) (Au : Option Addr) (nu cu : Nat) (qs : List Az) (A1 : Option Addr) (c1 : Nat) (LH : List Value) (A2 : Option Addr) (c2 : Nat) (us : List Uz) (A3 : Option Addr) (c3 : Nat) (wx : World) : Prop where
  q : CpP2 w sec Aa na ca Ah nh ch Au nu cu qs A1 c1 LH A2 c2 wx
  u : wx.ownsRow (w.heap.size + 2) 56 3 (.slice A3 nu c3) nu (cellsU us)
  au : ∀ g, (Value.slice A1 na c1).ownBlock = some g → (Value.slice A3 nu c3).ownBlock ≠ some g
  hu : ∀ g, (Value.slice A2 nh c2).ownBlock = some g → (Value.slice A3 nu c3).ownBlock ≠ some g
section
variable {w W w' : World} {sec : ByteArray} {qs : List Az} {LH : List Value} {us : List Uz} {Aa Ah Au : Option Addr} {ca ch cu : Nat} {A1 : Option Addr} {na c1 : Nat} {A2 : Option Addr} {nh c2 : Nat} {A3 : Option Addr} {nu c3 : Nat}
theorem CpB.cl (h : CpB w sec Aa na ca Ah nh ch Au nu cu W) (o : w'.ownsRow W.heap.size 37 5 (.slice A1 na c1) na (cellsA qs)) (hb : Below W.heap.size W w') : CpP1 w sec Aa na ca Ah nh ch Au nu cu qs A1 c1 w' :=
  ⟨h.next hb, owns_mono o h.size⟩
theorem CpP1.drew (h : CpP1 w sec Aa na ca Ah nh ch Au nu cu qs A1 c1 W) : CpP1 w sec Aa na ca Ah nh ch Au nu cu qs A1 c1 W.drew := ⟨h.b.drew, h.a⟩
theorem CpP2.drew (h : CpP2 w sec Aa na ca Ah nh ch Au nu cu qs A1 c1 LH A2 c2 W) : CpP2 w sec Aa na ca Ah nh ch Au nu cu qs A1 c1 LH A2 c2 W.drew := ⟨h.p.drew, h.h, h.ah⟩
theorem CpP3.drew (h : CpP3 w sec Aa na ca Ah nh ch Au nu cu qs A1 c1 LH A2 c2 us A3 c3 W) : CpP3 w sec Aa na ca Ah nh ch Au nu cu qs A1 c1 LH A2 c2 us A3 c3 W.drew := ⟨h.q.drew, h.u, h.au, h.hu⟩
theorem CpP1.cl (h : CpP1 w sec Aa na ca Ah nh ch Au nu cu qs A1 c1 W) (o : w'.ownsRow W.heap.size 44 9 (.slice A2 nh c2) nh LH) (hb : Below W.heap.size W w') : CpP2 w sec Aa na ca Ah nh ch Au nu cu qs A1 c1 LH A2 c2 w' :=
  ⟨⟨h.b.next hb, owns_below h.a hb⟩, owns_mono o h.b.size, fun g h1 h2 => by have := (h.a.lt _ h1).2; have := (o.lt _ h2).1; omega⟩
theorem CpP2.cl (h : CpP2 w sec Aa na ca Ah nh ch Au nu cu qs A1 c1 LH A2 c2 W) (o : w'.ownsRow W.heap.size 56 3 (.slice A3 nu c3) nu (cellsU us)) (hb : Below W.heap.size W w') : CpP3 w sec Aa na ca Ah nh ch Au nu cu qs A1 c1 LH A2 c2 us A3 c3 w' :=
  ⟨⟨⟨h.p.b.next hb, owns_below h.p.a hb⟩, owns_below h.h hb, h.ah⟩, owns_mono o h.p.b.size, fun g h1 h2 => by have := (h.p.a.lt _ h1).2; have := (o.lt _ h2).1; omega, fun g h1 h2 => by have := (h.h.lt _ h1).2; have := (o.lt _ h2).1; omega⟩
theorem CpP3.done (h : CpP3 w sec Aa na ca Ah nh ch Au nu cu qs A1 c1 LH A2 c2 us A3 c3 W) : 
    CpW w sec qs LH us A1 na c1 A2 nh c2 A3 nu c3 W.heap.size (((W.setCell ⟨w.heap.size, 1, none⟩ (.slice A1 na c1)).setCell ⟨w.heap.size, 2, none⟩ (.slice A2 nh c2)).setCell ⟨w.heap.size, 3, none⟩ (.slice A3 nu c3)) :=
  ⟨h.q.p.b.set3, owns_set3 h.q.p.a _ _ _, owns_set3 h.q.h _ _ _, owns_set3 h.u _ _ _, h.q.ah, h.au, h.hu, fun g hg => (h.q.p.a.lt _ hg).2, fun g hg => (h.q.h.lt _ hg).2, fun g hg => (h.u.lt _ hg).2, h.q.p.b.size, by simp⟩
/-- A round of the loop: the attributes of the credential at k are a new row. -/
theorem set_mid {La Lb : List Value} {x : Hz} {A A' : Option Addr} {c c' k : Nat} (hl : La.length = k * 9) : (La ++ (cellsH x A c ++ Lb)).set (k * 9 + 3) (.slice A' x.att.length c') = (La ++ cellsH x A' c') ++ Lb := by
  rw [List.set_append_right _ _ (by omega), hl, show k * 9 + 3 - k * 9 = 3 by omega, List.append_assoc]
  rfl
theorem CpW.step {M k g2 c2 : Nat} {La Lb : List Value} {x : Hz} {A A' : Option Addr} {c c' : Nat} (h : CpW w sec qs (La ++ (cellsH x A c ++ Lb)) us A1 na c1 (some ⟨g2, 0, none⟩) nh c2 A3 nu c3 M W) (hl : La.length = k * 9) (hb : Below W.heap.size W w') :
    CpW w sec qs ((La ++ cellsH x A' c') ++ Lb) us A1 na c1 (some ⟨g2, 0, none⟩) nh c2 A3 nu c3 M (w'.setCell ⟨g2, k * 9 + 3, none⟩ (.slice A' x.att.length c')) := by
  have h' := h.next hb
  have hg2 := (h'.h.lt g2 rfl).1
  have hs := h'.h.stored (k * 9 + 3) (.slice A' x.att.length c')
  rw [set_mid hl] at hs
  refine ⟨⟨?_, ?_, h'.b.bel.setCell (p := ⟨g2, k * 9 + 3, none⟩) (Nat.le_trans (Nat.le_add_right _ 2) hg2) _, by simpa using h'.b.size⟩, owns_set h'.a (fun e => h.ah g2 e rfl) _, hs.1, owns_set h'.u (fun e => h.hu g2 rfl e) _, h.ah, h.au, h.hu, h.m1, h.m2, h.m3, h.le, by simpa using h'.mz⟩
  · rw [heap_setCell_other _ _ _ _ (show w.heap.size ≠ g2 by omega)]
    exact h'.b.box
  · rw [heap_setCell_other _ _ _ _ (show w.heap.size + 1 ≠ g2 by omega)]
    exact h'.b.res
/-- The blocks of the attributes' new rows. -/
def newS (M : Nat) (w : World) (g : Nat) : Prop := M ≤ g ∧ g < w.heap.size
theorem rel_old {S : Nat → Prop} {hs : List Hz} {g2 i : Nat} {u : Value} (h : RelH W S hs LH) (hS : ∀ g, S g → g < W.heap.size ∧ g ≠ g2) (hb : Below W.heap.size W w') : RelH (w'.setCell ⟨g2, i, none⟩ u) S hs LH := h.keep fun p hp => by
  rw [World.cell?_setCell_other _ _ _ _ (fun e => (hS _ hp).2 (by have := congrArg Addr.block e; first | exact this | exact this.symm))]
  exact hb.cell (hS _ hp).1
theorem row_new {M g2 i c' : Nat} {A' : Option Addr} {u : Value} {n : Nat} {L : List Value} (o : w'.ownsRow W.heap.size 23 1 (.slice A' n c') n L) (hM : M ≤ W.heap.size) (hg : g2 < M) : RowC (w'.setCell ⟨g2, i, none⟩ u) (newS M (w'.setCell ⟨g2, i, none⟩ u)) A' n L :=
  ((owns_row o).keep (fun p hp => World.cell?_setCell_other _ _ _ _ (fun e => by have := congrArg Addr.block e; simp at this; omega))).mono fun g hg' => ⟨by omega, by simpa using hg'.2⟩
theorem CpW.fin {M : Nat} {hs : List Hz} (h : CpW w sec qs LH us A1 na c1 A2 nh c2 A3 nu c3 M W) (hr : RelH W (newS M W) hs LH) (hq : qs.length = na) (hn : hs.length = nh) (hu : us.length = nu) (v0 v1 v2 v3 : Value) :
    OwnW ((((W.setCell ⟨w.heap.size + 1, 0, none⟩ v0).setCell ⟨w.heap.size + 1, 1, none⟩ v1).setCell ⟨w.heap.size + 1, 2, none⟩ v2).setCell ⟨w.heap.size + 1, 3, none⟩ v3) w.heap.size qs hs us (.slice A1 na c1) (.slice A2 nh c2) (.slice A3 nu c3) ∧
    Below w.heap.size w ((((W.setCell ⟨w.heap.size + 1, 0, none⟩ v0).setCell ⟨w.heap.size + 1, 1, none⟩ v1).setCell ⟨w.heap.size + 1, 2, none⟩ v2).setCell ⟨w.heap.size + 1, 3, none⟩ v3) := by
  have o4 : ∀ {e : TypeId} {size : Nat} {v : Value} {n : Nat} {xs : List Value}, W.ownsRow (w.heap.size + 2) e size v n xs → ((((W.setCell ⟨w.heap.size + 1, 0, none⟩ v0).setCell ⟨w.heap.size + 1, 1, none⟩ v1).setCell ⟨w.heap.size + 1, 2, none⟩ v2).setCell ⟨w.heap.size + 1, 3, none⟩ v3).ownsRow w.heap.size e size v n xs := fun {e size v n xs} o => by
    have hne : v.ownBlock ≠ some (w.heap.size + 1) := fun e => by have := (o.lt _ e).1; omega
    exact owns_mono (owns_set (owns_set (owns_set (owns_set o hne _) hne _) hne _) hne _) (Nat.le_add_right _ 2)
  subst hq hn hu
  refine ⟨⟨o4 h.a, ⟨LH, o4 h.h, (hr.keep fun p hp => ?_).mono fun g hg => ?_⟩, o4 h.u, h.ah, h.au, h.hu⟩, ?_⟩
  · have h1 := hp.1
    have h2 := h.le
    have hcell : ∀ (W : World) (i : Nat) (u : Value), (W.setCell ⟨w.heap.size + 1, i, none⟩ u).cell? p = W.cell? p := fun W i u => World.cell?_setCell_other _ _ _ _ (fun e => by have := congrArg Addr.block e; simp at this; omega)
    rw [hcell, hcell, hcell, hcell]
  · have h1 := hg.1
    have h2 := h.le
    exact ⟨by omega, by simpa using hg.2, fun e => by have := h.m1 _ e; omega, fun e => by have := h.m2 _ e; omega, fun e => by have := h.m3 _ e; omega⟩
  · exact (((h.b.bel.setCell (p := ⟨w.heap.size + 1, 0, none⟩) (Nat.le_succ _) _).setCell (p := ⟨w.heap.size + 1, 1, none⟩) (Nat.le_succ _) _).setCell (p := ⟨w.heap.size + 1, 2, none⟩) (Nat.le_succ _) _).setCell (p := ⟨w.heap.size + 1, 3, none⟩) (Nat.le_succ _) _
end

end Go.Proofs.Ytlheedcnmfekoaa
