/- TopRevokes: words for historyStep. -/
import Derived.Test.YtcpglhjmhegfmaaGreatDoorTrD
namespace Go.Proofs.YtcpglhjmhegfmaaGreatDoor
open Go.RowKit
set_option maxRecDepth 100000
set_option linter.unusedVariables false
set_option maxHeartbeats 4000000

/-- What historyStep hands back. -/
def StepOut (M C : List ByteArray) (Z1 : Nat) (w : World) (e : Ending) (w' : World) : Prop :=
  ∃ (A Aa Ar : Option Addr) (n c na ca nr cr : Nat) (i0 i1 : Int) (b : ByteArray), e = .returned (.tuple #[.slice A n c, .agg #[.int .i64 i0, .int .i64 i1, .slice Aa na ca, .slice Ar nr cr, .string b, .string (B Z1), .string ⟨#[]⟩, .string ⟨#[]⟩], .bool true]) ∧ (nextM M C).length = n ∧ SLs w' w'.heap.size A (nextM M C) ∧ (∀ a, A = some a → w.heap.size < a.block) ∧ Below w.heap.size w w' ∧ Tab w'
theorem StpAt.start {w : World} (hT : Tab w) (KC : Array Value) (e0 e1 : Value) :
    StpAt w KC e0 e1 (.slice none 0 0) (.slice none 0 0) (.slice none 0 0) [] [] [] (((w.alloc (.cells KC 27)).alloc (.cells #[.int .i64 0, .int .i64 0, .slice none 0 0, .slice none 0 0, .string ⟨#[]⟩, .string ⟨#[]⟩, .string ⟨#[]⟩, .string ⟨#[]⟩] 46)).alloc (.cells #[e0, e1, .slice none 0 0, .slice none 0 0, .string ⟨#[]⟩, .string ⟨#[]⟩, .string ⟨#[]⟩, .string ⟨#[]⟩] 46)) := by
  obtain ⟨h1, h2⟩ := two_boxes w (.cells KC 27) (.cells #[.int .i64 0, .int .i64 0, .slice none 0 0, .slice none 0 0, .string ⟨#[]⟩, .string ⟨#[]⟩, .string ⟨#[]⟩, .string ⟨#[]⟩] 46)
  have hb : ∀ X : World, ∀ o : Obj, Below X.heap.size X (X.alloc o) := fun X o => (Below.refl _ _).alloc (Nat.le_refl _) o
  refine ⟨((hb _ _).block _ (by simp; omega)).trans h1, ((hb _ _).block _ (by simp)).trans h2, ?_, OwnS.nil_ _ _, OwnS.nil_ _ _, OwnS.nil_ _ _, .inl rfl, .inl rfl, .inl rfl, ((BT.refl hT).alloc _).alloc _ |>.alloc _, by simp⟩
  have := heap_alloc_new ((w.alloc (.cells KC 27)).alloc (.cells #[.int .i64 0, .int .i64 0, .slice none 0 0, .slice none 0 0, .string ⟨#[]⟩, .string ⟨#[]⟩, .string ⟨#[]⟩, .string ⟨#[]⟩] 46)) (.cells #[e0, e1, .slice none 0 0, .slice none 0 0, .string ⟨#[]⟩, .string ⟨#[]⟩, .string ⟨#[]⟩, .string ⟨#[]⟩] 46)
  simpa using this
/-- The memory behind the sorting. -/
structure StpB (w : World) (KC : Array Value) (e0 e1 va vr b0 b1 vn : Value) (Ln : List ByteArray) (wr : World) : Prop where
  kb : wr.heap[w.heap.size]? = some (.cells KC 27 (0, 0))
  res : wr.heap[w.heap.size + 1]? = some (.cells #[.int .i64 0, .int .i64 0, .slice none 0 0, .slice none 0 0, .string ⟨#[]⟩, .string ⟨#[]⟩, .string ⟨#[]⟩, .string ⟨#[]⟩] 46 (0, 0))
  d : wr.heap[w.heap.size + 1 + 1]? = some (.cells #[e0, e1, va, vr, b0, b1, .string ⟨#[]⟩, .string ⟨#[]⟩] 46 (0, 0))
  on : OwnS wr (w.heap.size + 3) vn Ln.length Ln
  bt : BT w wr
  size : w.heap.size + 3 ≤ wr.heap.size
section
variable {w wr w' : World} {KC : Array Value} {e0 e1 va vr b0 b1 vn : Value} {La Lr Ln : List ByteArray}
theorem StpB.next (h : StpB w KC e0 e1 va vr b0 b1 vn Ln wr) (hb : Below wr.heap.size wr w') : StpB w KC e0 e1 va vr b0 b1 vn Ln w' := by
  have hz := h.size
  exact ⟨(hb.block _ (by omega)).trans h.kb, (hb.block _ (by omega)).trans h.res, (hb.block _ (by omega)).trans h.d, h.on.kept (B := 0) hb, h.bt.next hb, Nat.le_trans hz hb.size⟩
theorem StpB.sls {A : Option Addr} {ls : List ByteArray} (h : StpB w KC e0 e1 va vr b0 b1 vn Ln wr) (hs : SLs w w.heap.size A ls) : SLs wr wr.heap.size A ls := (hs.below h.bt.bel).more h.bt.bel.size
theorem BT.put {g i : Nat} {v : Value} (h : BT w wr) (hT : Tab w) (hg : w.heap.size ≤ g) : BT w (wr.setCell ⟨g, i, none⟩ v) := by
  have hb : Below w.heap.size w (wr.setCell ⟨g, i, none⟩ v) := h.bel.setCell (p := ⟨g, i, none⟩) hg v
  exact ⟨hb, hT.below hb⟩
theorem StpAt.toB (h : StpAt w KC e0 e1 va vr vn La Lr Ln wr) (hT : Tab w) (v2 v3 : Value) :
    StpB w KC e0 e1 v2 v3 (.string ⟨#[]⟩) (.string ⟨#[]⟩) vn Ln ((wr.setCell ⟨w.heap.size + 1 + 1, 2, none⟩ v2).setCell ⟨w.heap.size + 1 + 1, 3, none⟩ v3) := by
  have hz := h.size
  refine ⟨(put_heap (by omega)).trans ((put_heap (by omega)).trans h.kb), (put_heap (by omega)).trans ((put_heap (by omega)).trans h.res), ?_, (h.on.far (by omega)).far (by omega), (h.bt.put hT (by omega)).put hT (by omega), by simpa using hz⟩
  have h1 := heap_setCell_same wr (w.heap.size + 1 + 1) 2 _ _ v2 h.d
  exact heap_setCell_same _ (w.heap.size + 1 + 1) 3 _ _ v3 h1
theorem StpB.put45 (h : StpB w KC e0 e1 va vr b0 b1 vn Ln wr) (hT : Tab w) (v4 v5 : Value) :
    StpB w KC e0 e1 va vr v4 v5 vn Ln ((wr.setCell ⟨w.heap.size + 1 + 1, 4, none⟩ v4).setCell ⟨w.heap.size + 1 + 1, 5, none⟩ v5) := by
  have hz := h.size
  refine ⟨(put_heap (by omega)).trans ((put_heap (by omega)).trans h.kb), (put_heap (by omega)).trans ((put_heap (by omega)).trans h.res), ?_, (h.on.far (by omega)).far (by omega), (h.bt.put hT (by omega)).put hT (by omega), by simpa using hz⟩
  have h1 := heap_setCell_same wr (w.heap.size + 1 + 1) 4 _ _ v4 h.d
  exact heap_setCell_same _ (w.heap.size + 1 + 1) 5 _ _ v5 h1
end
theorem OwnS.toSLs {w : World} {b n c : Nat} {A : Option Addr} {L : List ByteArray} (h : OwnS w b (.slice A n c) n L) (hb : b ≤ w.heap.size) : SLs w w.heap.size A L := by
  obtain ⟨A1, c1, e, hs⟩ := h.form hb
  injection e with e1 e2 e3
  subst e1
  exact hs
/-- What is left at the end: the row of the members, and the frame. -/
structure EndAt (w : World) (v : Value) (L : List ByteArray) (W : World) : Prop where
  on : OwnS W (w.heap.size + 3) v L.length L
  bt : BT w W
  size : w.heap.size + 3 ≤ W.heap.size
theorem EndAt.put {w W : World} {v : Value} {L : List ByteArray} (h : EndAt w v L W) (hT : Tab w) (i : Nat) (u : Value) : EndAt w v L (W.setCell ⟨w.heap.size + 1, i, none⟩ u) :=
  ⟨h.on.far (Nat.lt_of_lt_of_le (Nat.lt_succ_self _) (Nat.le_succ _)), h.bt.put hT (Nat.le_succ _), by rw [World.size_setCell]; exact h.size⟩
theorem EndAt.drew {w W : World} {v : Value} {L : List ByteArray} (h : EndAt w v L W) : EndAt w v L W.drew := ⟨h.on, h.bt.drew, h.size⟩
theorem EndAt.fin {w W : World} {A : Option Addr} {c : Nat} {L : List ByteArray} (h : EndAt w (.slice A L.length c) L W) : SLs W W.heap.size A L ∧ (∀ a, A = some a → w.heap.size < a.block) ∧ Below w.heap.size w W ∧ Tab W := ⟨h.on.toSLs h.size, fun a ha => by subst ha; have := (h.on.blockOf a.block rfl).1; omega, h.bt.bel, h.bt.tab⟩
theorem sorted_a {w W : World} {KC : Array Value} {e0 e1 vr vn : Value} {A : Option Addr} {n c : Nat} {La Lr Ln : List ByteArray} (h : StpAt w KC e0 e1 (.slice A n c) vr vn La Lr Ln W) (hl : La.length ≤ 100) :
    Calls Tryz.prog 20 #[.slice A n c] W fun e w' => (∃ A' n' c', e = .returned (.slice A' n' c')) ∧ Below W.heap.size W w' := by
  obtain ⟨A1, c1, e, hs⟩ := h.oa.form h.size
  injection e with e1 e2 e3
  subst e1 e2 e3
  exact top_sorted La _ _ _ W rfl hl hs
theorem sorted_r {w W : World} {KC : Array Value} {e0 e1 va vn : Value} {A : Option Addr} {n c : Nat} {La Lr Ln : List ByteArray} (h : StpAt w KC e0 e1 va (.slice A n c) vn La Lr Ln W) (hl : Lr.length ≤ 100) :
    Calls Tryz.prog 20 #[.slice A n c] W fun e w' => (∃ A' n' c', e = .returned (.slice A' n' c')) ∧ Below W.heap.size W w' := by
  obtain ⟨A1, c1, e, hs⟩ := h.or.form h.size
  injection e with e1 e2 e3
  subst e1 e2 e3
  exact top_sorted Lr _ _ _ W rfl hl hs
theorem step_value {nm m o z s ku kh : ByteArray} {Ar A : Option Addr} {nr cr c b Z1 : Nat} {L X : List ByteArray} {W : World} (sm : m.size ≤ 8) (hL : L = X) (hv : valueS m o ku X = (B Z1, 0)) (h100 : L.length ≤ 100) (ho : OwnS W b (.slice A L.length c) L.length L) (hb : b ≤ W.heap.size) :
    Calls Tryz.prog 8 #[.agg #[.string nm, .string m, .string o, .string z, .string s, .slice Ar nr cr, .string ku, .string kh], .slice A L.length c] W fun e w' => e = .returned (.tuple #[.string (B Z1), .int .i64 0]) ∧ Below W.heap.size W w' := by
  obtain ⟨A1, c1, e, hs⟩ := ho.form hb
  injection e with e1 e2 e3
  subst e1 e3
  have := acc_Value (.string nm) (.string z) (.string s) (.slice Ar nr cr) (.string kh) m o ku L A L.length c W sm rfl (by omega) hs
  rw [hL, hv] at this
  rw [hL]
  exact this
theorem step_out {M C Lx : List ByteArray} {Z1 : Nat} {w W : World} {A Aa Ar : Option Addr} {c na ca nr cr : Nat} {i0 i1 : Int} {b : ByteArray} (h : SLs W W.heap.size A (nextM M C) ∧ (∀ a, A = some a → w.heap.size < a.block) ∧ Below w.heap.size w W ∧ Tab W) (hl : (nextM M C).length = Lx.length) :
    StepOut M C Z1 w (.returned (.tuple #[.slice A Lx.length c, .agg #[.int .i64 i0, .int .i64 i1, .slice Aa na ca, .slice Ar nr cr, .string b, .string (B Z1), .string ⟨#[]⟩, .string ⟨#[]⟩], .bool true])) W :=
  ⟨A, Aa, Ar, _, c, na, ca, nr, cr, i0, i1, b, rfl, hl, h.1, h.2.1, h.2.2.1, h.2.2.2⟩

end Go.Proofs.YtcpglhjmhegfmaaGreatDoor
