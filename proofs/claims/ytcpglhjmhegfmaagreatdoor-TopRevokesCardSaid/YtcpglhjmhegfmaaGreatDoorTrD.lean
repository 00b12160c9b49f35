/- TopRevokes: historyStep hands back the members after a step and the values of the accumulator before and behind it. -/
import Derived.Test.YtcpglhjmhegfmaaGreatDoorTrB
import Derived.Deep.RegionHeld3
namespace Go.Proofs.YtcpglhjmhegfmaaGreatDoor
open Go.RowKit
set_option maxRecDepth 100000
set_option linter.unusedVariables false
set_option maxHeartbeats 4000000

/-- Two rows of the call's own do not lie in one block. -/
def Apart (a b : Value) : Prop := a.ownBlock = none ∨ a.ownBlock ≠ b.ownBlock
theorem Apart.symm {a b : Value} (h : Apart a b) : Apart b a := by
  unfold Apart at *
  rcases h with h | h
  · rcases hb : b.ownBlock with _ | k
    · exact .inl rfl
    · exact .inr (by rw [h]; simp)
  · exact .inr (fun e => h e.symm)
theorem OwnS.grow {w w' : World} {base n : Nat} {v : Value} {L : List ByteArray} {row : Option Nat} (h : OwnS w base v n L) (hg : w.grownBy w' row) (hne : v.ownBlock = none ∨ v.ownBlock ≠ row) : OwnS w' base v n L :=
  ⟨h.1, h.2.kept hg hne⟩
theorem OwnS.allocated {w : World} {base n : Nat} {v : Value} {L : List ByteArray} (h : OwnS w base v n L) (o : Obj) : OwnS (w.alloc o) base v n L := h.kept (B := 0) ((Below.refl _ _).alloc (Nat.le_refl _) _)
theorem Apart.new {w : World} {base n : Nat} {u v v' : Value} {L : List ByteArray} (h : Apart u v) (hu : OwnS w base u n L) (hv : v'.ownBlock = v.ownBlock ∨ v'.ownBlock = some w.heap.size) : Apart u v' := by
  rcases hb : u.ownBlock with _ | k
  · exact .inl hb
  · have := (hu.blockOf k hb).2
    rcases hv with hv | hv
    · unfold Apart at *; rw [hv]; exact h
    · exact .inr (by rw [hb, hv]; intro e; injection e with e; omega)
theorem step_append_1 {ops : Array Oper} {o : Oper} {a : Act} {K : Act → World → Prop} {Q : Exit → Act → World → Prop} {E : Prop} {w : World} (hgd : o.guard = none) (s x : Operand)
    (ho : o.op = .call { callee := .builtin .append, args := #[s, x], argTypes := #[25, 25] })
    (base : Nat) (v : Value) (n : Nat) (ls : List ByteArray) (hs : a.eval s = v) (hown : OwnS w base v n ls) (y : ByteArray) (A : Option Addr) (c B : Nat) (hx : a.eval x = .slice A 1 c) (hr : SLs w B A [y]) (hsz : n ≤ 100000) (hbase : base ≤ w.heap.size)
    (h : ∀ v' w', OwnS w' base v' (n + 1) (ls ++ [y]) → w.grownBy w' v.ownBlock → (v'.ownBlock = v.ownBlock ∨ v'.ownBlock = some w.heap.size) → K (a.put o.dst v') w') :
    if Region.wanted o (yielded ops a.tmps) = true then Oper.wp Tryz.prog o a w K Q else E := by
  obtain ⟨i, hi, hz, hs1, hb1⟩ := nat_infoE
  refine step_append_any _ hgd s x 25 ho base 22 i (.string ByteArray.empty) 1 16 Tryz.underlying25 hi hz hs1 hb1 rfl (by decide) v n (ls.map Value.string) hs hown.2 B A 1 c ([y].map Value.string) hx (hr.reads (n := 1) rfl) (strs_one [y]) (by unfold maxLen; omega) (by omega) hbase ?_
  intro v' w' h2 h3 h4
  exact h v' w' ⟨by rw [List.length_append, hown.1]; rfl, by rw [List.map_append]; exact h2⟩ h3 h4
theorem wpList_append_2 {w : World} {ops : Array Oper} {rest : List Oper} {o : Oper} {a : Act} {Q : Exit → Act → World → Prop} (hgd : o.guard = none) (s x : Operand)
    (ho : o.op = .call { callee := .builtin .append, args := #[s, x], argTypes := #[25, 25] })
    (base : Nat) (v : Value) (n : Nat) (ls : List ByteArray) (hs : a.eval s = v) (hown : OwnS w base v n ls) (y : ByteArray) (A : Option Addr) (c B : Nat) (hx : a.eval x = .slice A 1 c) (hr : SLs w B A [y]) (hsz : n ≤ 100000) (hbase : base ≤ w.heap.size)
    (h : ∀ v' w', OwnS w' base v' (n + 1) (ls ++ [y]) → w.grownBy w' v.ownBlock → (v'.ownBlock = v.ownBlock ∨ v'.ownBlock = some w.heap.size) → wpList Tryz.prog ops Q rest (a.put o.dst v') w') :
    wpList Tryz.prog ops Q (o :: rest) a w := by
  obtain ⟨i, hi, hz, hs1, hb1⟩ := nat_infoE
  refine wpList_append_any _ hgd s x 25 ho base 22 i (.string ByteArray.empty) 1 16 Tryz.underlying25 hi hz hs1 hb1 rfl (by decide) v n (ls.map Value.string) hs hown.2 B A 1 c ([y].map Value.string) hx (hr.reads (n := 1) rfl) (strs_one [y]) (by unfold maxLen; omega) (by omega) hbase ?_
  intro v' w' h2 h3 h4
  exact h v' w' ⟨by rw [List.length_append, hown.1]; rfl, by rw [List.map_append]; exact h2⟩ h3 h4
/-- The memory of a step: the key, the result, the delta, and three rows. -/
structure StpAt (w : World) (KC : Array Value) (e0 e1 va vr vn : Value) (La Lr Ln : List ByteArray) (wr : World) : Prop where
  kb : wr.heap[w.heap.size]? = some (.cells KC 27 (0, 0))
  res : wr.heap[w.heap.size + 1]? = some (.cells #[.int .i64 0, .int .i64 0, .slice none 0 0, .slice none 0 0, .string ⟨#[]⟩, .string ⟨#[]⟩, .string ⟨#[]⟩, .string ⟨#[]⟩] 46 (0, 0))
  d : wr.heap[w.heap.size + 2]? = some (.cells #[e0, e1, va, vr, .string ⟨#[]⟩, .string ⟨#[]⟩, .string ⟨#[]⟩, .string ⟨#[]⟩] 46 (0, 0))
  oa : OwnS wr (w.heap.size + 3) va La.length La
  or : OwnS wr (w.heap.size + 3) vr Lr.length Lr
  on : OwnS wr (w.heap.size + 3) vn Ln.length Ln
  ar : Apart va vr
  an : Apart va vn
  rn : Apart vr vn
  bt : BT w wr
  size : w.heap.size + 3 ≤ wr.heap.size
section
variable {w wr w' : World} {KC : Array Value} {e0 e1 va vr vn : Value} {La Lr Ln : List ByteArray}
theorem StpAt.next (h : StpAt w KC e0 e1 va vr vn La Lr Ln wr) (hb : Below wr.heap.size wr w') : StpAt w KC e0 e1 va vr vn La Lr Ln w' := by
  have hz := h.size
  exact ⟨(hb.block _ (by omega)).trans h.kb, (hb.block _ (by omega)).trans h.res, (hb.block _ (by omega)).trans h.d, h.oa.kept (B := 0) hb, h.or.kept (B := 0) hb, h.on.kept (B := 0) hb, h.ar, h.an, h.rn, h.bt.next hb, Nat.le_trans hz hb.size⟩
theorem StpAt.alloc (h : StpAt w KC e0 e1 va vr vn La Lr Ln wr) (o : Obj) : StpAt w KC e0 e1 va vr vn La Lr Ln (wr.alloc o) := h.next ((Below.refl _ _).alloc (Nat.le_refl _) _)
theorem StpAt.drew (h : StpAt w KC e0 e1 va vr vn La Lr Ln wr) : StpAt w KC e0 e1 va vr vn La Lr Ln wr.drew := h.next (Below.refl _ _).drew
theorem StpAt.drewN (h : StpAt w KC e0 e1 va vr vn La Lr Ln wr) (n : Nat) : StpAt w KC e0 e1 va vr vn La Lr Ln (wr.drewN n) := h.next (below_drewN (Below.refl _ _) n)
theorem StpAt.sls {A : Option Addr} {ls : List ByteArray} (h : StpAt w KC e0 e1 va vr vn La Lr Ln wr) (hs : SLs w w.heap.size A ls) : SLs wr w.heap.size A ls := hs.below h.bt.bel
theorem Below.grown3 {w w1 w2 : World} {v : Value} {n base : Nat} {L : List ByteArray} (h : Below w.heap.size w w1) (hg : w1.grownBy w2 v.ownBlock) (ho : OwnS w1 base v n L) (hbase : w.heap.size ≤ base) : Below w.heap.size w w2 :=
  h.grown hg h.size (fun k hk => by have := (ho.blockOf k hk).1; omega)
theorem grown_blk {w1 w2 : World} {v : Value} {n base k : Nat} {L : List ByteArray} (hg : w1.grownBy w2 v.ownBlock) (ho : OwnS w1 base v n L) (hk : k < base) (hs : k < w1.heap.size) : w2.heap[k]? = w1.heap[k]? :=
  hg.block k hs (fun e => by have := (ho.blockOf k e.symm).1; omega)
theorem BT.grown {w w1 w2 : World} {v : Value} {n base : Nat} {L : List ByteArray} (h : BT w w1) (hg : w1.grownBy w2 v.ownBlock) (ho : OwnS w1 base v n L) (hbase : w.heap.size ≤ base) (hT : Tab w) : BT w w2 :=
  ⟨Below.grown3 h.bel hg ho hbase, hT.below (Below.grown3 h.bel hg ho hbase)⟩
/-- One more member behind the step. -/
theorem StpAt.addN {y : ByteArray} {v5 : Value} (h : StpAt w KC e0 e1 va vr vn La Lr Ln wr) (hT : Tab w) (hown : OwnS w' (w.heap.size + 3) v5 (Ln.length + 1) (Ln ++ [y])) (hg : wr.grownBy w' vn.ownBlock)
    (hv : v5.ownBlock = vn.ownBlock ∨ v5.ownBlock = some wr.heap.size) : StpAt w KC e0 e1 va vr v5 La Lr (Ln ++ [y]) w' := by
  have hz := h.size
  exact ⟨(grown_blk hg h.on (by omega) (by omega)).trans h.kb, (grown_blk hg h.on (by omega) (by omega)).trans h.res, (grown_blk hg h.on (by omega) (by omega)).trans h.d,
    h.oa.grow hg h.an, h.or.grow hg h.rn, by rw [List.length_append]; exact hown, h.ar, h.an.new h.oa hv, h.rn.new h.or hv, h.bt.grown hg h.on (by omega) hT, Nat.le_trans hz hg.size⟩
theorem put_heap {w : World} {g i k : Nat} {u : Value} (h : k ≠ g) : (w.setCell ⟨g, i, none⟩ u).heap[k]? = w.heap[k]? := heap_setCell_other w ⟨g, i, none⟩ k u h
theorem OwnS.far {w : World} {base n g i : Nat} {v u : Value} {L : List ByteArray} (h : OwnS w base v n L) (hg : g < base) : OwnS (w.setCell ⟨g, i, none⟩ u) base v n L := ⟨h.1, ownsRow_setCell_below h.2 (a := ⟨g, i, none⟩) hg u⟩
/-- A number removed: the row grows, and the delta holds its new slice. -/
theorem StpAt.addR {y : ByteArray} {v5 : Value} (h : StpAt w KC e0 e1 va vr vn La Lr Ln wr) (hT : Tab w) (hown : OwnS w' (w.heap.size + 3) v5 (Lr.length + 1) (Lr ++ [y])) (hg : wr.grownBy w' vr.ownBlock)
    (hv : v5.ownBlock = vr.ownBlock ∨ v5.ownBlock = some wr.heap.size) : StpAt w KC e0 e1 va v5 vn La (Lr ++ [y]) Ln (w'.setCell ⟨w.heap.size + 2, 3, none⟩ v5) := by
  have hz := h.size
  have hb := (h.bt.grown hg h.or (by omega) hT).bel
  have hb2 : Below w.heap.size w (w'.setCell ⟨w.heap.size + 2, 3, none⟩ v5) := hb.setCell (p := ⟨w.heap.size + 2, 3, none⟩) (by show w.heap.size ≤ w.heap.size + 2; omega) v5
  refine ⟨(put_heap (by omega)).trans ((grown_blk hg h.or (by omega) (by omega)).trans h.kb), (put_heap (by omega)).trans ((grown_blk hg h.or (by omega) (by omega)).trans h.res), ?_,
    (h.oa.grow hg h.ar).far (by omega), by rw [List.length_append]; exact hown.far (by omega), (h.on.grow hg h.rn.symm).far (by omega), h.ar.new h.oa hv, h.an, (h.rn.symm.new h.on hv).symm, ⟨hb2, hT.below hb2⟩, by rw [World.size_setCell]; exact Nat.le_trans hz hg.size⟩
  have hd := (grown_blk hg h.or (k := w.heap.size + 2) (by omega) (by omega)).trans h.d
  rw [heap_setCell_same _ _ 3 _ _ v5 hd]
  rfl
/-- A number added. -/
theorem StpAt.addA {y : ByteArray} {v5 : Value} (h : StpAt w KC e0 e1 va vr vn La Lr Ln wr) (hT : Tab w) (hown : OwnS w' (w.heap.size + 3) v5 (La.length + 1) (La ++ [y])) (hg : wr.grownBy w' va.ownBlock)
    (hv : v5.ownBlock = va.ownBlock ∨ v5.ownBlock = some wr.heap.size) : StpAt w KC e0 e1 v5 vr vn (La ++ [y]) Lr Ln (w'.setCell ⟨w.heap.size + 2, 2, none⟩ v5) := by
  have hz := h.size
  have hb := (h.bt.grown hg h.oa (by omega) hT).bel
  have hb2 : Below w.heap.size w (w'.setCell ⟨w.heap.size + 2, 2, none⟩ v5) := hb.setCell (p := ⟨w.heap.size + 2, 2, none⟩) (by show w.heap.size ≤ w.heap.size + 2; omega) v5
  refine ⟨(put_heap (by omega)).trans ((grown_blk hg h.oa (by omega) (by omega)).trans h.kb), (put_heap (by omega)).trans ((grown_blk hg h.oa (by omega) (by omega)).trans h.res), ?_,
    by rw [List.length_append]; exact hown.far (by omega), (h.or.grow hg h.ar.symm).far (by omega), (h.on.grow hg h.an.symm).far (by omega), (h.ar.symm.new h.or hv).symm, (h.an.symm.new h.on hv).symm, h.rn, ⟨hb2, hT.below hb2⟩, by rw [World.size_setCell]; exact Nat.le_trans hz hg.size⟩
  have hd := (grown_blk hg h.oa (k := w.heap.size + 2) (by omega) (by omega)).trans h.d
  rw [heap_setCell_same _ _ 2 _ _ v5 hd]
  rfl
theorem StpAt.dBlk {u : Value} {n : Nat} {L : List ByteArray} (h : StpAt w KC e0 e1 va vr vn La Lr Ln wr) (hg : wr.grownBy w' u.ownBlock) (ho : OwnS wr (w.heap.size + 3) u n L) :
    w'.heap[w.heap.size + 2]? = some (.cells #[e0, e1, va, vr, .string ⟨#[]⟩, .string ⟨#[]⟩, .string ⟨#[]⟩, .string ⟨#[]⟩] 46 (0, 0)) := by
  have hz := h.size
  exact (grown_blk hg ho (by omega) (by omega)).trans h.d
/-- The cells of the delta's rows, and that they may be stored to. -/
theorem d_cells {b : Nat} {a0 a1 a2 a3 a4 a5 a6 a7 : Value} {T : TypeId} {W : World} (h : W.heap[b]? = some (.cells #[a0, a1, a2, a3, a4, a5, a6, a7] T (0, 0))) :
    W.cell? ⟨b, 0, none⟩ = some a0 ∧ W.cell? ⟨b, 1, none⟩ = some a1 ∧ W.cell? ⟨b, 2, none⟩ = some a2 ∧ W.cell? ⟨b, 3, none⟩ = some a3 ∧ W.cell? ⟨b, 4, none⟩ = some a4 ∧ W.cell? ⟨b, 5, none⟩ = some a5 ∧ W.cell? ⟨b, 6, none⟩ = some a6 ∧ W.cell? ⟨b, 7, none⟩ = some a7 :=
  ⟨cell_of_row W _ 0 _ _ _ h, cell_of_row W _ 1 _ _ _ h, cell_of_row W _ 2 _ _ _ h, cell_of_row W _ 3 _ _ _ h, cell_of_row W _ 4 _ _ _ h, cell_of_row W _ 5 _ _ _ h, cell_of_row W _ 6 _ _ _ h, cell_of_row W _ 7 _ _ _ h⟩
end

end Go.Proofs.YtcpglhjmhegfmaaGreatDoor
