/- Wallet: what the reader's held keeps: its boxes, the reader of the list, the reader of the numbers. Wallet: the reader's held. -/
import Derived.Test.YtjhlddlocpkhkaaGreatWhJ16
import Derived.Test.YtjhlddlocpkhkaaGreatWhYu
namespace Go.Proofs.YtjhlddlocpkhkaaGreat
open Go.RowKit
set_option maxRecDepth 100000
set_option linter.unusedVariables false
set_option maxHeartbeats 8000000
/-- A reader that stands at items. -/
def InI (w : World) (rb : Nat) (S : Nat → Prop) (r : Its) : Prop := ∃ A c, r.len ≤ c ∧ SlK w S A r ∧ RdI A r.len c rb w
theorem InI.gb {w w' : World} {rb : Nat} {S : Nat → Prop} {r : Its} {row : Option Nat} (h : InI w rb S r) (hg : w.grownBy w' row) (hS : ∀ g, S g → g < w.heap.size ∧ some g ≠ row) (hr : some rb ≠ row) : InI w' rb S r := by
  obtain ⟨A, c, h1, h2, h3⟩ := h
  exact ⟨A, c, h1, h2.keep (fun p hp => hg.cell_far p (hS _ hp).1 (hS _ hp).2), (hg.block _ h3.lt hr).trans h3⟩
theorem gb_new {w wx wy : World} {row row' : Option Nat} (h : w.grownBy wx row) (h' : wx.grownBy wy row') (hr : ∀ k, row' = some k → w.heap.size ≤ k) : w.grownBy wy row :=
  ⟨h'.os.trans h.os, h'.tape.trans h.tape, h'.output.trans h.output, Nat.le_trans h.size h'.size, fun k hk hne => (h'.block k (Nat.lt_of_lt_of_le hk h.size) (fun e => by have := hr k e.symm; omega)).trans (h.block k hk hne)⟩
/-- The zero of a credential with its epoch. -/
abbrev zeroH : Array Value := #[.string ⟨#[]⟩, .string ⟨#[]⟩, .int .i64 0, .slice none 0 0, .string ⟨#[]⟩, .string ⟨#[]⟩, .string ⟨#[]⟩, .int .i64 0, .string ⟨#[]⟩]
/-- The boxes of held. -/
structure HdX (w : World) (rb r1 : Nat) (S : Nat → Prop) (r l : Its) (hv : Array Value) (W : World) : Prop where
  res : W.heap[w.heap.size]? = some (.cells zeroH 47 (0, 0))
  held : W.heap[r1 + 1]? = some (.cells hv 47 (0, 0))
  gr : w.grownBy W (some rb)
  le : w.heap.size < r1
  size : r1 + 1 < W.heap.size
  out : InI W rb S r
  inn : InI W r1 S l
  rlt : rb < w.heap.size
  own : ∀ g, S g → g < w.heap.size ∧ g ≠ rb
section
variable {w W w' : World} {rb r1 : Nat} {S : Nat → Prop} {r l l' : Its} {hv : Array Value} {row : Option Nat}
theorem HdX.gb (h : HdX w rb r1 S r l hv W) (hg : W.grownBy w' row) (hr : ∀ k, row = some k → r1 + 1 < k) : HdX w rb r1 S r l hv w' := by
  have h1 := h.le
  have h2 := h.size
  have h3 := h.rlt
  have hn : ∀ k, k ≤ r1 + 1 → some k ≠ row := fun k hk e => by have := hr k e.symm; omega
  have hs : ∀ g, S g → g < W.heap.size ∧ some g ≠ row := fun g hgs => by have := (h.own g hgs).1; exact ⟨by omega, hn g (by omega)⟩
  exact ⟨(hg.block _ (by omega) (hn _ (by omega))).trans h.res, (hg.block _ (by omega) (hn _ (by omega))).trans h.held, gb_new h.gr hg (fun k e => by have := hr k e; omega), h1, Nat.lt_of_lt_of_le h2 hg.size, h.out.gb hg hs (hn _ (by omega)), h.inn.gb hg hs (hn _ (by omega)), h3, h.own⟩
theorem HdX.below (h : HdX w rb r1 S r l hv W) (hb : Below W.heap.size W w') : HdX w rb r1 S r l hv w' := h.gb (gb_below (row := none) hb) (fun k e => by cases e)
theorem HdX.drew (h : HdX w rb r1 S r l hv W) : HdX w rb r1 S r l hv W.drew := h.below (Below.refl _ _).drew
theorem HdX.inner (h : HdX w rb r1 S r l hv W) (hg : W.grownBy w' (some r1)) (hi : InI w' r1 S l') : HdX w rb r1 S r l' hv w' := by
  have h1 := h.le
  have h2 := h.size
  have h3 := h.rlt
  have hs : ∀ g, S g → g < W.heap.size ∧ some g ≠ some r1 := fun g hgs => by have := (h.own g hgs).1; exact ⟨by omega, fun e => by injection e; omega⟩
  exact ⟨(hg.block _ (by omega) (fun e => by injection e; omega)).trans h.res, (hg.block _ (by omega) (fun e => by injection e; omega)).trans h.held, gb_new h.gr hg (fun k e => by injection e; omega), h1, Nat.lt_of_lt_of_le h2 hg.size, h.out.gb hg hs (fun e => by injection e; omega), hi, h3, h.own⟩
theorem HdX.put (h : HdX w rb r1 S r l hv W) (i : Nat) (v : Value) (hv' : Array Value) (e : hv.set! i v = hv') : HdX w rb r1 S r l hv' (W.setCell ⟨r1 + 1, i, none⟩ v) := by
  have h1 := h.le
  have h2 := h.size
  have h3 := h.rlt
  have hg : W.grownBy (W.setCell ⟨r1 + 1, i, none⟩ v) (some (r1 + 1)) := gb_set
  have hs : ∀ g, S g → g < W.heap.size ∧ some g ≠ some (r1 + 1) := fun g hgs => by have := (h.own g hgs).1; exact ⟨by omega, fun e => by injection e; omega⟩
  subst e
  exact ⟨(hg.block _ (by omega) (fun e => by injection e; omega)).trans h.res, heap_setCell_same W (r1 + 1) i _ _ _ h.held, gb_new h.gr hg (fun k e => by injection e; omega), h1, Nat.lt_of_lt_of_le h2 hg.size, h.out.gb hg hs (fun e => by injection e; omega), h.inn.gb hg hs (fun e => by injection e; omega), h3, h.own⟩
theorem HdX.far (h : HdX w rb r1 S r l hv W) : ∀ g, S g → g < W.heap.size ∧ g ≠ r1 := fun g hg => by
  have h1 := h.le
  have h2 := h.size
  have := (h.own g hg).1
  exact ⟨by omega, by omega⟩
end
theorem OwnS.gb {w w' : World} {base n : Nat} {v : Value} {ls : List ByteArray} {row : Option Nat} (h : OwnS w base v n ls) (hg : w.grownBy w' row) (hne : v.ownBlock = none ∨ v.ownBlock ≠ row) : OwnS w' base v n ls := ⟨h.1, h.2.kept hg hne⟩
theorem OwnS.at_ {w : World} {base n : Nat} {v : Value} {ls : List ByteArray} (h : OwnS w base v n ls) : ∀ k, v.ownBlock = some k → base ≤ k ∧ k < w.heap.size := by
  intro k hk
  rcases h.2.2 with ⟨rfl, _⟩ | ⟨g, cap, cur, rfl, h1, hg, rest⟩
  · cases hk
  · cases hk
    exact ⟨h1, (Array.getElem?_eq_some_iff.1 hg).1⟩
/-- After the loop. -/
structure HdZ (w : World) (rb r1 : Nat) (S : Nat → Prop) (r l : Its) (hv : Array Value) (v : Value) (n : Nat) (d : List ByteArray) (W : World) : Prop where
  x : HdX w rb r1 S r l hv W
  row : OwnS W (r1 + 2) v n d
theorem OwnS.lower {w : World} {base base' n : Nat} {v : Value} {ls : List ByteArray} (h : OwnS w base v n ls) (hb : base' ≤ base) : OwnS w base' v n ls := by
  refine ⟨h.1, h.2.1, ?_⟩
  rcases h.2.2 with hn | ⟨g, cap, cur, rfl, h1, hg, rest⟩
  · exact .inl hn
  · exact .inr ⟨g, cap, cur, rfl, Nat.le_trans hb h1, hg, rest⟩
theorem HdZ.in1 {w W w' : World} {rb r1 : Nat} {S : Nat → Prop} {r l l' : Its} {hv hv' : Array Value} {v : Value} {n : Nat} {d : List ByteArray} {i : Nat} (h : HdZ w rb r1 S r l hv v n d W) (hi : i ≤ r1 + 1) (hg : W.grownBy w' (some i)) (hx : HdX w rb r1 S r l' hv' w') : HdZ w rb r1 S r l' hv' v n d w' := ⟨hx, h.row.gb hg (by
    cases hb : v.ownBlock with
    | none => exact .inl rfl
    | some k => exact .inr (fun e => by injection e; have := (h.row.at_ k hb).1; omega))⟩
theorem HdZ.put {w W : World} {rb r1 : Nat} {S : Nat → Prop} {r l : Its} {hv : Array Value} {v : Value} {n : Nat} {d : List ByteArray} (h : HdZ w rb r1 S r l hv v n d W) (i : Nat) (u : Value) (hv' : Array Value) (e : hv.set! i u = hv') : HdZ w rb r1 S r l hv' v n d (W.setCell ⟨r1 + 1, i, none⟩ u) := h.in1 (Nat.le_refl _) gb_set (h.x.put i u hv' e)
theorem OwnS.rowC {w : World} {base n c : Nat} {A : Option Addr} {ls : List ByteArray} (h : OwnS w base (.slice A n c) n ls) : RowC w (fun g => base ≤ g ∧ g < w.heap.size) A n (cellsN ls) := by
  intro h0
  obtain ⟨hn, hr⟩ := h
  rcases hr.2 with ⟨e, e2⟩ | ⟨g, cap, cur, e, hb, hg, _⟩
  · injection e with _ e _; omega
  · injection e with e1 e2 e3
    subst e1
    refine ⟨g, 0, rfl, ⟨hb, (Array.getElem?_eq_some_iff.1 hg).1⟩, fun j u hj => ?_⟩
    have := hr.cells (g := g) rfl j _ hj
    rw [addr_add] at this
    exact this
theorem nat_infoE : ∃ i : TypeInfo, Tryz.prog.info? 22 = some i ∧ i.zero = some (.string ByteArray.empty) ∧ i.size = 1 ∧ i.bytes = 16 := by
  obtain ⟨i, hi, hz⟩ := Option.map_eq_some_iff.1 nat_info
  simp only [Prod.mk.injEq] at hz
  exact ⟨i, hi, hz.1, hz.2.1, hz.2.2⟩
/-- The same in a region that draws its order. -/
theorem step_append_N1 {w : World} {ops : Array Oper} {o : Oper} {a : Act} {K : Act → World → Prop} {Q : Exit → Act → World → Prop} {E : Prop} (hgd : o.guard = none) (s x : Operand)
    (ho : o.op = .call { callee := .builtin .append, args := #[s, x], argTypes := #[41, 41] })
    (base : Nat) (v : Value) (n : Nat) (ls : List ByteArray) (hs : a.eval s = v) (hown : OwnS w base v n ls)
    (y : ByteArray) (g c : Nat) (hx : a.eval x = .slice (some ⟨g, 0, none⟩) 1 c) (hg : w.heap[g]? = some (.cells #[.string y] 22 (0, 0))) (hsz : n + 1 ≤ 100000) (hbase : base ≤ w.heap.size)
    (h : ∀ v' w', OwnS w' base v' (n + 1) (ls ++ [y]) → w.grownBy w' v.ownBlock → K (a.put o.dst v') w') :
    if Region.wanted o (yielded ops a.tmps) = true then Oper.wp Tryz.prog o a w K Q else E := by
  obtain ⟨i, hi, hz, hs1, hb1⟩ := nat_infoE
  have hlt : g < w.heap.size := (Array.getElem?_eq_some_iff.1 hg).1
  have hr : Reads w w.heap.size 1 (some ⟨g, 0, none⟩) 1 [.string y] := ⟨rfl, fun _ => ⟨_, rfl, hlt, fun j u hu => by
    rw [addr_add, Nat.zero_add]
    have := cell_of_row w g j _ _ _ hg
    rw [this, ← hu]
    simp⟩⟩
  refine step_append_any _ hgd s x 41 ho base 22 i (.string ByteArray.empty) 1 16 Tryz.underlying41 hi hz hs1 hb1 rfl (by decide) v n (ls.map Value.string) hs hown.2 w.heap.size (some ⟨g, 0, none⟩) 1 c [.string y] hx hr (fun v hv => by rw [List.mem_singleton.1 hv]; rfl) (by unfold maxLen; omega) (by omega) hbase ?_
  intro v' w' h2 h3 h4
  exact h v' w' ⟨by rw [List.length_append, hown.1]; rfl, by rw [List.map_append]; exact h2⟩ h3
def lenAt (w : World) (rb : Nat) : Nat := match w.cell? ⟨rb, 0, none⟩ with | some (.slice _ n _) => n | _ => 0
theorem InI.len_at {w : World} {rb : Nat} {S : Nat → Prop} {r : Its} (h : InI w rb S r) : lenAt w rb = r.len := by
  obtain ⟨A, c, _, _, h3⟩ := h
  unfold lenAt
  rw [h3.cells.1]
theorem HdZ.fin {w W w' : World} {rb r1 : Nat} {S : Nat → Prop} {r l : Its} {hv : Array Value} {A : Option Addr} {c n : Nat} {d : List ByteArray} (h : HdZ w rb r1 S r l hv (.slice A n c) n d W) (hg : W.grownBy w' (some w.heap.size)) :
    RowC w' (fun g => w.heap.size ≤ g ∧ g < w'.heap.size) A n (cellsN d) ∧ InI w' rb S r ∧ w.grownBy w' (some rb) := by
  have h1 := h.x.le
  have h2 := h.x.size
  have h3 := h.x.rlt
  have hr := h.row.gb hg (by
    cases hb : (Value.slice A n c).ownBlock with
    | none => exact .inl rfl
    | some k => exact .inr (fun e => by injection e; have := (h.row.at_ k hb).1; omega))
  exact ⟨(hr.lower (by omega)).rowC, h.x.out.gb hg (fun g hgs => by have := (h.x.own g hgs).1; exact ⟨by omega, fun e => by injection e; omega⟩) (fun e => by injection e; omega), gb_new h.x.gr hg (fun k e => by injection e; omega)⟩
end Go.Proofs.YtjhlddlocpkhkaaGreat
