/- Wallet: what the reader's held keeps: its boxes, the reader of the list, the reader of the numbers. Wallet: the reader's held. -/
import Derived.Test.YtlheedcnmfekoaaWeJ16
import Derived.Test.YtlheedcnmfekoaaWeYu
namespace Go.Proofs.Ytlheedcnmfekoaa
open Go.RowKit
set_option maxRecDepth 100000
set_option linter.unusedVariables false
set_option maxHeartbeats 8000000
/-- A reader that stands at items. -/
def InI (w : World) (rb : Nat) (S : Nat → Prop) (r : Its) : Prop := ∃ A c, r.len ≤ c ∧ SlK w S A r ∧ RdI A r.len c rb w
theorem InI.gb {w w' : World} {rb : Nat} {S : Nat → Prop} {r : Its} {row : Option Nat} (h : InI w rb S r) (hg : w.grownBy w' row) (hS : ∀ g, S g → g < w.heap.size ∧ some g ≠ row) (hr : some rb ≠ row) : InI w' rb S r := by
  obtain ⟨A, c, h1, h2, h3⟩ := h
  exact ⟨A, c, h1, h2.keep (fun p hp => hg.cell_far p (hS _ hp).1 (hS _ hp).2), (hg.block _ h3.lt hr).trans h3⟩
theorem gb_new {w wx wy : World} {row row' : Option Nat} (h : w.grownBy wx row) (h' : wx.grownBy wy row') (hr : ∀ k, row' = some k → w.heap.size ≤ k) : w.grownBy wy row :=
  ⟨h'.os.trans h.os, h'.tape.trans h.tape, h'.output.trans h.output, Nat.le_trans h.size h'.size, fun k hk hne => (h'.block k (Nat.lt_of_lt_of_le hk h.size) (fun e => by have := hr k e.symm; omega)).trans (h.block k hk hne)⟩
/-- The zero of a credential with its epoch. -/
abbrev zeroH : Array Value := #[.string ⟨#[]⟩, .string ⟨#[]⟩, .int .i64 0, .slice none 0 0, .string ⟨#[]⟩, .string ⟨#[]⟩, .string ⟨#[]⟩, .int .i64 0, .string ⟨#[]⟩]
/-- The boxes of held. -/
structure HdX (w : World) (rb r1 : Nat) (S : Nat → Prop) (r l : Its) (hv : Array Value) (W : World) : Prop where
  res : W.heap[w.heap.size]? = some (.cells zeroH 44 (0, 0))
  held : W.heap[r1 + 1]? = some (.cells hv 44 (0, 0))
  gr : w.grownBy W (some rb)
  le : w.heap.size < r1
  size : r1 + 1 < W.heap.size
  out : InI W rb S r
  inn : InI W r1 S l
  rlt : rb < w.heap.size
  own : ∀ g, S g → g < w.heap.size ∧ g ≠ rb
section
variable {w W w' : World} {rb r1 : Nat} {S : Nat → Prop} {r l l' : Its} {hv : Array Value} {row : Option Nat}
theorem HdX.gb (h : HdX w rb r1 S r l hv W) (hg : W.grownBy w' row) (hr : ∀ k, row = some k → r1 + 1 < k) : HdX w rb r1 S r l hv w' := by
  have h1 := h.le
  have h2 := h.size
  have h3 := h.rlt
  have hn : ∀ k, k ≤ r1 + 1 → some k ≠ row := fun k hk e => by have := hr k e.symm; omega
  have hs : ∀ g, S g → g < W.heap.size ∧ some g ≠ row := fun g hgs => by have := (h.own g hgs).1; exact ⟨by omega, hn g (by omega)⟩
  exact ⟨(hg.block _ (by omega) (hn _ (by omega))).trans h.res, (hg.block _ (by omega) (hn _ (by omega))).trans h.held, gb_new h.gr hg (fun k e => by have := hr k e; omega), h1, Nat.lt_of_lt_of_le h2 hg.size, h.out.gb hg hs (hn _ (by omega)), h.inn.gb hg hs (hn _ (by omega)), h3, h.own⟩
theorem HdX.below (h : HdX w rb r1 S r l hv W) (hb : Below W.heap.size W w') : HdX w rb r1 S r l hv w' := h.gb (gb_below (row := none) hb) (fun k e => by cases e)
theorem HdX.drew (h : HdX w rb r1 S r l hv W) : HdX w rb r1 S r l hv W.drew := h.below (Below.refl _ _).drew
theorem HdX.inner (h : HdX w rb r1 S r l hv W) (hg : W.grownBy w' (some r1)) (hi : InI w' r1 S l') : HdX w rb r1 S r l' hv w' := by
  have h1 := h.le
  have h2 := h.size
  have h3 := h.rlt
  have hs : ∀ g, S g → g < W.heap.size ∧ some g ≠ some r1 := fun g hgs => by have := (h.own g hgs).1; exact ⟨by omega, fun e => by injection e; omega⟩
  exact ⟨(hg.block _ (by omega) (fun e => by injection e; omega)).trans h.res, (hg.block _ (by omega) (fun e => by injection e; omega)).trans h.held, gb_new h.gr hg (fun k e => by injection e; omega), h1, Nat.lt_of_lt_of_le h2 hg.size, h.out.gb hg hs (fun e => by injection e; omega), hi, h3, h.own⟩
theorem HdX.put (h : HdX w rb r1 S r l hv W) (i : Nat) (v : Value) (hv' : Array Value) (e : hv.set! i v = hv') : HdX w rb r1 S r l hv' (W.setCell ⟨r1 + 1, i, none⟩ v) := by
  have h1 := h.le
  have h2 := h.size
  have h3 := h.rlt
  have hg : W.grownBy (W.setCell ⟨r1 + 1, i, none⟩ v) (some (r1 + 1)) := gb_set
  have hs : ∀ g, S g → g < W.heap.size ∧ some g ≠ some (r1 + 1) := fun g hgs => by have := (h.own g hgs).1; exact ⟨by omega, fun e => by injection e; omega⟩
  subst e
  exact ⟨(hg.block _ (by omega) (fun e => by injection e; omega)).trans h.res, heap_setCell_same W (r1 + 1) i _ _ _ h.held, gb_new h.gr hg (fun k e => by injection e; omega), h1, Nat.lt_of_lt_of_le h2 hg.size, h.out.gb hg hs (fun e => by injection e; omega), h.inn.gb hg hs (fun e => by injection e; omega), h3, h.own⟩
theorem HdX.far (h : HdX w rb r1 S r l hv W) : ∀ g, S g → g < W.heap.size ∧ g ≠ r1 := fun g hg => by
  have h1 := h.le
  have h2 := h.size
  have := (h.own g hg).1
  exact ⟨by omega, by omega⟩
end
theorem hd_text (w : World) (rb r1 : Nat) (S : Nat → Prop) (r : Its) (n t : ByteArray) (l0 l : Its) (hv : Array Value) (W : World) (h : HdX w rb r1 S r (.cons 1 n t l0 l) hv W) (hl : l.len < 100000) :
    Calls Try.prog 34 #[.pointer (some ⟨r1, 0, none⟩)] W fun o w' => o = .returned (.string t) ∧ HdX w rb r1 S r l hv w' ∧ W.grownBy w' (some r1) := by
  obtain ⟨A, c, h1, h2, h3⟩ := h.inn
  refine (wal_text n t l0 l A _ c r1 S W rfl hl h1 h3 h2 h.far).mono ?_
  rintro o w' ⟨A2, c2, rfl, h2, h4, h5, h6⟩
  exact ⟨rfl, h.inner h6 ⟨A2, c2, h2, h4, h5⟩, h6⟩
theorem hd_nat (w : World) (rb r1 : Nat) (S : Nat → Prop) (r : Its) (n t : ByteArray) (l0 l : Its) (hv : Array Value) (W : World) (h : HdX w rb r1 S r (.cons 0 n t l0 l) hv W) (hl : l.len < 100000) :
    Calls Try.prog 50 #[.pointer (some ⟨r1, 0, none⟩)] W fun o w' => o = .returned (.string n) ∧ HdX w rb r1 S r l hv w' ∧ W.grownBy w' (some r1) := by
  obtain ⟨A, c, h1, h2, h3⟩ := h.inn
  refine (wal_nat n t l0 l A _ c r1 S W rfl hl h1 h3 h2 h.far).mono ?_
  rintro o w' ⟨A2, c2, rfl, h2, h4, h5, h6⟩
  exact ⟨rfl, h.inner h6 ⟨A2, c2, h2, h4, h5⟩, h6⟩
theorem hd_number (z : Int) (hz : -9223372036854775808 ≤ z ∧ z ≤ 9223372036854775807) (w : World) (rb r1 : Nat) (S : Nat → Prop) (r : Its) (l : Its) (hv : Array Value) (W : World) (h : HdX w rb r1 S r (.cons 2 ⟨#[]⟩ ⟨#[]⟩ (intIt z) l) hv W) (hl : l.len < 100000) :
    Calls Try.prog 53 #[.pointer (some ⟨r1, 0, none⟩)] W fun o w' => o = .returned (.int .i64 z) ∧ HdX w rb r1 S r l hv w' ∧ W.grownBy w' (some r1) := by
  obtain ⟨A, c, h1, h2, h3⟩ := h.inn
  refine (wal_number z hz ⟨#[]⟩ ⟨#[]⟩ rfl rfl l A _ c r1 S W rfl hl h1 h3 h2 h.far).mono ?_
  rintro o w' ⟨A2, c2, rfl, h2, h4, h5, h6⟩
  exact ⟨rfl, h.inner h6 ⟨A2, c2, h2, h4, h5⟩, h6⟩
/-- What next hands back at a list. -/
def HdL (w : World) (rb r1 : Nat) (S : Nat → Prop) (r : Its) (n t : ByteArray) (l0 l : Its) (hv : Array Value) (o : Ending) (w' : World) : Prop := ∃ A c, o = .returned (.agg #[.int .i64 2, .string n, .string t, .slice A l0.len c]) ∧ l0.len ≤ c ∧ SlK w' S A l0 ∧ HdX w rb r1 S r l hv w'
theorem hd_next (w : World) (rb r1 : Nat) (S : Nat → Prop) (r : Its) (n t : ByteArray) (l0 l : Its) (hv : Array Value) (W : World) (h : HdX w rb r1 S r (.cons 2 n t l0 l) hv W) (hl : l.len < 100000) :
    Calls Try.prog 55 #[.pointer (some ⟨r1, 0, none⟩), .int .i64 2] W (HdL w rb r1 S r n t l0 l hv) := by
  obtain ⟨A, c, h1, h2, h3⟩ := h.inn
  refine (wal_next 2 n t l0 l A _ c r1 S W rfl hl h1 h3 h2 h.far).mono ?_
  rintro o w' ⟨A1, c1, A2, c2, rfl, k1, h2, h3, h4, h5, h6⟩
  exact ⟨A1, c1, rfl, k1, h3, h.inner h6 ⟨A2, c2, h2, h4, h5⟩⟩
theorem hd_end (w : World) (rb r1 : Nat) (S : Nat → Prop) (r : Its) (hv : Array Value) (W : World) (h : HdX w rb r1 S r .nil hv W) :
    Calls Try.prog 51 #[.pointer (some ⟨r1, 0, none⟩)] W fun o w' => o = .returned (.tuple #[]) ∧ W = w' := by
  obtain ⟨A, c, h1, h2, h3⟩ := h.inn
  exact wal_end A c r1 W h3
/-- The numbers' reader stands at r2; the numbers read lie in a row of the call's own. -/
structure HdY (w : World) (rb r1 r2 : Nat) (S : Nat → Prop) (r l : Its) (a : List ByteArray) (hv : Array Value) (v : Value) (n : Nat) (d : List ByteArray) (W : World) : Prop where
  x : HdX w rb r1 S r l hv W
  le : r1 + 1 < r2
  lt : r2 < W.heap.size
  nums : InI W r2 S (natsI a)
  row : OwnS W (r2 + 1) v n d
theorem OwnS.gb {w w' : World} {base n : Nat} {v : Value} {ls : List ByteArray} {row : Option Nat} (h : OwnS w base v n ls) (hg : w.grownBy w' row) (hne : v.ownBlock = none ∨ v.ownBlock ≠ row) : OwnS w' base v n ls := ⟨h.1, h.2.kept hg hne⟩
theorem OwnS.at_ {w : World} {base n : Nat} {v : Value} {ls : List ByteArray} (h : OwnS w base v n ls) : ∀ k, v.ownBlock = some k → base ≤ k ∧ k < w.heap.size := by
  intro k hk
  rcases h.2.2 with ⟨rfl, _⟩ | ⟨g, cap, cur, rfl, h1, hg, rest⟩
  · cases hk
  · cases hk
    exact ⟨h1, (Array.getElem?_eq_some_iff.1 hg).1⟩
theorem hd_nat2 (w : World) (rb r1 r2 : Nat) (S : Nat → Prop) (r l : Its) (y : ByteArray) (a : List ByteArray) (hv : Array Value) (v : Value) (n : Nat) (d : List ByteArray) (W : World) (h : HdY w rb r1 r2 S r l (y :: a) hv v n d W) (hl : a.length < 100000) :
    Calls Try.prog 50 #[.pointer (some ⟨r2, 0, none⟩)] W fun o w' => o = .returned (.string y) ∧ HdY w rb r1 r2 S r l a hv v n d w' := by
  obtain ⟨A, c, h1, h2, h3⟩ := h.nums
  have hle := h.le
  have hlt := h.lt
  have hfar : ∀ g, S g → g < W.heap.size ∧ g ≠ r2 := fun g hg => by
    have := (h.x.own g hg).1
    have := h.x.le
    exact ⟨by omega, by omega⟩
  refine (wal_nat y ⟨#[]⟩ .nil (natsI a) A _ c r2 S W rfl (show (natsI a).len + 1 ≤ 100000 by rw [natsI_len]; omega) h1 h3 h2 hfar).mono ?_
  rintro o w' ⟨A2, c2, rfl, h2, h4, h5, h6⟩
  exact ⟨rfl, h.x.gb h6 (fun k e => by injection e; omega), hle, Nat.lt_of_lt_of_le hlt h6.size, ⟨A2, c2, h2, h4, h5⟩, h.row.gb h6 (by
    cases hb : v.ownBlock with
    | none => exact .inl rfl
    | some k => exact .inr (fun e => by injection e; have := (h.row.at_ k hb).1; omega))⟩
theorem HdY.below {w W w' : World} {rb r1 r2 : Nat} {S : Nat → Prop} {r l : Its} {a : List ByteArray} {hv : Array Value} {v : Value} {n : Nat} {d : List ByteArray} (h : HdY w rb r1 r2 S r l a hv v n d W) (hb : Below W.heap.size W w') : HdY w rb r1 r2 S r l a hv v n d w' := by
  have hle := h.le
  have hlt := h.lt
  exact ⟨h.x.below hb, hle, Nat.lt_of_lt_of_le hlt hb.size, h.nums.gb (gb_below (row := none) hb) (fun g hg => ⟨by have := (h.x.own g hg).1; have := h.x.le; omega, by simp⟩) (by simp), h.row.kept (B := 0) hb⟩
theorem HdY.app {w W w' : World} {rb r1 r2 : Nat} {S : Nat → Prop} {r l : Its} {a : List ByteArray} {hv : Array Value} {v v' : Value} {n n' : Nat} {d d' : List ByteArray} (h : HdY w rb r1 r2 S r l a hv v n d W) (hg : W.grownBy w' v.ownBlock) (ho : OwnS w' (r2 + 1) v' n' d') : HdY w rb r1 r2 S r l a hv v' n' d' w' := by
  have hle := h.le
  have hlt := h.lt
  have hn : ∀ k, k ≤ r2 → some k ≠ v.ownBlock := fun k hk e => by have := (h.row.at_ k e.symm).1; omega
  exact ⟨h.x.gb hg (fun k e => by have := (h.row.at_ k e).1; omega), hle, Nat.lt_of_lt_of_le hlt hg.size, h.nums.gb hg (fun g hgs => by have := (h.x.own g hgs).1; have := h.x.le; exact ⟨by omega, hn g (by omega)⟩) (hn _ (Nat.le_refl _)), ho⟩
theorem HdY.put {w W : World} {rb r1 r2 : Nat} {S : Nat → Prop} {r l : Its} {a : List ByteArray} {hv : Array Value} {v : Value} {n : Nat} {d : List ByteArray} (h : HdY w rb r1 r2 S r l a hv v n d W) (i : Nat) (u : Value) (hv' : Array Value) (e : hv.set! i u = hv') : HdY w rb r1 r2 S r l a hv' v n d (W.setCell ⟨r1 + 1, i, none⟩ u) := by
  have hle := h.le
  have hlt := h.lt
  have hg : W.grownBy (W.setCell ⟨r1 + 1, i, none⟩ u) (some (r1 + 1)) := gb_set
  exact ⟨h.x.put i u hv' e, hle, by simpa using hlt, h.nums.gb hg (fun g hgs => by have := (h.x.own g hgs).1; have := h.x.le; exact ⟨by omega, fun e => by injection e; omega⟩) (fun e => by injection e; omega), h.row.gb hg (by
    cases hb : v.ownBlock with
    | none => exact .inl rfl
    | some k => exact .inr (fun e => by injection e; have := (h.row.at_ k hb).1; omega))⟩
/-- After the loop. -/
structure HdZ (w : World) (rb r1 : Nat) (S : Nat → Prop) (r l : Its) (hv : Array Value) (v : Value) (n : Nat) (d : List ByteArray) (W : World) : Prop where
  x : HdX w rb r1 S r l hv W
  row : OwnS W (r1 + 2) v n d
theorem OwnS.lower {w : World} {base base' n : Nat} {v : Value} {ls : List ByteArray} (h : OwnS w base v n ls) (hb : base' ≤ base) : OwnS w base' v n ls := by
  refine ⟨h.1, h.2.1, ?_⟩
  rcases h.2.2 with hn | ⟨g, cap, cur, rfl, h1, hg, rest⟩
  · exact .inl hn
  · exact .inr ⟨g, cap, cur, rfl, Nat.le_trans hb h1, hg, rest⟩
theorem HdY.to {w W : World} {rb r1 r2 : Nat} {S : Nat → Prop} {r l : Its} {a : List ByteArray} {hv : Array Value} {v : Value} {n : Nat} {d : List ByteArray} (h : HdY w rb r1 r2 S r l a hv v n d W) : HdZ w rb r1 S r l hv v n d W := ⟨h.x, h.row.lower (by have := h.le; omega)⟩
theorem HdZ.in1 {w W w' : World} {rb r1 : Nat} {S : Nat → Prop} {r l l' : Its} {hv hv' : Array Value} {v : Value} {n : Nat} {d : List ByteArray} {i : Nat} (h : HdZ w rb r1 S r l hv v n d W) (hi : i ≤ r1 + 1) (hg : W.grownBy w' (some i)) (hx : HdX w rb r1 S r l' hv' w') : HdZ w rb r1 S r l' hv' v n d w' := ⟨hx, h.row.gb hg (by
    cases hb : v.ownBlock with
    | none => exact .inl rfl
    | some k => exact .inr (fun e => by injection e; have := (h.row.at_ k hb).1; omega))⟩
theorem HdZ.put {w W : World} {rb r1 : Nat} {S : Nat → Prop} {r l : Its} {hv : Array Value} {v : Value} {n : Nat} {d : List ByteArray} (h : HdZ w rb r1 S r l hv v n d W) (i : Nat) (u : Value) (hv' : Array Value) (e : hv.set! i u = hv') : HdZ w rb r1 S r l hv' v n d (W.setCell ⟨r1 + 1, i, none⟩ u) := h.in1 (Nat.le_refl _) gb_set (h.x.put i u hv' e)
theorem hz_nat (w : World) (rb r1 : Nat) (S : Nat → Prop) (r : Its) (n t : ByteArray) (l0 l : Its) (hv : Array Value) (v : Value) (m : Nat) (d : List ByteArray) (W : World) (h : HdZ w rb r1 S r (.cons 0 n t l0 l) hv v m d W) (hl : l.len < 100000) :
    Calls Try.prog 50 #[.pointer (some ⟨r1, 0, none⟩)] W fun o w' => o = .returned (.string n) ∧ HdZ w rb r1 S r l hv v m d w' :=
  (hd_nat w rb r1 S r n t l0 l hv W h.x hl).mono fun o w' ⟨e, hx, hg⟩ => ⟨e, h.in1 (Nat.le_succ _) hg hx⟩
theorem hz_number (z : Int) (hz : -9223372036854775808 ≤ z ∧ z ≤ 9223372036854775807) (w : World) (rb r1 : Nat) (S : Nat → Prop) (r : Its) (l : Its) (hv : Array Value) (v : Value) (m : Nat) (d : List ByteArray) (W : World) (h : HdZ w rb r1 S r (.cons 2 ⟨#[]⟩ ⟨#[]⟩ (intIt z) l) hv v m d W) (hl : l.len < 100000) :
    Calls Try.prog 53 #[.pointer (some ⟨r1, 0, none⟩)] W fun o w' => o = .returned (.int .i64 z) ∧ HdZ w rb r1 S r l hv v m d w' :=
  (hd_number z hz w rb r1 S r l hv W h.x hl).mono fun o w' ⟨e, hx, hg⟩ => ⟨e, h.in1 (Nat.le_succ _) hg hx⟩
theorem OwnS.rowC {w : World} {base n c : Nat} {A : Option Addr} {ls : List ByteArray} (h : OwnS w base (.slice A n c) n ls) : RowC w (fun g => base ≤ g ∧ g < w.heap.size) A n (cellsN ls) := by
  intro h0
  obtain ⟨hn, hr⟩ := h
  rcases hr.2 with ⟨e, e2⟩ | ⟨g, cap, cur, e, hb, hg, _⟩
  · injection e with _ e _; omega
  · injection e with e1 e2 e3
    subst e1
    refine ⟨g, 0, rfl, ⟨hb, (Array.getElem?_eq_some_iff.1 hg).1⟩, fun j u hj => ?_⟩
    have := hr.cells (g := g) rfl j _ hj
    rw [addr_add] at this
    exact this
theorem nat_infoE : ∃ i : TypeInfo, Try.prog.info? 23 = some i ∧ i.zero = some (.string ByteArray.empty) ∧ i.size = 1 ∧ i.bytes = 16 := by
  obtain ⟨i, hi, hz⟩ := Option.map_eq_some_iff.1 nat_info
  simp only [Prod.mk.injEq] at hz
  exact ⟨i, hi, hz.1, hz.2.1, hz.2.2⟩
/-- The same in a region that draws its order. -/
theorem step_append_N1 {w : World} {ops : Array Oper} {o : Oper} {a : Act} {K : Act → World → Prop} {Q : Exit → Act → World → Prop} {E : Prop} (hgd : o.guard = none) (s x : Operand)
    (ho : o.op = .call { callee := .builtin .append, args := #[s, x], argTypes := #[38, 38] })
    (base : Nat) (v : Value) (n : Nat) (ls : List ByteArray) (hs : a.eval s = v) (hown : OwnS w base v n ls)
    (y : ByteArray) (g c : Nat) (hx : a.eval x = .slice (some ⟨g, 0, none⟩) 1 c) (hg : w.heap[g]? = some (.cells #[.string y] 23 (0, 0))) (hsz : n + 1 ≤ 100000) (hbase : base ≤ w.heap.size)
    (h : ∀ v' w', OwnS w' base v' (n + 1) (ls ++ [y]) → w.grownBy w' v.ownBlock → K (a.put o.dst v') w') :
    if Region.wanted o (yielded ops a.tmps) = true then Oper.wp Try.prog o a w K Q else E := by
  obtain ⟨i, hi, hz, hs1, hb1⟩ := nat_infoE
  have hlt : g < w.heap.size := (Array.getElem?_eq_some_iff.1 hg).1
  have hr : Reads w w.heap.size 1 (some ⟨g, 0, none⟩) 1 [.string y] := ⟨rfl, fun _ => ⟨_, rfl, hlt, fun j u hu => by
    rw [addr_add, Nat.zero_add]
    have := cell_of_row w g j _ _ _ hg
    rw [this, ← hu]
    simp⟩⟩
  refine step_append_any _ hgd s x 38 ho base 23 i (.string ByteArray.empty) 1 16 Try.underlying38 hi hz hs1 hb1 rfl (by decide) v n (ls.map Value.string) hs hown.2 w.heap.size (some ⟨g, 0, none⟩) 1 c [.string y] hx hr (fun v hv => by rw [List.mem_singleton.1 hv]; rfl) (by unfold maxLen; omega) (by omega) hbase ?_
  intro v' w' h2 h3 h4
  exact h v' w' ⟨by rw [List.length_append, hown.1]; rfl, by rw [List.map_append]; exact h2⟩ h3
/-- What held hands back. -/
def HeGot (w : World) (rb : Nat) (S : Nat → Prop) (r : Its) (x : Hz) (o : Ending) (w' : World) : Prop :=
  ∃ A c, o = .returned (valH x A x.att.length c) ∧ RowC w' (fun g => w.heap.size ≤ g ∧ g < w'.heap.size) A x.att.length (cellsN x.att) ∧ InI w' rb S r ∧ w.grownBy w' (some rb)
def lenAt (w : World) (rb : Nat) : Nat := match w.cell? ⟨rb, 0, none⟩ with | some (.slice _ n _) => n | _ => 0
theorem InI.len_at {w : World} {rb : Nat} {S : Nat → Prop} {r : Its} (h : InI w rb S r) : lenAt w rb = r.len := by
  obtain ⟨A, c, _, _, h3⟩ := h
  unfold lenAt
  rw [h3.cells.1]
def tailH (x : Hz) : Its := .cons 0 x.a ⟨#[]⟩ .nil (.cons 0 x.e ⟨#[]⟩ .nil (.cons 0 x.v ⟨#[]⟩ .nil (.cons 2 ⟨#[]⟩ ⟨#[]⟩ (intIt x.ep) (.cons 0 x.wit ⟨#[]⟩ .nil .nil))))
theorem HdZ.fin {w W w' : World} {rb r1 : Nat} {S : Nat → Prop} {r l : Its} {hv : Array Value} {A : Option Addr} {c n : Nat} {d : List ByteArray} (h : HdZ w rb r1 S r l hv (.slice A n c) n d W) (hg : W.grownBy w' (some w.heap.size)) :
    RowC w' (fun g => w.heap.size ≤ g ∧ g < w'.heap.size) A n (cellsN d) ∧ InI w' rb S r ∧ w.grownBy w' (some rb) := by
  have h1 := h.x.le
  have h2 := h.x.size
  have h3 := h.x.rlt
  have hr := h.row.gb hg (by
    cases hb : (Value.slice A n c).ownBlock with
    | none => exact .inl rfl
    | some k => exact .inr (fun e => by injection e; have := (h.row.at_ k hb).1; omega))
  exact ⟨(hr.lower (by omega)).rowC, h.x.out.gb hg (fun g hgs => by have := (h.x.own g hgs).1; exact ⟨by omega, fun e => by injection e; omega⟩) (fun e => by injection e; omega), gb_new h.x.gr hg (fun k e => by injection e; omega)⟩
theorem wal_heldR (x : Hz) (hv : -9223372036854775808 ≤ x.ver ∧ x.ver ≤ 9223372036854775807) (he : -9223372036854775808 ≤ x.ep ∧ x.ep ≤ 9223372036854775807) (hatt : x.att.length ≤ 1000) (n t : ByteArray) (r : Its) (rb : Nat) (S : Nat → Prop) (w : World) (hin : InI w rb S (.cons 2 n t (heldL x) r)) (hr : r.len < 100000) (hS : ∀ g, S g → g < w.heap.size ∧ g ≠ rb) :
    Calls Try.prog 52 #[.pointer (some ⟨rb, 0, none⟩)] w (HeGot w rb S r x) := by
  obtain ⟨W, hW⟩ : ∃ W, w.alloc (.cells zeroH 44) = W := ⟨_, rfl⟩
  have hbw : Below w.heap.size w W := by rw [← hW]; exact (Below.refl _ _).alloc (Nat.le_refl _) _
  have hsz : W.heap.size = w.heap.size + 1 := by rw [← hW]; simp
  have hbx : W.heap[w.heap.size]? = some (.cells zeroH 44 (0, 0)) := by rw [← hW]; exact heap_alloc_new w _
  obtain ⟨A0, c0, hc0, hsl, hb⟩ := hin
  have hlt := hb.lt
  have HN := Lib.hid (wal_next 2 n t (heldL x) r A0 _ c0 rb S W rfl hr hc0 (hb.keep hbw) (hsl.below hbw (fun g hg => (hS g hg).1)) (fun g hg => ⟨Nat.lt_of_lt_of_le (hS g hg).1 hbw.size, (hS g hg).2⟩))
  have hl9 : (heldL x).len = 9 := rfl
  unfold NxGot at HN
  rw [hl9] at HN
  have HS := Lib.hid hS
  have HX : Hid (∀ w5 A1 c1 A2 c2, 9 ≤ c1 → r.len ≤ c2 → SlK w5 S A1 (heldL x) → SlK w5 S A2 r → RdI A2 r.len c2 rb w5 → W.grownBy w5 (some rb) → HdX w rb w5.heap.size S r (heldL x) zeroH ((w5.alloc (.cells #[.slice A1 9 c1] 81)).alloc (.cells zeroH 44))) := Lib.hid (by
    intro w5 A1 c1 A2 c2 h1 h2 h3 h4 h5 h6
    have hs := h6.size
    have hal : Below w5.heap.size w5 ((w5.alloc (.cells #[.slice A1 9 c1] 81)).alloc (.cells zeroH 44)) := ((Below.refl _ _).alloc (Nat.le_refl _) _).alloc (by simp) _
    have hS5 : ∀ g, S g → g < w5.heap.size := fun g hg => Nat.lt_of_lt_of_le (hS g hg).1 (by omega)
    refine ⟨(hal.block _ (by omega)).trans ((h6.block _ (by omega) (fun e => by injection e; omega)).trans hbx), (two_boxes w5 _ _).2, ((gb_below hbw).trans h6).trans (gb_below hal), by omega, by simp, ⟨A2, c2, h2, h4.below hal hS5, h5.keep hal⟩, ⟨A1, c1, h1, h3.below hal hS5, (two_boxes w5 _ _).1⟩, hlt, hS⟩)
  rw [← hW] at HN HX
  have hf3 := fld_3
  clear hb hsl hS hc0 hbw hbx hsz hlt hW hl9
  go_enter Try.func52, Try.ntmps52
  go_upto_region 4 with (go_at_call 55; (with_reducible refine HN.out.mono ?_); rintro o w5 ⟨A1, c1, A2, c2, rfl, h1, h2, h3, h4, h5, h6⟩; have HX0 := Lib.hid (HX.out w5 A1 c1 A2 c2 h1 h2 h3 h4 h5 h6); clear h1 h2 h3 h4 h5 h6)
  have hal1 := World.size_alloc w5 (.cells #[.slice A1 9 c1] 81)
  obtain ⟨W1, hW1⟩ : ∃ W1, ((w5.alloc (.cells #[.slice A1 9 c1] 81)).alloc (.cells zeroH 44)) = W1 := ⟨_, rfl⟩
  obtain ⟨r1, hr1⟩ : ∃ r1, w5.heap.size = r1 := ⟨_, rfl⟩
  rw [hW1] at HX0 ⊢
  rw [hr1] at HX0 ⊢
  clear hW1 hr1 hal1 HX HN
  have HT1 := Lib.hid (hd_text w rb r1 S r _ _ _ _ _ W1 HX0.out (show 8 < 100000 by decide))
  go_upto_region 5 with (first
    | (go_at_call 34; (with_reducible refine HT1.out.mono ?_); rintro o w6 ⟨rfl, h6, _⟩; have HT2 := Lib.hid (hd_text w rb r1 S r _ _ _ _ _ w6 h6 (show 7 < 100000 by decide)); clear h6 HT1)
    | (go_at_call 34; (with_reducible refine HT2.out.mono ?_); rintro o w7 ⟨rfl, h7, _⟩; have HT3 := Lib.hid (hd_number x.ver hv w rb r1 S r _ _ w7 h7 (show 6 < 100000 by decide)); clear h7 HT2)
    | (go_at_call 53; (with_reducible refine HT3.out.mono ?_); rintro o w8 ⟨rfl, h8, _⟩; have x0 := cell_of_row _ _ 0 _ _ _ h8.held; have x1 := cell_of_row _ _ 1 _ _ _ h8.held; have x2 := cell_of_row _ _ 2 _ _ _ h8.held; have g0 := frozen_of_row _ _ 0 _ _ h8.held; have g1 := frozen_of_row _ _ 1 _ _ h8.held; have g2 := frozen_of_row _ _ 2 _ _ h8.held; have H8 := Lib.hid (((h8.put 0 (.string x.iss) _ rfl).put 1 (.string x.sch) _ rfl).put 2 (.int .i64 x.ver) #[.string x.iss, .string x.sch, .int .i64 x.ver, .slice none 0 0, .string ⟨#[]⟩, .string ⟨#[]⟩, .string ⟨#[]⟩, .int .i64 0, .string ⟨#[]⟩] rfl); clear h8 HT3))
  obtain ⟨W5, hW5⟩ : ∃ W5, (((w8.setCell ⟨r1 + 1, 0, none⟩ (.string x.iss)).setCell ⟨r1 + 1, 1, none⟩ (.string x.sch)).setCell ⟨r1 + 1, 2, none⟩ (.int .i64 x.ver)) = W5 := ⟨_, rfl⟩
  rw [hW5] at H8 ⊢
  clear hW5 x0 x1 x2 g0 g1 g2 HX0
  have HN5 := Lib.hid (hd_next w rb r1 S r _ _ _ _ _ W5 H8.out (show 5 < 100000 by decide))
  unfold HdL at HN5
  rw [natsI_len] at HN5
  go_wp2_with (go_at_call 55; (with_reducible refine HN5.out.mono ?_); rintro o w9 ⟨A9, c9, rfl, h1, h2, h3⟩; have H9 := Lib.hid (And.intro h1 (And.intro h2 h3)); clear h1 h2 h3)
  have hY0 : HdY w rb r1 w9.heap.size S r (tailH x) x.att #[.string x.iss, .string x.sch, .int .i64 x.ver, .slice none 0 0, .string ⟨#[]⟩, .string ⟨#[]⟩, .string ⟨#[]⟩, .int .i64 0, .string ⟨#[]⟩] (.slice none 0 0) 0 [] (w9.alloc (.cells #[.slice A9 x.att.length c9] 81)) := by
    have hal : Below w9.heap.size w9 (w9.alloc (.cells #[.slice A9 x.att.length c9] 81)) := (Below.refl _ _).alloc (Nat.le_refl _) _
    have hx := H9.out.2.2
    refine ⟨hx.below hal, hx.size, by simp, ⟨A9, c9, by rw [natsI_len]; exact H9.out.1, H9.out.2.1.below hal (fun g hg => (hx.far g hg).1), by rw [natsI_len]; exact heap_alloc_new w9 _⟩, OwnS.nil_ _ _⟩
  obtain ⟨W9, hW9⟩ : ∃ W9, w9.alloc (.cells #[.slice A9 x.att.length c9] 81) = W9 := ⟨_, rfl⟩
  obtain ⟨r2, hr2⟩ : ∃ r2, w9.heap.size = r2 := ⟨_, rfl⟩
  rw [hW9, hr2] at hY0
  rw [hW9, hr2]
  have HY0 := Lib.hid hY0
  clear hW9 hr2 H9 HN5 H8 hY0
  go_loopw [] (fun wr => ∃ (d a : List ByteArray) (A : Option Addr) (c : Nat), d ++ a = x.att ∧ HdY w rb r1 r2 S r (tailH x) a #[.string x.iss, .string x.sch, .int .i64 x.ver, .slice A d.length c, .string ⟨#[]⟩, .string ⟨#[]⟩, .string ⟨#[]⟩, .int .i64 0, .string ⟨#[]⟩] (.slice A d.length c) d.length d wr) (fun wr => lenAt wr r2)
  case atStart => exact ⟨[], x.att, none, 0, rfl, HY0.out⟩
  case round =>
    obtain ⟨d, a, A, c, hda, hy⟩ := hrel
    obtain ⟨A', c', hc', hsl', hb'⟩ := hy.nums
    rw [natsI_len] at hb'
    obtain ⟨z0, z1⟩ := hb'.cells
    have HY := Lib.hid hy
    have HDA := Lib.hid hda
    clear hy hda hc' hsl' hb' HY0
    cases a with
    | nil =>
      simp only [List.length_nil] at z0
      have hda := HDA.out
      rw [List.append_nil] at hda
      subst hda
      have HM0 := Lib.hid (hz_nat w rb r1 S r _ _ _ _ _ _ _ _ wr HY.out.to (show 4 < 100000 by decide))
      go_upto_region 8 with fail
      go_upto_region 9 with (first
        | (go_at_call 50; (with_reducible refine HM0.out.mono ?_); rintro o w6 ⟨rfl, h6⟩; have HM1 := Lib.hid (hz_nat w rb r1 S r _ _ _ _ _ _ _ _ w6 h6 (show 3 < 100000 by decide)); clear h6 HM0)
        | (go_at_call 50; (with_reducible refine HM1.out.mono ?_); rintro o w7 ⟨rfl, h7⟩; have HM2 := Lib.hid (hz_nat w rb r1 S r _ _ _ _ _ _ _ _ w7 h7 (show 2 < 100000 by decide)); clear h7 HM1)
        | (go_at_call 50; (with_reducible refine HM2.out.mono ?_); rintro o w8 ⟨rfl, h8⟩; have x4 := cell_of_row _ _ 4 _ _ _ h8.x.held; have x5 := cell_of_row _ _ 5 _ _ _ h8.x.held; have x6 := cell_of_row _ _ 6 _ _ _ h8.x.held; have g4 := frozen_of_row _ _ 4 _ _ h8.x.held; have g5 := frozen_of_row _ _ 5 _ _ h8.x.held; have g6 := frozen_of_row _ _ 6 _ _ h8.x.held; have H8 := Lib.hid (((h8.put 4 (.string x.a) _ rfl).put 5 (.string x.e) _ rfl).put 6 (.string x.v) #[.string x.iss, .string x.sch, .int .i64 x.ver, .slice A x.att.length c, .string x.a, .string x.e, .string x.v, .int .i64 0, .string ⟨#[]⟩] rfl); clear h8 HM2))
      obtain ⟨W8, hW8⟩ : ∃ W8, (((w8.setCell ⟨r1 + 1, 4, none⟩ (.string x.a)).setCell ⟨r1 + 1, 5, none⟩ (.string x.e)).setCell ⟨r1 + 1, 6, none⟩ (.string x.v)) = W8 := ⟨_, rfl⟩
      rw [hW8] at H8 ⊢
      clear hW8 x4 x5 x6 g4 g5 g6
      have HM3 := Lib.hid (hz_number x.ep he w rb r1 S r _ _ _ _ _ W8 H8.out (show 1 < 100000 by decide))
      go_upto_region 10 with (first
        | (go_at_call 53; (with_reducible refine HM3.out.mono ?_); rintro o w9 ⟨rfl, h9⟩; have HM4 := Lib.hid (hz_nat w rb r1 S r _ _ _ _ _ _ _ _ w9 h9 (show 0 < 100000 by decide)); clear h9 HM3)
        | (go_at_call 50; (with_reducible refine HM4.out.mono ?_); rintro o w10 ⟨rfl, h10⟩; have x7 := cell_of_row _ _ 7 _ _ _ h10.x.held; have x8 := cell_of_row _ _ 8 _ _ _ h10.x.held; have g7 := frozen_of_row _ _ 7 _ _ h10.x.held; have g8 := frozen_of_row _ _ 8 _ _ h10.x.held; have H10 := Lib.hid ((h10.put 7 (.int .i64 x.ep) _ rfl).put 8 (.string x.wit) #[.string x.iss, .string x.sch, .int .i64 x.ver, .slice A x.att.length c, .string x.a, .string x.e, .string x.v, .int .i64 x.ep, .string x.wit] rfl); clear h10 HM4))
      obtain ⟨W10, hW10⟩ : ∃ W10, ((w10.setCell ⟨r1 + 1, 7, none⟩ (.int .i64 x.ep)).setCell ⟨r1 + 1, 8, none⟩ (.string x.wit)) = W10 := ⟨_, rfl⟩
      rw [hW10] at H10 ⊢
      clear hW10 x7 x8 g7 g8
      have HE := Lib.hid (hd_end w rb r1 S r _ W10 H10.out.x)
      go_upto_region 11 with (go_at_call 51; (with_reducible refine HE.out.mono ?_); rintro o w11 ⟨rfl, rfl⟩)
      have hbx := H10.out.x.held
      have hby := H10.out.x.res
      have c0 := cell_of_row _ _ 0 _ _ _ hbx
      have c1 := cell_of_row _ _ 1 _ _ _ hbx
      have c2 := cell_of_row _ _ 2 _ _ _ hbx
      have c3 := cell_of_row _ _ 3 _ _ _ hbx
      have c4 := cell_of_row _ _ 4 _ _ _ hbx
      have c5 := cell_of_row _ _ 5 _ _ _ hbx
      have c6 := cell_of_row _ _ 6 _ _ _ hbx
      have c7 := cell_of_row _ _ 7 _ _ _ hbx
      have c8 := cell_of_row _ _ 8 _ _ _ hbx
      have g0 := frozen_of_row _ _ 0 _ _ hby
      have g1 := frozen_of_row _ _ 1 _ _ hby
      have g2 := frozen_of_row _ _ 2 _ _ hby
      have g3 := frozen_of_row _ _ 3 _ _ hby
      have g4 := frozen_of_row _ _ 4 _ _ hby
      have g5 := frozen_of_row _ _ 5 _ _ hby
      have g6 := frozen_of_row _ _ 6 _ _ hby
      have g7 := frozen_of_row _ _ 7 _ _ hby
      have g8 := frozen_of_row _ _ 8 _ _ hby
      have t0 := cell_of_row _ _ 0 _ _ _ hby
      have t1 := cell_of_row _ _ 1 _ _ _ hby
      have t2 := cell_of_row _ _ 2 _ _ _ hby
      have t3 := cell_of_row _ _ 3 _ _ _ hby
      have t4 := cell_of_row _ _ 4 _ _ _ hby
      have t5 := cell_of_row _ _ 5 _ _ _ hby
      have t6 := cell_of_row _ _ 6 _ _ _ hby
      have t7 := cell_of_row _ _ 7 _ _ _ hby
      have t8 := cell_of_row _ _ 8 _ _ _ hby
      clear hbx hby
      go_wp2_with fail
      refine bodyPost_ret (v := .agg #[.string x.iss, .string x.sch, .int .i64 x.ver, .slice A x.att.length c, .string x.a, .string x.e, .string x.v, .int .i64 x.ep, .string x.wit]) (by simp [results, Try.results52, go_sem, t0, t1, t2, t3, t4, t5, t6, t7, t8]) rfl ?_
      refine ⟨A, c, rfl, H10.out.fin ?_⟩
      exact ((((((((gb_set.trans gb_set).trans gb_set).trans gb_set).trans gb_set).trans gb_set).trans gb_set).trans gb_set).trans gb_set)
    | cons y a =>
      have hil : decide ((0 : Int) < ((y :: a).length : Int)) = true := decide_eq_true (by simp only [List.length_cons]; omega)
      have hil2 : (0 : Int) < ((y :: a).length : Int) := by simp only [List.length_cons]; omega
      generalize hml : (y :: a).length = ml at z0 hil hil2
      have hle : d.length + 1 ≤ 1000 ∧ a.length < 100000 := by have := congrArg List.length HDA.out; simp only [List.length_append, List.length_cons] at this; omega
      have HLE := Lib.hid hle
      have HN7 := Lib.hid (fun W h => hd_nat2 w rb r1 r2 S r (tailH x) y a #[.string x.iss, .string x.sch, .int .i64 x.ver, .slice A d.length c, .string ⟨#[]⟩, .string ⟨#[]⟩, .string ⟨#[]⟩, .int .i64 0, .string ⟨#[]⟩] (.slice A d.length c) d.length d W h HLE.out.2)
      have HHC : Hid (∀ W (h : HdX w rb r1 S r (tailH x) #[.string x.iss, .string x.sch, .int .i64 x.ver, .slice A d.length c, .string ⟨#[]⟩, .string ⟨#[]⟩, .string ⟨#[]⟩, .int .i64 0, .string ⟨#[]⟩] W), W.cell? ⟨r1 + 1, 3, none⟩ = some (.slice A d.length c)) := Lib.hid (fun W h => cell_of_row _ _ 3 _ _ _ h.held)
      have x3 := HHC.out _ HY.out.x
      clear hle
      go_upto_region 7 with fail
      go_region_law (first
        | (go_simp; go_at_call 50; (first | (with_reducible refine (HN7.out _ HY.out).mono ?_) | (with_reducible refine (HN7.out _ (HY.out.below (Below.refl _ _).drew)).mono ?_)); rintro o w6 ⟨rfl, h6⟩; have q3 := HHC.out _ h6.x; have g3 := frozen_of_row _ _ 3 _ _ h6.x.held; have H6 := Lib.hid h6; have HA := Lib.hid (h6.below ((Below.refl _ _).alloc (Nat.le_refl _) (.cells #[.string y] 23))); have q4 := HHC.out _ HA.out.x; have HK := Lib.hid (heap_alloc_new w6 (.cells #[.string y] 23)); clear h6)
        | (refine step_append_N1 rfl (.tmp 43) (.tmp 46) rfl (r2 + 1) (.slice A d.length c) d.length d (by simp [Act.eval]) HA.out.row y w6.heap.size 1 (by simp [Act.eval]) HK.out (Nat.le_trans HLE.out.1 (by decide)) HA.out.lt ?_; intro v7 w7 hown hg; obtain ⟨A7, c7, rfl, _⟩ := hown.form (Nat.le_trans HA.out.lt hg.size); have H7 := Lib.hid (HA.out.app hg hown); have q7 := cell_of_row _ _ 3 _ _ _ H7.out.x.held; have g7 := frozen_of_row _ _ 3 _ _ H7.out.x.held; clear hown hg))
      all_goals
        have HP := Lib.hid (H7.out.put 3 (.slice A7 (d.length + 1) c7) #[.string x.iss, .string x.sch, .int .i64 x.ver, .slice A7 (d.length + 1) c7, .string ⟨#[]⟩, .string ⟨#[]⟩, .string ⟨#[]⟩, .int .i64 0, .string ⟨#[]⟩] rfl)
        go_roundw
        case rel =>
          have e : (d ++ [y]).length = d.length + 1 := by simp
          have hrel : ∃ (d1 a1 : List ByteArray) (A : Option Addr) (c : Nat), d1 ++ a1 = x.att ∧ HdY w rb r1 r2 S r (tailH x) a1 #[.string x.iss, .string x.sch, .int .i64 x.ver, .slice A d1.length c, .string ⟨#[]⟩, .string ⟨#[]⟩, .string ⟨#[]⟩, .int .i64 0, .string ⟨#[]⟩] (.slice A d1.length c) d1.length d1 (w7.setCell ⟨r1 + 1, 3, none⟩ (.slice A7 (d.length + 1) c7)) := by
            refine ⟨d ++ [y], a, A7, c7, by rw [List.append_assoc]; exact HDA.out, ?_⟩
            rw [e]
            exact HP.out
          exact ⟨_, _, _, _, _, _, _, _, _, _, _, _, _, _, _, _, _, hrel, rfl⟩
        case measure =>
          have h1 := HP.out.nums.len_at
          have h2 := HY.out.nums.len_at
          rw [natsI_len] at h1 h2
          rw [List.length_cons] at h2
          rw [h1, h2]
          exact Nat.lt_succ_self _
end Go.Proofs.Ytlheedcnmfekoaa
