/- Encoding: (*reader).item where it reads an item. -/
import Derived.Test.YtjhlddlocpkhkaaGreatWhYb
import Derived.Test.YtjhlddlocpkhkaaGreatWhJ08
import Derived.Test.YtjhlddlocpkhkaaGreatWhJ06
namespace Go.Proofs.YtjhlddlocpkhkaaGreat
open Go.RowKit
set_option maxRecDepth 100000
set_option linter.unusedVariables false
set_option maxHeartbeats 8000000
/-- What it means that an item is read. -/
theorem rdO_inv {lists : Nat} {s : ByteArray} {a e : Nat} {y : Its.One} {r : List UInt8} (he : e ≤ s.size) (h : rdO lists (seg s a e) = .ok (y, r)) :
    ∃ (ha : a < e) (n a2 : Nat), (s[a]'(by omega)).toNat ≤ 2 ∧ ¬ ((s[a]'(by omega)).toNat = 2 ∧ lists = 32) ∧ szS 5 0 (seg s (a + 1) e) = some (n, seg s a2 e) ∧ a < a2 ∧ a2 ≤ e ∧ n ≤ e - a2 ∧ r = seg s (a2 + n) e ∧
      (((s[a]'(by omega)).toNat = 0 ∧ valid ⟨(seg s a2 (a2 + n)).toArray⟩ = true ∧ y = (0, ⟨(seg s a2 (a2 + n)).toArray⟩, E0, .nil)) ∨
       ((s[a]'(by omega)).toNat = 1 ∧ y = (1, E0, ⟨(seg s a2 (a2 + n)).toArray⟩, .nil)) ∨
       ((s[a]'(by omega)).toNat = 2 ∧ ∃ l, rdA (lists + 1) (seg s a2 (a2 + n)) = .ok l ∧ y = (2, E0, E0, l))) := by
  unfold rdO at h
  by_cases ha : a < e
  · rw [seg_cons ha he] at h
    simp only [rd1] at h
    split at h
    · cases h
    · rename_i h2
      split at h
      · cases h
      · rename_i h3
        cases hs : szS 5 0 (seg s (a + 1) e) with
        | none => rw [hs] at h; cases h
        | some x =>
          obtain ⟨n, r0⟩ := x
          obtain ⟨a2, h5, h6, rfl⟩ := szS_seg he hs
          rw [hs] at h
          dsimp only at h
          split at h
          · cases h
          · rename_i h7
            rw [seg_len he] at h7
            rw [seg_take (show a2 + n ≤ e by omega), seg_drop] at h
            refine ⟨ha, n, a2, by omega, h3, rfl, by omega, h6, by omega, ?_⟩
            split at h
            · rename_i h8
              split at h
              · rename_i h9
                injection h with h
                injection h with h10 h11
                exact ⟨h11.symm, .inl ⟨h8, h9, h10.symm⟩⟩
              · cases h
            · split at h
              · rename_i h8
                injection h with h
                injection h with h10 h11
                exact ⟨h11.symm, .inr (.inl ⟨h8, h10.symm⟩)⟩
              · cases hl : rdA (lists + 1) (seg s a2 (a2 + n)) with
                | err e' => rw [hl] at h; cases h
                | ok l =>
                  rw [hl] at h
                  dsimp only at h
                  injection h with h
                  injection h with h10 h11
                  exact ⟨h11.symm, .inr (.inr ⟨by omega, l, rfl, h10.symm⟩)⟩
  · rw [seg_nil (by omega)] at h
    simp [rd1] at h
/-- What item holds: the reader, the result's box, the item's box. -/
structure ItB (w : World) (rb : Nat) (s : ByteArray) (a : Nat) (k : Int) (n t : ByteArray) (A : Option Addr) (ln c : Nat) (wx : World) : Prop where
  rd : RdB s a rb wx
  res : wx.heap[w.heap.size]? = some (.cells #[.int .i64 0, .string ⟨#[]⟩, .string ⟨#[]⟩, .slice none 0 0] 63 (0, 0))
  it : wx.heap[w.heap.size + 1]? = some (.cells #[.int .i64 k, .string n, .string t, .slice A ln c] 63 (0, 0))
  gr : w.grownBy wx (some rb)
  size : w.heap.size + 2 ≤ wx.heap.size
  lt : rb < w.heap.size
section
variable {w wx w' : World} {rb : Nat} {s : ByteArray} {a : Nat} {k : Int} {n t : ByteArray} {A : Option Addr} {ln c : Nat}
theorem ItB.start {w1 : World} (hb : RdB s a rb w1) (hr : w1.heap[w.heap.size]? = some (.cells #[.int .i64 0, .string ⟨#[]⟩, .string ⟨#[]⟩, .slice none 0 0] 63 (0, 0))) (hg : w.grownBy w1 (some rb)) (hz : w1.heap.size = w.heap.size + 1) (hlt : rb < w.heap.size) (z : Int) (hzk : z = k) :
    ItB w rb s a k ⟨#[]⟩ ⟨#[]⟩ none 0 0 ((w1.alloc (.cells #[.int .i64 z, .string ⟨#[]⟩, .string ⟨#[]⟩, .slice none 0 0] 63)).drew) := by
  subst hzk
  have hal : Below w1.heap.size w1 ((w1.alloc (.cells #[.int .i64 z, .string ⟨#[]⟩, .string ⟨#[]⟩, .slice none 0 0] 63)).drew) := ((Below.refl _ _).alloc (Nat.le_refl _) _).drew
  refine ⟨hb.keep hal hb.lt, (hal.block _ (by omega)).trans hr, ?_, hg.trans (gb_below hal), ?_, hlt⟩
  · rw [← hz]
    exact heap_alloc_new w1 _
  · show w.heap.size + 2 ≤ (w1.alloc (.cells #[.int .i64 z, .string ⟨#[]⟩, .string ⟨#[]⟩, .slice none 0 0] 63)).heap.size
    rw [World.size_alloc]
    omega
theorem ItB.next (h : ItB w rb s a k n t A ln c wx) (hb : Below wx.heap.size wx w') : ItB w rb s a k n t A ln c w' :=
  ⟨h.rd.keep hb h.rd.lt, (hb.block _ (by have := h.size; omega)).trans h.res, (hb.block _ (by have := h.size; omega)).trans h.it, h.gr.trans (gb_below hb), Nat.le_trans h.size hb.size, h.lt⟩
theorem ItB.drew (h : ItB w rb s a k n t A ln c wx) : ItB w rb s a k n t A ln c wx.drew := h.next (Below.refl _ _).drew
/-- The reader goes on. -/
theorem ItB.read (h : ItB w rb s a k n t A ln c wx) {a' : Nat} (hr : RdB s a' rb w') (hg : wx.grownBy w' (some rb)) : ItB w rb s a' k n t A ln c w' :=
  ⟨hr, (hg.block _ (by have := h.size; omega) (fun e => by have := h.lt; injection e; omega)).trans h.res, (hg.block _ (by have := h.size; omega) (fun e => by have := h.lt; injection e; omega)).trans h.it, h.gr.trans hg, Nat.le_trans h.size hg.size, h.lt⟩
theorem ItB.cells (h : ItB w rb s a k n t A ln c wx) : ((wx.cell? ⟨rb, 0, none⟩ = some (.string s) ∧ wx.cell? ⟨rb, 1, none⟩ = some (.int .i64 (a : Int))) ∧ wx.frozen? ⟨rb, 1, none⟩ = false) ∧
    (wx.cell? ⟨w.heap.size + 1, 0, none⟩ = some (.int .i64 k) ∧ wx.cell? ⟨w.heap.size + 1, 1, none⟩ = some (.string n) ∧ wx.cell? ⟨w.heap.size + 1, 2, none⟩ = some (.string t) ∧ wx.cell? ⟨w.heap.size + 1, 3, none⟩ = some (.slice A ln c)) ∧
    (wx.frozen? ⟨w.heap.size + 1, 0, none⟩ = false ∧ wx.frozen? ⟨w.heap.size + 1, 1, none⟩ = false ∧ wx.frozen? ⟨w.heap.size + 1, 2, none⟩ = false ∧ wx.frozen? ⟨w.heap.size + 1, 3, none⟩ = false) :=
  ⟨h.rd.cells, ⟨cell_of_row wx _ 0 _ _ _ h.it, cell_of_row wx _ 1 _ _ _ h.it, cell_of_row wx _ 2 _ _ _ h.it, cell_of_row wx _ 3 _ _ _ h.it⟩, frozen_of_row wx _ 0 _ _ h.it, frozen_of_row wx _ 1 _ _ h.it, frozen_of_row wx _ 2 _ _ h.it, frozen_of_row wx _ 3 _ _ h.it⟩
theorem ItB.rc (h : ItB w rb s a k n t A ln c wx) : (wx.cell? ⟨w.heap.size, 0, none⟩ = some (.int .i64 0) ∧ wx.cell? ⟨w.heap.size, 1, none⟩ = some (.string ⟨#[]⟩) ∧ wx.cell? ⟨w.heap.size, 2, none⟩ = some (.string ⟨#[]⟩) ∧ wx.cell? ⟨w.heap.size, 3, none⟩ = some (.slice none 0 0)) ∧
    (wx.frozen? ⟨w.heap.size, 0, none⟩ = false ∧ wx.frozen? ⟨w.heap.size, 1, none⟩ = false ∧ wx.frozen? ⟨w.heap.size, 2, none⟩ = false ∧ wx.frozen? ⟨w.heap.size, 3, none⟩ = false) :=
  ⟨⟨cell_of_row wx _ 0 _ _ _ h.res, cell_of_row wx _ 1 _ _ _ h.res, cell_of_row wx _ 2 _ _ _ h.res, cell_of_row wx _ 3 _ _ _ h.res⟩, frozen_of_row wx _ 0 _ _ h.res, frozen_of_row wx _ 1 _ _ h.res, frozen_of_row wx _ 2 _ _ h.res, frozen_of_row wx _ 3 _ _ h.res⟩
theorem RdB.putI (h : RdB s a rb wx) (z : Int) (a' : Nat) (hz : z = (a' : Int)) : RdB s a' rb (wx.setCell ⟨rb, 1, none⟩ (.int .i64 z)) := by
  subst hz
  exact h.put a'
/-- Stores into the item's box. -/
theorem ItB.put1 (h : ItB w rb s a k n t A ln c wx) (x : ByteArray) : ItB w rb s a k x t A ln c (wx.setCell ⟨w.heap.size + 1, 1, none⟩ (.string x)) := by
  have hne := h.lt
  exact ⟨(heap_setCell_other _ _ _ _ (show rb ≠ w.heap.size + 1 by omega)).trans h.rd, (heap_setCell_other _ _ _ _ (show w.heap.size ≠ w.heap.size + 1 by omega)).trans h.res, heap_setCell_same wx (w.heap.size + 1) 1 _ _ _ h.it, gb_set_new h.gr (Nat.le_succ _), by simpa using h.size, h.lt⟩
theorem ItB.put2 (h : ItB w rb s a k n t A ln c wx) (x : ByteArray) : ItB w rb s a k n x A ln c (wx.setCell ⟨w.heap.size + 1, 2, none⟩ (.string x)) := by
  have hne := h.lt
  exact ⟨(heap_setCell_other _ _ _ _ (show rb ≠ w.heap.size + 1 by omega)).trans h.rd, (heap_setCell_other _ _ _ _ (show w.heap.size ≠ w.heap.size + 1 by omega)).trans h.res, heap_setCell_same wx (w.heap.size + 1) 2 _ _ _ h.it, gb_set_new h.gr (Nat.le_succ _), by simpa using h.size, h.lt⟩
theorem ItB.put3 (h : ItB w rb s a k n t A ln c wx) (A' : Option Addr) (ln' c' : Nat) : ItB w rb s a k n t A' ln' c' (wx.setCell ⟨w.heap.size + 1, 3, none⟩ (.slice A' ln' c')) := by
  have hne := h.lt
  exact ⟨(heap_setCell_other _ _ _ _ (show rb ≠ w.heap.size + 1 by omega)).trans h.rd, (heap_setCell_other _ _ _ _ (show w.heap.size ≠ w.heap.size + 1 by omega)).trans h.res, heap_setCell_same wx (w.heap.size + 1) 3 _ _ _ h.it, gb_set_new h.gr (Nat.le_succ _), by simpa using h.size, h.lt⟩
theorem ItB.go (h : ItB w rb s a k n t A ln c wx) (z : Int) (a' : Nat) (hz : z = (a' : Int)) : ItB w rb s a' k n t A ln c (wx.setCell ⟨rb, 1, none⟩ (.int .i64 z)) :=
  h.read (h.rd.putI z a' hz) gb_set
/-- The end. -/
theorem ItB.fin (h : ItB w rb s a k n t A ln c wx) (v0 v1 v2 v3 : Value) : 
    RdB s a rb ((((wx.setCell ⟨w.heap.size, 0, none⟩ v0).setCell ⟨w.heap.size, 1, none⟩ v1).setCell ⟨w.heap.size, 2, none⟩ v2).setCell ⟨w.heap.size, 3, none⟩ v3) ∧ w.grownBy ((((wx.setCell ⟨w.heap.size, 0, none⟩ v0).setCell ⟨w.heap.size, 1, none⟩ v1).setCell ⟨w.heap.size, 2, none⟩ v2).setCell ⟨w.heap.size, 3, none⟩ v3) (some rb) := by
  have hne : rb ≠ w.heap.size := by have := h.lt; omega
  refine ⟨?_, gb_set_new (gb_set_new (gb_set_new (gb_set_new h.gr (Nat.le_refl _)) (Nat.le_refl _)) (Nat.le_refl _)) (Nat.le_refl _)⟩
  unfold RdB
  rw [heap_setCell_other _ _ _ _ hne, heap_setCell_other _ _ _ _ hne, heap_setCell_other _ _ _ _ hne, heap_setCell_other _ _ _ _ hne]
  exact h.rd
end
/-- The box and the items read so far. -/
structure LpB (w : World) (rb : Nat) (s : ByteArray) (a : Nat) (A : Option Addr) (ln c : Nat) (d : Its) (wx : World) : Prop where
  it : ItB w rb s a 2 ⟨#[]⟩ ⟨#[]⟩ A ln c wx
  own : OwnK wx (w.heap.size + 2) (.slice A ln c) d
section
variable {w wx w' : World} {rb : Nat} {s : ByteArray} {a : Nat} {A : Option Addr} {ln c : Nat} {d : Its}
theorem OwnK.keptG {base : Nat} {v : Value} {l : Its} (h : OwnK wx base v l) (hg : wx.grownBy w' (some rb)) (hr : rb < base) : OwnK w' base v l := by
  obtain ⟨L, h1, h2⟩ := h
  refine ⟨L, owns_grown h1 hg (fun g hv e => by have := (h1.lt g hv).1; injection e; omega), (h2.keep fun p hp => gb_cell hg hp.2.1 (by have := hp.1; omega)).mono fun g hg' => ⟨hg'.1, Nat.lt_of_lt_of_le hg'.2.1 hg.size, hg'.2.2⟩⟩
theorem LpB.next (h : LpB w rb s a A ln c d wx) (hb : Below wx.heap.size wx w') : LpB w rb s a A ln c d w' := ⟨h.it.next hb, h.own.kept hb⟩
theorem LpB.drew (h : LpB w rb s a A ln c d wx) : LpB w rb s a A ln c d wx.drew := h.next (Below.refl _ _).drew
theorem LpB.alloc (h : LpB w rb s a A ln c d wx) (o : Obj) : LpB w rb s a A ln c d (wx.alloc o) := h.next ((Below.refl _ _).alloc (Nat.le_refl _) _)
theorem LpB.read (h : LpB w rb s a A ln c d wx) {a' : Nat} (hr : RdB s a' rb w') (hg : wx.grownBy w' (some rb)) : LpB w rb s a' A ln c d w' :=
  ⟨h.it.read hr hg, h.own.keptG hg (by have := h.it.lt; omega)⟩
theorem LpB.fresh {W : World} {A5 : Option Addr} {l5 : Its} (h : LpB w rb s a A ln c d wx) (hW : wx.heap.size ≤ W.heap.size) (hs : SlK w' (fun g => W.heap.size ≤ g ∧ g < w'.heap.size) A5 l5) (o : Obj) :
    SlK (w'.alloc o) (fun g => w.heap.size + 2 ≤ g ∧ g < (w'.alloc o).heap.size ∧ (Value.slice A ln c).ownBlock ≠ some g) A5 l5 := by
  have hz := h.it.size
  refine (hs.keep fun p hp => World.cell?_alloc_lt w' o p hp.2).mono fun g hg => ⟨by omega, by simp; omega, fun e => ?_⟩
  have := (h.own.blockOf g e).2
  omega
theorem ItB.far {k : Int} {n t : ByteArray} (h : ItB w rb s a k n t A ln c wx) (hb : Below (w.heap.size + 2) wx w') : ItB w rb s a k n t A ln c w' :=
  have hlt := h.lt
  ⟨(hb.block _ (by omega)).trans h.rd, (hb.block _ (by omega)).trans h.res, (hb.block _ (by omega)).trans h.it, ⟨hb.os.trans h.gr.os, hb.tape.trans h.gr.tape, hb.output.trans h.gr.output, Nat.le_trans h.gr.size hb.size, fun k hk hne => (hb.block k (by omega)).trans (h.gr.block k hk hne)⟩, Nat.le_trans h.size hb.size, h.lt⟩
/-- A new item has been appended. -/
theorem LpB.put (h : LpB w rb s a A ln c d wx) {A6 : Option Addr} {n6 c6 : Nat} {d6 : Its} (ho : OwnK w' (w.heap.size + 2) (.slice A6 n6 c6) d6) (hg : wx.grownBy w' (Value.slice A ln c).ownBlock) :
    ItB w rb s a 2 ⟨#[]⟩ ⟨#[]⟩ A ln c w' ∧ LpB w rb s a A6 n6 c6 d6 (w'.setCell ⟨w.heap.size + 1, 3, none⟩ (.slice A6 n6 c6)) := by
  have hf := h.it.far (below_grown hg h.it.size (fun k hk => (h.own.blockOf k hk).1))
  refine ⟨hf, hf.put3 A6 n6 c6, ?_⟩
  obtain ⟨L, h1, h2⟩ := ho
  refine ⟨L, owns_set h1 (p := ⟨w.heap.size + 1, 3, none⟩) (fun e => absurd (show w.heap.size + 2 ≤ w.heap.size + 1 from (h1.lt _ e).1) (by omega)) _, (h2.keep fun p hp => World.cell?_setCell_other _ _ _ _ (fun e => by have := congrArg Addr.block e; have := hp.1; simp at *; omega)).mono fun g hg' => by simpa using hg'⟩
end
/-- Where a reader stands. -/
def atOf (w : World) (rb : Nat) : Nat := match w.cell? ⟨rb, 1, none⟩ with | some (.int .i64 z) => z.toNat | _ => 0
theorem RdB.at_of {s : ByteArray} {a rb : Nat} {w : World} (h : RdB s a rb w) : atOf w rb = a := by
  unfold atOf
  rw [h.cells.1.2]
  simp
/-- What item hands back. -/
def ItGot (w : World) (rb : Nat) (s : ByteArray) (e : Nat) (y : Its.One) (r : List UInt8) (o : Ending) (w' : World) : Prop :=
  ∃ A c a3, o = .returned (.agg #[.int .i64 y.1, .string y.2.1, .string y.2.2.1, .slice A y.2.2.2.len c]) ∧ r = seg s a3 e ∧ a3 ≤ e ∧ y.2.2.2.len ≤ c ∧ SlK w' (fun g => w.heap.size ≤ g ∧ g < w'.heap.size) A y.2.2.2 ∧ RdB s a3 rb w' ∧ w.grownBy w' (some rb)
theorem enc_item (N : Nat) : ∀ (s : ByteArray) (a e lists rb : Nat) (y : Its.One) (r : List UInt8) (w : World), e - a ≤ N → e ≤ s.size → s.size ≤ 65536 → lists ≤ 32 → rdO lists (seg s a e) = .ok (y, r) → RdB s a rb w →
    Calls Tryz.prog 92 #[.pointer (some ⟨rb, 0, none⟩), .int .i64 (e : Int), .int .i64 (lists : Int)] w (ItGot w rb s e y r) := by
  induction N with
  | zero =>
    intro s a e lists rb y r w hN he hs hli hrd hb
    exfalso
    obtain ⟨ha, _⟩ := rdO_inv he hrd
    omega
  | succ N ih =>
    intro s a e lists rb y r w hN he hs hli hrd hb
    obtain ⟨ha, n, a2, hk2, hnd, hsz, h12, h2e, hn, rfl, hcase⟩ := rdO_inv he hrd
    obtain ⟨k, hk⟩ : ∃ k, (s[a]'(by omega)).toNat = k := ⟨_, rfl⟩
    rw [hk] at hk2 hnd hcase
    have HK := Lib.hid hk
    have HB := Lib.hid hb
    have HP := Lib.hid (And.intro he (And.intro hs (And.intro ha (And.intro h12 (And.intro h2e hn)))))
    have HSZ := Lib.hid hsz
    have HCASE := Lib.hid hcase
    have HIH := Lib.hid ih
    have hlt := hb.lt
    obtain ⟨⟨c0, c1⟩, f1⟩ := hb.cells
    have d1 : decide ((e : Int) ≤ (a : Int)) = false := decide_eq_false (by omega)
    have d2 : decide (e ≤ a) = false := decide_eq_false (by omega)
    have i1 : (a : Int) < (s.size : Int) := by omega
    have i2 : decide (a < s.size) = true := decide_eq_true (by omega)
    have HLT := Lib.hid hlt
    clear hk hb hrd hcase hsz ih
    go_enter Tryz.func92, Tryz.ntmps92
    go_upto_region 1 with fail
    go_quiet ((fail))
    have HB1 : Hid (RdB s a rb ((w.alloc (.cells #[.int .i64 0, .string ⟨#[]⟩, .string ⟨#[]⟩, .slice none 0 0] 63)).drewN nq)) := Lib.hid (HB.out.keep (w' := (w.alloc (.cells #[.int .i64 0, .string ⟨#[]⟩, .string ⟨#[]⟩, .slice none 0 0] 63)).drewN nq) (below_drewN ((Below.refl _ _).alloc (Nat.le_refl _) _) _) HLT.out)
    have HR1 : Hid (((w.alloc (.cells #[.int .i64 0, .string ⟨#[]⟩, .string ⟨#[]⟩, .slice none 0 0] 63)).drewN nq).heap[w.heap.size]? = some (.cells #[.int .i64 0, .string ⟨#[]⟩, .string ⟨#[]⟩, .slice none 0 0] 63 (0, 0))) := Lib.hid (heap_alloc_new w _)
    have HG1 : Hid (w.grownBy ((w.alloc (.cells #[.int .i64 0, .string ⟨#[]⟩, .string ⟨#[]⟩, .slice none 0 0] 63)).drewN nq) (some rb)) := Lib.hid (gb_below (below_drewN ((Below.refl _ _).alloc (Nat.le_refl _) _) _))
    have hz1 : ((w.alloc (.cells #[.int .i64 0, .string ⟨#[]⟩, .string ⟨#[]⟩, .slice none 0 0] 63)).drewN nq).heap.size = w.heap.size + 1 := by show (w.alloc (.cells #[.int .i64 0, .string ⟨#[]⟩, .string ⟨#[]⟩, .slice none 0 0] 63)).heap.size = _; simp
    have HZ1 := Lib.hid hz1
    clear hz1 c0 c1 f1
    obtain ⟨w1, hw1⟩ : ∃ w1, (w.alloc (.cells #[.int .i64 0, .string ⟨#[]⟩, .string ⟨#[]⟩, .slice none 0 0] 63)).drewN nq = w1 := ⟨_, rfl⟩
    rw [hw1] at HB1 HR1 HG1 HZ1 ⊢
    rw [HK.out]
    clear hw1
    obtain ⟨⟨c0, c1⟩, f1⟩ := HB1.out.cells
    have HWK : Hid (IntKind.i64.wrap (k : Int) = (k : Int)) := Lib.hid (by simp only [IntKind.wrap, IntKind.bits, IntKind.signed]; simp; omega)
    have d3 : decide ((2 : Int) < (k : Int)) = false := decide_eq_false (by omega)
    have d4 : decide (2 < k) = false := decide_eq_false (by omega)
    have q0 : ∀ o : Obj, (w1.alloc o).cell? ⟨rb, 0, none⟩ = some (.string s) := fun o => ((((Below.refl w1.heap.size w1).alloc (Nat.le_refl _) o).cell (p := ⟨rb, 0, none⟩) HB1.out.lt).trans c0)
    have q1 : ∀ o : Obj, (w1.alloc o).cell? ⟨rb, 1, none⟩ = some (.int .i64 (a : Int)) := fun o => ((((Below.refl w1.heap.size w1).alloc (Nat.le_refl _) o).cell (p := ⟨rb, 1, none⟩) HB1.out.lt).trans c1)
    go_upto_region 3 with fail
    go_cut [7] (fun v wx => v = .pointer (some ⟨w.heap.size + 1, 0, none⟩) ∧ ItB w rb s a (k : Int) ⟨#[]⟩ ⟨#[]⟩ none 0 0 wx)
    case first =>
      go_region_with (fail)
      all_goals
        go_wp2_with fail
        go_meet
        exact ⟨by rw [HZ1.out], ItB.start HB1.out HR1.out HG1.out HZ1.out HLT.out _ (by rw [HK.out]; exact HWK.out)⟩
    case rest =>
      obtain ⟨rfl, hcut⟩ := hcut
      have HC := Lib.hid hcut
      clear hcut c0 c1 f1 q0 q1 HB1 HR1 HG1 HZ1
      obtain ⟨⟨⟨c0, c1⟩, f1⟩, ⟨t0, t1, t2, t3⟩, g0, g1, g2, g3⟩ := HC.out.cells
      have e1 : (k : Int) = 2 → lists ≠ 32 := fun e1 e2 => hnd ⟨by omega, e2⟩
      have HSIZE := Lib.hid (fun W (hr : RdB s (a + 1) rb W) => enc_size s (a + 1) e n a2 rb W HP.out.1 HP.out.2.1 HSZ.out HP.out.2.2.2.2.1 HP.out.2.2.2.2.2 hr)
      rcases HCASE.out with ⟨rfl, hv, rfl⟩ | ⟨rfl, rfl⟩ | ⟨rfl, l, hl, rfl⟩
      · rw [show ((0 : Nat) : Int) = 0 from rfl] at HC t0
        clear hnd hk2 d3 d4 e1
        go_upto_region 8 with (go_at_call 123; (with_reducible refine (HSIZE.out _ (HC.out.go _ (a + 1) (by simp)).rd).mono ?_); rintro o w5 ⟨rfl, hr5, hg5⟩; have HC5 := Lib.hid ((HC.out.go ((a : Int) + 1) (a + 1) (by simp)).read hr5 hg5); clear hr5 hg5)
        clear c0 c1 f1 t0 t1 t2 t3 g0 g1 g2 g3
        obtain ⟨⟨⟨c0, c1⟩, f1⟩, ⟨t0, t1, t2, t3⟩, g0, g1, g2, g3⟩ := HC5.out.cells
        obtain ⟨x, hx⟩ : ∃ x : ByteArray, ⟨(seg s a2 (a2 + n)).toArray⟩ = x := ⟨_, rfl⟩
        have HV := Lib.hid (fun W => natural_Valid x W)
        rw [← hx, hv, hx] at HV
        obtain ⟨m, hm⟩ : ∃ m, a2 + n = m := ⟨_, rfl⟩
        have hme : a2 ≤ m ∧ m ≤ s.size := by have := HP.out; omega
        have hmi : (a2 : Int) + (n : Int) = (m : Int) := by omega
        have hext : s.extract a2 m = x := by rw [← hx, seg_extract (by omega) (by omega), hm]
        have HX := Lib.hid hx
        have HM := Lib.hid hm
        have m1 : (a2 : Int) ≤ (m : Int) := by omega
        have m2 : (m : Int) ≤ (s.size : Int) := by omega
        have m3 := hme.1
        have m4 := hme.2
        clear hx hm hme hv
        go_upto_region 13 with fail
        go_cut [9] (fun v wx => v = .int .i64 (m : Int) ∧ ItB w rb s a2 0 x ⟨#[]⟩ none 0 0 wx)
        case first =>
          go_region_with (fail)
          all_goals
            go_wp2_with fail
            go_meet
            exact ⟨rfl, (HC5.out.put1 x).drew⟩
        case rest =>
          obtain ⟨rfl, hcut⟩ := hcut
          have HC6 := Lib.hid hcut
          rename World => w6
          clear hcut c0 c1 f1 t0 t1 t2 t3 g0 g1 g2 g3
          obtain ⟨⟨⟨c0, c1⟩, f1⟩, ⟨t0, t1, t2, t3⟩, g0, g1, g2, g3⟩ := HC6.out.cells
          go_upto_region 19 with (go_at_call 90; (with_reducible refine (HV.out _).mono ?_); rintro o w7 ⟨rfl, rfl⟩)
          have HC7 := Lib.hid (HC6.out.go (m : Int) m rfl)
          clear c0 c1 f1 t0 t1 t2 t3 g0 g1 g2 g3
          obtain ⟨w8, hw8⟩ : ∃ w8, w6.setCell ⟨rb, 1, none⟩ (.int .i64 (m : Int)) = w8 := ⟨_, rfl⟩
          rw [hw8] at HC7 ⊢
          clear hw8
          obtain ⟨⟨⟨c0, c1⟩, f1⟩, ⟨t0, t1, t2, t3⟩, g0, g1, g2, g3⟩ := HC7.out.cells
          obtain ⟨⟨r0, r1, r2, r3⟩, h0, h1, h2, h3⟩ := HC7.out.rc
          go_wp2_with fail
          have HF := HC7.out.fin (.int .i64 0) (.string x) (.string ⟨#[]⟩) (.slice none 0 0)
          refine bodyPost_ret (v := .agg #[.int .i64 0, .string x, .string ⟨#[]⟩, .slice none 0 0]) (by simp [results, Tryz.results92, go_sem, r0, r1, r2, r3]) rfl ?_
          refine ⟨none, 0, m, ?_, by rw [HM.out], by have := HM.out; have := HP.out; omega, Nat.le_refl _, SlK.nil_, HF.1, HF.2⟩
          rw [← HX.out]
          rfl
      · rw [show ((1 : Nat) : Int) = 1 from rfl] at HC t0
        clear hnd hk2 d3 d4 e1
        go_upto_region 8 with (go_at_call 123; (with_reducible refine (HSIZE.out _ (HC.out.go _ (a + 1) (by simp)).rd).mono ?_); rintro o w5 ⟨rfl, hr5, hg5⟩; have HC5 := Lib.hid ((HC.out.go ((a : Int) + 1) (a + 1) (by simp)).read hr5 hg5); clear hr5 hg5)
        clear c0 c1 f1 t0 t1 t2 t3 g0 g1 g2 g3
        obtain ⟨⟨⟨c0, c1⟩, f1⟩, ⟨t0, t1, t2, t3⟩, g0, g1, g2, g3⟩ := HC5.out.cells
        obtain ⟨x, hx⟩ : ∃ x : ByteArray, ⟨(seg s a2 (a2 + n)).toArray⟩ = x := ⟨_, rfl⟩
        obtain ⟨m, hm⟩ : ∃ m, a2 + n = m := ⟨_, rfl⟩
        have hme : a2 ≤ m ∧ m ≤ s.size := by have := HP.out; omega
        have hmi : (a2 : Int) + (n : Int) = (m : Int) := by omega
        have hext : s.extract a2 m = x := by rw [← hx, seg_extract (by omega) (by omega), hm]
        have HX := Lib.hid hx
        have HM := Lib.hid hm
        have m1 : (a2 : Int) ≤ (m : Int) := by omega
        have m2 : (m : Int) ≤ (s.size : Int) := by omega
        have m3 := hme.1
        have m4 := hme.2
        clear hx hm hme
        go_upto_region 17 with fail
        go_region_with (fail)
        all_goals
          have HC6 := Lib.hid (HC5.out.put2 x).drew
          obtain ⟨w6, hw6⟩ : ∃ w6, (w5.setCell ⟨w.heap.size + 1, 2, none⟩ (.string x)).drew = w6 := ⟨_, rfl⟩
          rw [hw6] at HC6 ⊢
          clear hw6 c0 c1 f1 t0 t1 t2 t3 g0 g1 g2 g3
          obtain ⟨⟨⟨c0, c1⟩, f1⟩, ⟨t0, t1, t2, t3⟩, g0, g1, g2, g3⟩ := HC6.out.cells
          go_upto_region 19 with fail
          have HC7 := Lib.hid (HC6.out.go (m : Int) m rfl)
          clear c0 c1 f1 t0 t1 t2 t3 g0 g1 g2 g3
          obtain ⟨w8, hw8⟩ : ∃ w8, w6.setCell ⟨rb, 1, none⟩ (.int .i64 (m : Int)) = w8 := ⟨_, rfl⟩
          rw [hw8] at HC7 ⊢
          clear hw8
          obtain ⟨⟨⟨c0, c1⟩, f1⟩, ⟨t0, t1, t2, t3⟩, g0, g1, g2, g3⟩ := HC7.out.cells
          obtain ⟨⟨r0, r1, r2, r3⟩, h0, h1, h2, h3⟩ := HC7.out.rc
          go_wp2_with fail
          have HF := HC7.out.fin (.int .i64 1) (.string ⟨#[]⟩) (.string x) (.slice none 0 0)
          refine bodyPost_ret (v := .agg #[.int .i64 1, .string ⟨#[]⟩, .string x, .slice none 0 0]) (by simp [results, Tryz.results92, go_sem, r0, r1, r2, r3]) rfl ?_
          refine ⟨none, 0, m, ?_, by rw [HM.out], by have := HM.out; have := HP.out; omega, Nat.le_refl _, SlK.nil_, HF.1, HF.2⟩
          rw [← HX.out]
          rfl
      · rw [show ((2 : Nat) : Int) = 2 from rfl] at HC t0
        have hl32 : lists ≠ 32 := e1 rfl
        have d7 : ((lists : Int) == 32) = false := by simp; omega
        have hli2 : lists + 1 ≤ 32 := by omega
        clear hnd hk2 d3 d4 e1 hl32
        have HL := Lib.hid hl
        clear hl
        go_upto_region 8 with (go_at_call 123; (with_reducible refine (HSIZE.out _ (HC.out.go _ (a + 1) (by simp)).rd).mono ?_); rintro o w5 ⟨rfl, hr5, hg5⟩; have HC5 := Lib.hid ((HC.out.go ((a : Int) + 1) (a + 1) (by simp)).read hr5 hg5); clear hr5 hg5)
        clear c0 c1 f1 t0 t1 t2 t3 g0 g1 g2 g3
        obtain ⟨⟨⟨c0, c1⟩, f1⟩, ⟨t0, t1, t2, t3⟩, g0, g1, g2, g3⟩ := HC5.out.cells
        obtain ⟨m, hm⟩ : ∃ m, a2 + n = m := ⟨_, rfl⟩
        have hmi : (a2 : Int) + (n : Int) = (m : Int) := by omega
        have HM := Lib.hid (And.intro hm (show a2 ≤ m ∧ m ≤ e ∧ m ≤ s.size ∧ m ≤ 65536 by have := HP.out; omega))
        rw [hm] at HL
        clear hm
        have HLP0 : Hid (LpB w rb s a2 none 0 0 .nil w5) := Lib.hid ⟨HC5.out, OwnK.nil_ _ _⟩
        go_upto_region 10 with fail
        go_loopw [71] (fun _ wr => ∃ (c : Nat) (A2 : Option Addr) (n2 c2 : Nat) (d lr : Its), a2 ≤ c ∧ c ≤ m ∧ rdA (lists + 1) (seg s c m) = .ok lr ∧ d.app lr = l ∧ d.len ≤ c ∧ LpB w rb s c A2 n2 c2 d wr) (fun _ wr => m - atOf wr rb)
        case atStart => exact ⟨a2, none, 0, 0, .nil, l, Nat.le_refl _, HM.out.2.1, HL.out, rfl, Nat.zero_le _, HLP0.out⟩
        case round =>
          obtain ⟨c, A2, n2, c2, d, lr, hac, hcm, hrd, hdl, hdc, hlp⟩ := hrel
          have HDC := Lib.hid hdc
          have HLP := Lib.hid hlp
          have HRD := Lib.hid hrd
          have HDL := Lib.hid hdl
          clear hrd hdl hdc hlp HLP0 c0 c1 f1 t0 t1 t2 t3 g0 g1 g2 g3 HC5
          obtain ⟨⟨⟨c0, c1⟩, f1⟩, ⟨t0, t1, t2, t3⟩, g0, g1, g2, g3⟩ := HLP.out.it.cells
          by_cases hlt : c < m
          · have hrd1 := HRD.out
            rw [rdA_cons _ (by rw [seg_cons hlt HM.out.2.2.2.1]; simp)] at hrd1
            obtain ⟨y5, r5, hro, lr5, hra, hlr⟩ : ∃ y5 r5, rdO (lists + 1) (seg s c m) = .ok (y5, r5) ∧ ∃ lr5, rdA (lists + 1) r5 = .ok lr5 ∧ lr = .cons y5.1 y5.2.1 y5.2.2.1 y5.2.2.2 lr5 := by
              cases h5 : rdO (lists + 1) (seg s c m) with
              | err e' => rw [h5] at hrd1; cases hrd1
              | ok yr =>
                obtain ⟨y5, r5⟩ := yr
                rw [h5] at hrd1
                dsimp only at hrd1
                cases h6 : rdA (lists + 1) r5 with
                | err e' => rw [h6] at hrd1; cases hrd1
                | ok l5 =>
                  rw [h6] at hrd1
                  injection hrd1 with h7
                  exact ⟨y5, r5, rfl, l5, h6, h7.symm⟩
            have HIC := Lib.hid (fun W (hr : RdB s c rb W) => HIH.out s c m (lists + 1) rb y5 r5 W (by have := HM.out; omega) HM.out.2.2.2.1 HP.out.2.1 hli2 hro hr)
            rw [show ((lists + 1 : Nat) : Int) = IntKind.i64.wrap ((lists : Int) + 1) by (simp only [IntKind.wrap, IntKind.bits, IntKind.signed]; simp; omega)] at HIC
            have hlen5 : r5.length < m - c := by have := rd1_len hro; rwa [seg_len HM.out.2.2.2.1] at this
            have HRA := Lib.hid (And.intro hra (And.intro hlr hlen5))
            clear hlen5
            clear hrd1 hro hra hlr
            have HLT := Lib.hid hlt
            have HDS : Hid (d.len ≤ 100000) := Lib.hid (by have := HDC.out; have := HM.out; omega)
            have l1 : (c : Int) < (m : Int) := by omega
            obtain ⟨yk, yn, yt, yl⟩ := y5
            go_upto_region 11 with fail
            go_region_law (first
              | (go_simp; go_at_call 92; (first | (with_reducible refine (HIC.out _ HLP.out.it.rd).mono ?_) | (with_reducible refine (HIC.out _ HLP.out.drew.it.rd).mono ?_)); rintro o w5 ⟨A5, c5, a5, rfl, hr5, ha5, hc5, hsl5, hrb5, hg5⟩; dsimp only at hsl5 hc5; have HC5 := Lib.hid hc5; clear hc5; have hlp5 : LpB w rb s a5 A2 n2 c2 d w5 := (by first | exact HLP.out.read hrb5 hg5 | exact HLP.out.drew.read hrb5 hg5); have HAP := Lib.hid (HLP.out.fresh (Nat.le_refl _) hsl5 (.cells #[.int .i64 yk, .string yn, .string yt, .slice A5 yl.len c5] 63)); have HBK := Lib.hid (heap_alloc_new w5 (.cells #[.int .i64 yk, .string yn, .string yt, .slice A5 yl.len c5] 63)); have HLQ := Lib.hid (hlp5.alloc (.cells #[.int .i64 yk, .string yn, .string yt, .slice A5 yl.len c5] 63)); obtain ⟨-, ⟨z0, z1, z2, z3⟩, -⟩ := hlp5.it.cells; obtain ⟨-, ⟨zz0, zz1, zz2, zz3⟩, -⟩ := HLQ.out.it.cells; have H5 := Lib.hid (And.intro hr5 ha5); clear hsl5 hlp5 hr5 ha5 hrb5 hg5)
              | (refine step_append_K rfl (.tmp 73) (.tmp 79) rfl (w.heap.size + 2) (.slice A2 n2 c2) d (by simp [Act.eval]) HLQ.out.own (yk, yn, yt, yl) A5 c5 w5.heap.size 1 (by simp [Act.eval]) HBK.out HC5.out HAP.out HDS.out HLQ.out.it.size ?_; intro v6 w6 hown6 hg6; obtain ⟨A6, c6, rfl, _, _⟩ := hown6.form; have HPUT := Lib.hid (HLQ.out.put hown6 hg6); obtain ⟨-, ⟨q0, q1, q2, q3⟩, j0, j1, j2, j3⟩ := HPUT.out.1.cells; clear hown6 hg6))
            all_goals
              have ha7 : c < a5 := by
                have h1 := HRA.out.2.2
                rw [H5.out.1, seg_len HM.out.2.2.2.1] at h1
                omega
              have HA7 := Lib.hid ha7
              clear ha7
              go_roundw
              case rel =>
                refine ⟨_, _, _, _, _, _, _, _, _, _, _, _, _, _, _, _, ⟨a5, A6, _, c6, _, lr5, by { have := HA7.out; omega }, H5.out.2, by { have := HRA.out.1; rwa [H5.out.1] at this }, ?_, ?_, by { first | exact HPUT.out.2 | exact HPUT.out.2.drew }⟩, rfl⟩
                · rw [Its.app_assoc, ← HDL.out, HRA.out.2.1]
                  rfl
                · rw [Its.len_app]
                  have := HA7.out
                  have := HDC.out
                  simp only [Its.one, Its.len]
                  omega
              case measure =>
                have h1 := HPUT.out.2.it.rd.at_of
                have h2 := HLP.out.it.rd.at_of
                have h3 := H5.out.2
                have h4 := HA7.out
                first
                | (rw [h1, h2]; omega)
                | (show m - atOf ((w6.setCell _ _)) rb < m - atOf wr rb; rw [h1, h2]; omega)
          · obtain rfl : m = c := by omega
            have hlr : lr = .nil := by
              have h1 := HRD.out
              rw [seg_nil (Nat.le_refl _), rdA_nil] at h1
              injection h1 with h1
              exact h1.symm
            have HDE : Hid (d = l) := Lib.hid (by rw [← HDL.out, hlr, Its.app_nil])
            clear hlr
            go_upto_region 19 with fail
            have HC7 := Lib.hid (HLP.out.it.go (m : Int) m rfl)
            have HO7 : Hid (OwnK (wr.setCell ⟨rb, 1, none⟩ (.int .i64 (m : Int))) (w.heap.size + 2) (.slice A2 n2 c2) d) := Lib.hid (HLP.out.own.keptG gb_set (by have := HLP.out.it.lt; omega))
            clear c0 c1 f1 t0 t1 t2 t3 g0 g1 g2 g3
            obtain ⟨w8, hw8⟩ : ∃ w8, wr.setCell ⟨rb, 1, none⟩ (.int .i64 (m : Int)) = w8 := ⟨_, rfl⟩
            rw [hw8] at HC7 HO7 ⊢
            clear hw8
            obtain ⟨⟨⟨c0, c1⟩, f1⟩, ⟨t0, t1, t2, t3⟩, g0, g1, g2, g3⟩ := HC7.out.cells
            obtain ⟨⟨r0, r1, r2, r3⟩, h0, h1, h2, h3⟩ := HC7.out.rc
            go_wp2_with fail
            have HF := HC7.out.fin (.int .i64 2) (.string ⟨#[]⟩) (.string ⟨#[]⟩) (.slice A2 n2 c2)
            refine bodyPost_ret (v := .agg #[.int .i64 2, .string ⟨#[]⟩, .string ⟨#[]⟩, .slice A2 n2 c2]) (by simp [results, Tryz.results92, go_sem, r0, r1, r2, r3]) rfl ?_
            obtain ⟨A9, c9, e9, hc9, hs9⟩ := HO7.out.form
            injection e9 with e1 e2 e3
            subst e1 e3
            rw [HDE.out] at hs9 e2 hc9
            have hE : E0 = ⟨#[]⟩ := by decide
            refine ⟨A2, c2, m, by rw [e2, hE], by rw [HM.out.1], HM.out.2.2.1, hc9, (hs9.keep fun p hp => ?_).mono fun g hg => ⟨by have := hg.1; omega, by simpa using hg.2⟩, HF.1, HF.2⟩
            have h1 := hp.1
            have hcell : ∀ (W : World) (i : Nat) (u : Value), (W.setCell ⟨w.heap.size, i, none⟩ u).cell? p = W.cell? p := fun W i u => World.cell?_setCell_other _ _ _ _ (fun e => by have := congrArg Addr.block e; simp at this; omega)
            rw [hcell, hcell, hcell, hcell]
end Go.Proofs.YtjhlddlocpkhkaaGreat
