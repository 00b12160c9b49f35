/- Wallet: wallets with one count at most; what the law's walks hold. -/
import Derived.Test.YtlheedcnmfekoaaYh1
import Derived.Test.YtlheedcnmfekoaaXl
namespace Go.Proofs.Ytlheedcnmfekoaa
open Go.RowKit
set_option maxRecDepth 100000
set_option linter.unusedVariables false
set_option maxHeartbeats 8000000

theorem isU_same (sc : ByteArray) (z c : Int) : isU sc z (sc, z, c) = true := by unfold isU; simp
theorem isU_off (sc sc' : ByteArray) (z z' c : Int) (h : z' ≠ z) : isU sc z (sc', z', c) = false := by unfold isU; simp [h]
theorem isU_else (sc sc' : ByteArray) (z z' c : Int) (h : sc' ≠ sc) : isU sc z (sc', z', c) = false := by
  unfold isU
  cases h1 : (sc'.toList == sc.toList)
  · rfl
  · exact absurd (tl_inj (by simpa using h1)) h
theorem cnt_nil (f : Uz → Bool) : cntU f [] = 0 := rfl
theorem cnt_one (sc : ByteArray) (z c : Int) : cntU (isU sc z) [(sc, z, c)] = c := by unfold cntU; simp [List.find?, isU_same]
theorem cnt_not {f : Uz → Bool} {u : Uz} (h : f u = false) : cntU f [u] = 0 := by unfold cntU; simp [List.find?, h]
theorem put_nil (u : Uz) : putU u [] = [u] := rfl
theorem put_one (sc : ByteArray) (z c c' : Int) : putU (sc, z, c') [(sc, z, c)] = [(sc, z, c')] := by unfold putU; simp [isU_same]
theorem val_nil {sec : ByteArray} (h : valid sec = true) : validW sec [] [] [] = true := by
  unfold validW
  simp [validA, validU, h]
theorem val_one {sec : ByteArray} {sc : ByteArray} {z c : Int} (h : valid sec = true) (hc : 1 ≤ c) : validW sec [] [] [(sc, z, c)] = true := by
  unfold validW
  have : ¬ c < 1 := by omega
  simp [validA, validU, h, this]
theorem ok_nil : WalOk [] [] [] := ⟨by decide, by decide, by decide, by simp, by simp, by simp⟩
theorem ok_one {sc : ByteArray} {z c : Int} (h : sc.size ≤ 100000) (hz : (Lit.int .i64 z).wf = true) : WalOk [] [] [(sc, z, c)] := ⟨by decide, by decide, show 1 < 4096 by decide, by simp, by simp, by simp [h, hz]⟩

/-- A wallet's box, and the wallet. -/
structure AwB (w : World) (sec : ByteArray) (A1 : Option Addr) (n1 c1 : Nat) (A2 : Option Addr) (n2 c2 : Nat) (A3 : Option Addr) (n3 c3 : Nat) (us : List Uz) (b1 : Nat) (wx : World) : Prop where
  box : wx.heap[b1]? = some (.cells #[.string sec, .slice A1 n1 c1, .slice A2 n2 c2, .slice A3 n3 c3] 28 (0, 0))
  mem : WalM wx (fun g => w.heap.size ≤ g ∧ g < wx.heap.size ∧ g ≠ b1) [] [] us A1 A2 A3
  l1 : n1 = 0
  l2 : n2 = 0
  l3 : n3 = us.length
  bel : Below w.heap.size w wx
  lo : w.heap.size ≤ b1
  lt : b1 < wx.heap.size
section
variable {w wx w' : World} {sec : ByteArray} {A1 A2 A3 : Option Addr} {n1 n2 n3 c1 c2 c3 : Nat} {us : List Uz} {b1 : Nat}
theorem AwB.next (h : AwB w sec A1 n1 c1 A2 n2 c2 A3 n3 c3 us b1 wx) (hb : Below wx.heap.size wx w') : AwB w sec A1 n1 c1 A2 n2 c2 A3 n3 c3 us b1 w' :=
  ⟨(hb.block _ h.lt).trans h.box, (h.mem.keep (fun p hp => hb.cell hp.2.1)).mono (fun g hg => ⟨hg.1, Nat.lt_of_lt_of_le hg.2.1 hb.size, hg.2.2⟩), h.l1, h.l2, h.l3, below2 h.bel hb, h.lo, Nat.lt_of_lt_of_le h.lt hb.size⟩
theorem AwB.alloc (h : AwB w sec A1 n1 c1 A2 n2 c2 A3 n3 c3 us b1 wx) (o : Obj) : AwB w sec A1 n1 c1 A2 n2 c2 A3 n3 c3 us b1 (wx.alloc o) := h.next ((Below.refl _ _).alloc (Nat.le_refl _) _)
theorem AwB.bc (h : AwB w sec A1 n1 c1 A2 n2 c2 A3 n3 c3 us b1 wx) : (wx.cell? ⟨b1, 0, none⟩ = some (.string sec) ∧ wx.cell? ⟨b1, 1, none⟩ = some (.slice A1 n1 c1) ∧ wx.cell? ⟨b1, 2, none⟩ = some (.slice A2 n2 c2) ∧ wx.cell? ⟨b1, 3, none⟩ = some (.slice A3 n3 c3)) ∧ (wx.frozen? ⟨b1, 0, none⟩ = false ∧ wx.frozen? ⟨b1, 1, none⟩ = false ∧ wx.frozen? ⟨b1, 2, none⟩ = false ∧ wx.frozen? ⟨b1, 3, none⟩ = false) :=
  ⟨⟨cell_of_row wx _ 0 _ _ _ h.box, cell_of_row wx _ 1 _ _ _ h.box, cell_of_row wx _ 2 _ _ _ h.box, cell_of_row wx _ 3 _ _ _ h.box⟩, frozen_of_row wx _ 0 _ _ h.box, frozen_of_row wx _ 1 _ _ h.box, frozen_of_row wx _ 2 _ _ h.box, frozen_of_row wx _ 3 _ _ h.box⟩
theorem AwB.start {W : World} (hb : Below w.heap.size w W) (l1 : n1 = 0) (l2 : n2 = 0) (l3 : n3 = us.length) (hm : WalM W (fun g => w.heap.size ≤ g ∧ g < W.heap.size) [] [] us A1 A2 A3) :
    AwB w sec A1 n1 c1 A2 n2 c2 A3 n3 c3 us W.heap.size (W.alloc (.cells #[.string sec, .slice A1 n1 c1, .slice A2 n2 c2, .slice A3 n3 c3] 28)) :=
  have hal : Below W.heap.size W (W.alloc (.cells #[.string sec, .slice A1 n1 c1, .slice A2 n2 c2, .slice A3 n3 c3] 28)) := (Below.refl _ _).alloc (Nat.le_refl _) _
  ⟨heap_alloc_new W _, (hm.keep (fun p hp => hal.cell hp.2)).mono (fun g hg => ⟨hg.1, by simp; have := hg.2; omega, by have := hg.2; omega⟩), l1, l2, l3, below2 hb hal, hb.size, by simp⟩
/-- The box is written with another wallet. -/
theorem AwB.put {B1 B2 B3 : Option Addr} {m1 m2 m3 d1 d2 d3 : Nat} {us' : List Uz} (h : AwB w sec A1 n1 c1 A2 n2 c2 A3 n3 c3 us b1 wx) {S : Nat → Prop} (hm : WalM wx S [] [] us' B1 B2 B3) (hS : ∀ g, S g → w.heap.size ≤ g ∧ g < wx.heap.size ∧ g ≠ b1) (l1 : m1 = 0) (l2 : m2 = 0) (l3 : m3 = us'.length) :
    AwB w sec B1 m1 d1 B2 m2 d2 B3 m3 d3 us' b1 ((((wx.setCell ⟨b1, 0, none⟩ (.string sec)).setCell ⟨b1, 1, none⟩ (.slice B1 m1 d1)).setCell ⟨b1, 2, none⟩ (.slice B2 m2 d2)).setCell ⟨b1, 3, none⟩ (.slice B3 m3 d3)) := by
  have hlo := h.lo
  have o : ∀ g, g ≠ b1 → ((((wx.setCell ⟨b1, 0, none⟩ (.string sec)).setCell ⟨b1, 1, none⟩ (.slice B1 m1 d1)).setCell ⟨b1, 2, none⟩ (.slice B2 m2 d2)).setCell ⟨b1, 3, none⟩ (.slice B3 m3 d3)).heap[g]? = wx.heap[g]? := fun g hg => by
    rw [heap_setCell_other _ _ _ _ hg, heap_setCell_other _ _ _ _ hg, heap_setCell_other _ _ _ _ hg, heap_setCell_other _ _ _ _ hg]
  have e0 := heap_setCell_same wx b1 0 _ _ (.string sec) h.box
  have e1 := heap_setCell_same _ b1 1 _ _ (.slice B1 m1 d1) e0
  have e2 := heap_setCell_same _ b1 2 _ _ (.slice B2 m2 d2) e1
  have e3 := heap_setCell_same _ b1 3 _ _ (.slice B3 m3 d3) e2
  refine ⟨e3, (hm.keep (fun p hp => World.cell?_of_block (o _ (hS _ hp).2.2))).mono (fun g hg => ?_), l1, l2, l3, (((h.bel.setCell (p := ⟨b1, 0, none⟩) hlo _).setCell (p := ⟨b1, 1, none⟩) hlo _).setCell (p := ⟨b1, 2, none⟩) hlo _).setCell (p := ⟨b1, 3, none⟩) hlo _, h.lo, by simpa using h.lt⟩
  have := hS g hg
  exact ⟨this.1, by simpa using this.2.1, this.2.2⟩
end
/-- What Use hands back. -/
def UsGot (W : World) (sec : ByteArray) (n : Int) (us : List Uz) (o : Ending) (w' : World) : Prop :=
  ∃ A1 n1 c1 A2 n2 c2 A3 n3 c3 s, o = .returned (.tuple #[.agg #[.string sec, .slice A1 n1 c1, .slice A2 n2 c2, .slice A3 n3 c3], .int .i64 n, .string s, .int .i64 0]) ∧ n1 = 0 ∧ n2 = 0 ∧ n3 = us.length ∧ WalM w' (fun g => W.heap.size ≤ g ∧ g < w'.heap.size) [] [] us A1 A2 A3 ∧ Below W.heap.size W w'
theorem AwB.use {w wx : World} {sec : ByteArray} {A1 A2 A3 : Option Addr} {n1 n2 n3 c1 c2 c3 : Nat} {us : List Uz} {b1 : Nat} (h : AwB w sec A1 n1 c1 A2 n2 c2 A3 n3 c3 us b1 wx) (sc : ByteArray) (z lim n : Int) (us' : List Uz) (ho : WalOk [] [] us) (hv : validW sec [] [] us = true) (hcn : cntU (isU sc z) us = n) (hp : putU (sc, z, n + 1) us = us') (h0 : 0 ≤ n) (hl : n < lim) (hl2 : lim ≤ 9223372036854775807) (hz : -9223372036854775808 ≤ z ∧ z ≤ 9223372036854775807) (hsc : sc.size ≤ 50000) :
    Calls Try.prog 7 #[.agg #[.string sec, .slice A1 n1 c1, .slice A2 n2 c2, .slice A3 n3 c3], .string sc, .int .i64 z, .int .i64 lim] wx (UsGot wx sec n us') := by
  subst hcn hp
  refine (wal_Use_ok sec [] [] us A1 A2 A3 n1 c1 n2 c2 n3 c3 sc z lim _ wx h.l1.symm h.l2.symm h.l3.symm ho hv h0 hl hl2 hz hsc h.mem (fun g hg => hg.2.1)).mono ?_
  rintro e w' ⟨B1, d1, B2, d2, B3, m3, d3, rfl, hm3, hm, hb⟩
  exact ⟨B1, n1, d1, B2, n2, d2, B3, m3, d3, _, rfl, h.l1, h.l2, hm3, hm, hb⟩
theorem AwB.lim {w wx : World} {sec : ByteArray} {A1 A2 A3 : Option Addr} {n1 n2 n3 c1 c2 c3 : Nat} {us : List Uz} {b1 : Nat} (h : AwB w sec A1 n1 c1 A2 n2 c2 A3 n3 c3 us b1 wx) (sc : ByteArray) (z lim : Int) (ho : WalOk [] [] us) (hv : validW sec [] [] us = true) (hl : lim ≤ cntU (isU sc z) us) :
    Calls Try.prog 7 #[.agg #[.string sec, .slice A1 n1 c1, .slice A2 n2 c2, .slice A3 n3 c3], .string sc, .int .i64 z, .int .i64 lim] wx fun e w' => e = .returned (.tuple #[.agg #[.string ⟨#[]⟩, .slice none 0 0, .slice none 0 0, .slice none 0 0], .int .i64 0, .string ⟨#[]⟩, .int .i64 24]) ∧ Below wx.heap.size wx w' :=
  wal_Use_lim sec [] [] us A1 A2 A3 n1 c1 n2 c2 n3 c3 sc z lim _ wx h.l1.symm h.l2.symm h.l3.symm ho hv hl h.mem (fun g hg => hg.2.1)

end Go.Proofs.Ytlheedcnmfekoaa
