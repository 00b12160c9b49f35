/- Wallet: the reader's next, text, nat, end where the items are as they should be. -/
import Derived.Test.YtlheedcnmfekoaaYa
import Derived.Test.YtlheedcnmfekoaaYk
import Derived.Deep.DeepCutAuto
import Derived.Deep.CutBlock
namespace Go.Proofs.Ytlheedcnmfekoaa
open Go.RowKit
set_option maxRecDepth 100000
set_option linter.unusedVariables false
set_option maxHeartbeats 8000000

/-- The reader's box. -/
def RdI (A : Option Addr) (n c rb : Nat) (w : World) : Prop := w.heap[rb]? = some (.cells #[.slice A n c] 81 (0, 0))
section
variable {A : Option Addr} {n c rb : Nat} {w w' : World}
theorem RdI.cells (h : RdI A n c rb w) : w.cell? ⟨rb, 0, none⟩ = some (.slice A n c) ∧ w.frozen? ⟨rb, 0, none⟩ = false := ⟨cell_of_row w _ 0 _ _ _ h, frozen_of_row w _ 0 _ _ h⟩
theorem RdI.lt (h : RdI A n c rb w) : rb < w.heap.size := (Array.getElem?_eq_some_iff.1 h).1
theorem RdI.keep (h : RdI A n c rb w) (hb : Below w.heap.size w w') : RdI A n c rb w' := (hb.block _ h.lt).trans h
theorem RdI.put (h : RdI A n c rb w) (A' : Option Addr) (n' c' : Nat) : RdI A' n' c' rb (w.setCell ⟨rb, 0, none⟩ (.slice A' n' c')) := heap_setCell_same w rb 0 _ _ _ h
end
theorem gb_set_new {w wx : World} {p : Addr} {u : Value} {row : Option Nat} (h : w.grownBy wx row) (hp : w.heap.size ≤ p.block) : w.grownBy (wx.setCell p u) row :=
  ⟨h.os, h.tape, h.output, by simpa using h.size, fun k hk hne => (heap_setCell_other _ _ _ _ (by omega)).trans (h.block k hk hne)⟩
/-- What next hands back. -/
def NxGot (w : World) (rb : Nat) (S : Nat → Prop) (k : Int) (n t : ByteArray) (l r : Its) (o : Ending) (w' : World) : Prop :=
  ∃ A1 c1 A2 c2, o = .returned (.agg #[.int .i64 k, .string n, .string t, .slice A1 l.len c1]) ∧ l.len ≤ c1 ∧ r.len ≤ c2 ∧ SlK w' S A1 l ∧ SlK w' S A2 r ∧ RdI A2 r.len c2 rb w' ∧ w.grownBy w' (some rb)
theorem wal_next (k : Int) (n t : ByteArray) (l r : Its) (A : Option Addr) (m c rb : Nat) (S : Nat → Prop) (w : World) (hm : r.len + 1 = m) (hm2 : m ≤ 100000) (hc : m ≤ c) (hb : RdI A m c rb w) (hsl : SlK w S A (.cons k n t l r)) (hS : ∀ g, S g → g < w.heap.size ∧ g ≠ rb) :
    Calls Try.prog 55 #[.pointer (some ⟨rb, 0, none⟩), .int .i64 k] w (NxGot w rb S k n t l r) := by
  obtain ⟨L, hrow, A1, c1, L', R, hL, hc1, hr1, hr2, hr3⟩ := hsl
  obtain ⟨g, off, rfl, hg, hcell⟩ := hrow (by simp [Its.len])
  have y0 := hcell 0 (.int .i64 k) (by rw [hL]; rfl)
  have y1 := hcell 1 (.string n) (by rw [hL]; rfl)
  have y2 := hcell 2 (.string t) (by rw [hL]; rfl)
  have y3 := hcell 3 (.slice A1 l.len c1) (by rw [hL]; rfl)
  rw [Nat.add_zero] at y0
  have HB := Lib.hid hb
  have hlt := hb.lt
  have hglt := (hS g hg).1
  have HS := Lib.hid hS
  have HL1 : Hid (SlK w S A1 l) := Lib.hid ⟨L', hr1, hr2⟩
  have hrr : SlK w S (some ⟨g, off + 4, none⟩) r := ⟨R, fun h0 => ⟨g, off + 4, rfl, hg, fun j u hj => by
    have := hcell (4 + j) u (by rw [hL]; simpa [Nat.add_comm] using hj)
    rwa [← Nat.add_assoc] at this⟩, hr3⟩
  have HRR := Lib.hid hrr
  clear hrr
  have HC1 := Lib.hid hc1
  obtain ⟨x0, f0⟩ := hb.cells
  have i1 : decide ((m : Int) = 0) = false := by simp; omega
  have i2 : ((m : Int) == 0) = false := by simp; omega
  have i3 : (0 : Int) < (m : Int) := by omega
  have i4 : 0 < m := by omega
  have i5 : 1 ≤ m := by omega
  have i6 : (1 : Int) ≤ (m : Int) := by omega
  have HM := Lib.hid (And.intro hm hc)
  clear hb hS hr1 hr2 hr3 hc1 hL hcell hrow hm
  go_enter Try.func55, Try.ntmps55
  go_upto_region 5 with fail
  obtain ⟨A2, hA2⟩ : ∃ A2, (if c = 1 then (some ⟨g, off, none⟩ : Option Addr) else some ⟨g, off + 4, none⟩) = A2 := ⟨_, rfl⟩
  rw [hA2]
  have HRR2 : Hid (SlK w S A2 r) := Lib.hid (by
    by_cases h1 : c = 1
    · have h0 : r.len = 0 := by have := HM.out; omega
      obtain ⟨R', hr4, hr5⟩ := HRR.out
      exact ⟨R', fun hx => absurd hx (by omega), hr5⟩
    · rw [← hA2, if_neg h1]
      exact HRR.out)
  clear hA2
  have hb5 : RdI A2 (m - 1) (c - 1) rb (((w.setCell ⟨rb, 0, none⟩ (.slice A2 (m - 1) (c - 1))).alloc (.cells #[.int .i64 0, .string ⟨#[]⟩, .string ⟨#[]⟩, .slice none 0 0] 69)).alloc (.cells #[.int .i64 k, .string n, .string t, .slice A1 l.len c1] 69)) := ((HB.out.put A2 (m - 1) (c - 1)).keep ((Below.refl _ _).alloc (Nat.le_refl _) _)).keep ((Below.refl _ _).alloc (Nat.le_refl _) _)
  have hg5 : w.grownBy (((w.setCell ⟨rb, 0, none⟩ (.slice A2 (m - 1) (c - 1))).alloc (.cells #[.int .i64 0, .string ⟨#[]⟩, .string ⟨#[]⟩, .slice none 0 0] 69)).alloc (.cells #[.int .i64 k, .string n, .string t, .slice A1 l.len c1] 69)) (some rb) := (gb_set.trans (gb_below ((Below.refl _ _).alloc (Nat.le_refl _) _))).trans (gb_below ((Below.refl _ _).alloc (Nat.le_refl _) _))
  have h2b := two_boxes (w.setCell ⟨rb, 0, none⟩ (.slice A2 (m - 1) (c - 1))) (.cells #[.int .i64 0, .string ⟨#[]⟩, .string ⟨#[]⟩, .slice none 0 0] 69) (.cells #[.int .i64 k, .string n, .string t, .slice A1 l.len c1] 69)
  rw [World.size_setCell] at h2b
  have hz5 : (((w.setCell ⟨rb, 0, none⟩ (.slice A2 (m - 1) (c - 1))).alloc (.cells #[.int .i64 0, .string ⟨#[]⟩, .string ⟨#[]⟩, .slice none 0 0] 69)).alloc (.cells #[.int .i64 k, .string n, .string t, .slice A1 l.len c1] 69)).heap.size = w.heap.size + 2 := by simp
  have HB5 := Lib.hid hb5
  have HG5 := Lib.hid hg5
  have H2B := Lib.hid h2b
  clear hb5 hg5 h2b hz5 x0 f0
  obtain ⟨w5, hw5⟩ : ∃ w5, (((w.setCell ⟨rb, 0, none⟩ (.slice A2 (m - 1) (c - 1))).alloc (.cells #[.int .i64 0, .string ⟨#[]⟩, .string ⟨#[]⟩, .slice none 0 0] 69)).alloc (.cells #[.int .i64 k, .string n, .string t, .slice A1 l.len c1] 69)) = w5 := ⟨_, rfl⟩
  rw [hw5] at HB5 HG5 H2B ⊢
  clear hw5
  have t0 := cell_of_row _ _ 0 _ _ _ H2B.out.2
  have t1 := cell_of_row _ _ 1 _ _ _ H2B.out.2
  have t2 := cell_of_row _ _ 2 _ _ _ H2B.out.2
  have t3 := cell_of_row _ _ 3 _ _ _ H2B.out.2
  have r0 := cell_of_row _ _ 0 _ _ _ H2B.out.1
  have r1 := cell_of_row _ _ 1 _ _ _ H2B.out.1
  have r2 := cell_of_row _ _ 2 _ _ _ H2B.out.1
  have r3 := cell_of_row _ _ 3 _ _ _ H2B.out.1
  have g0 := frozen_of_row _ _ 0 _ _ H2B.out.1
  have g1 := frozen_of_row _ _ 1 _ _ H2B.out.1
  have g2 := frozen_of_row _ _ 2 _ _ H2B.out.1
  have g3 := frozen_of_row _ _ 3 _ _ H2B.out.1
  go_wp2_with fail
  refine bodyPost_ret (v := .agg #[.int .i64 k, .string n, .string t, .slice A1 l.len c1]) (by simp [results, Try.results55, go_sem, r0, r1, r2, r3]) rfl ?_
  have hm1 : r.len = m - 1 := by have := HM.out; omega
  have hgr : w.grownBy ((((w5.setCell ⟨w.heap.size, 0, none⟩ (.int .i64 k)).setCell ⟨w.heap.size, 1, none⟩ (.string n)).setCell ⟨w.heap.size, 2, none⟩ (.string t)).setCell ⟨w.heap.size, 3, none⟩ (.slice A1 l.len c1)) (some rb) :=
    gb_set_new (gb_set_new (gb_set_new (gb_set_new HG5.out (Nat.le_refl _)) (Nat.le_refl _)) (Nat.le_refl _)) (Nat.le_refl _)
  refine ⟨A1, c1, A2, c - 1, rfl, HC1.out, by have := HM.out; omega, HL1.out.keep (fun p hp => gb_cell hgr (HS.out _ hp).1 (HS.out _ hp).2), HRR2.out.keep (fun p hp => gb_cell hgr (HS.out _ hp).1 (HS.out _ hp).2), ?_, hgr⟩
  rw [hm1]
  have hne : rb ≠ w.heap.size := by omega
  unfold RdI
  rw [heap_setCell_other _ _ _ _ hne, heap_setCell_other _ _ _ _ hne, heap_setCell_other _ _ _ _ hne, heap_setCell_other _ _ _ _ hne]
  exact HB5.out

theorem fld_1 (k : Int) (n t : ByteArray) (A : Option Addr) (ln c : Nat) (w : World) : (Instr.field 69 (.agg #[.int .i64 k, .string n, .string t, .slice A ln c]) 1).run Try.prog w = .ok (.string n) w := by kernel_rfl
theorem fld_2 (k : Int) (n t : ByteArray) (A : Option Addr) (ln c : Nat) (w : World) : (Instr.field 69 (.agg #[.int .i64 k, .string n, .string t, .slice A ln c]) 2).run Try.prog w = .ok (.string t) w := by kernel_rfl
theorem fld_3 (k : Int) (n t : ByteArray) (A : Option Addr) (ln c : Nat) (w : World) : (Instr.field 69 (.agg #[.int .i64 k, .string n, .string t, .slice A ln c]) 3).run Try.prog w = .ok (.slice A ln c) w := by kernel_rfl
/-- What text and nat hand back. -/
def StGot (w : World) (rb : Nat) (S : Nat → Prop) (x : ByteArray) (r : Its) (o : Ending) (w' : World) : Prop :=
  ∃ A2 c2, o = .returned (.string x) ∧ r.len ≤ c2 ∧ SlK w' S A2 r ∧ RdI A2 r.len c2 rb w' ∧ w.grownBy w' (some rb)
theorem wal_text (n t : ByteArray) (l r : Its) (A : Option Addr) (m c rb : Nat) (S : Nat → Prop) (w : World) (hm : r.len + 1 = m) (hm2 : m ≤ 100000) (hc : m ≤ c) (hb : RdI A m c rb w) (hsl : SlK w S A (.cons 1 n t l r)) (hS : ∀ g, S g → g < w.heap.size ∧ g ≠ rb) :
    Calls Try.prog 34 #[.pointer (some ⟨rb, 0, none⟩)] w (StGot w rb S t r) := by
  have HN := Lib.hid (wal_next 1 n t l r A m c rb S w hm hm2 hc hb hsl hS)
  have hf2 := fld_2
  clear hb hsl hS hm hc hm2
  go_enter Try.func34, Try.ntmps34
  go_wp2_with (go_at_call 55; (with_reducible refine HN.out.mono ?_); rintro o w5 ⟨A1, c1, A2, c2, rfl, h1, h2, h3, h4, h5, h6⟩; have H := Lib.hid (show StGot w rb S t r (.returned (.string t)) w5 from ⟨A2, c2, rfl, h2, h4, h5, h6⟩); clear h1 h2 h3 h4 h5 h6)
  go_ret
  exact H.out
theorem wal_nat (n t : ByteArray) (l r : Its) (A : Option Addr) (m c rb : Nat) (S : Nat → Prop) (w : World) (hm : r.len + 1 = m) (hm2 : m ≤ 100000) (hc : m ≤ c) (hb : RdI A m c rb w) (hsl : SlK w S A (.cons 0 n t l r)) (hS : ∀ g, S g → g < w.heap.size ∧ g ≠ rb) :
    Calls Try.prog 50 #[.pointer (some ⟨rb, 0, none⟩)] w (StGot w rb S n r) := by
  have HN := Lib.hid (wal_next 0 n t l r A m c rb S w hm hm2 hc hb hsl hS)
  have hf1 := fld_1
  clear hb hsl hS hm hc hm2
  go_enter Try.func50, Try.ntmps50
  go_wp2_with (go_at_call 55; (with_reducible refine HN.out.mono ?_); rintro o w5 ⟨A1, c1, A2, c2, rfl, h1, h2, h3, h4, h5, h6⟩; have H := Lib.hid (show StGot w rb S n r (.returned (.string n)) w5 from ⟨A2, c2, rfl, h2, h4, h5, h6⟩); clear h1 h2 h3 h4 h5 h6)
  go_ret
  exact H.out
theorem wal_end (A : Option Addr) (c rb : Nat) (w : World) (hb : RdI A 0 c rb w) :
    Calls Try.prog 51 #[.pointer (some ⟨rb, 0, none⟩)] w fun o w' => o = .returned (.tuple #[]) ∧ w = w' := by
  obtain ⟨x0, f0⟩ := hb.cells
  go_enter Try.func51, Try.ntmps51
  go_wp2_with fail
  exact bodyPost_end (v := .tuple #[]) (by simp [results, Try.results51, go_sem]) rfl ⟨rfl, rfl⟩

end Go.Proofs.Ytlheedcnmfekoaa
