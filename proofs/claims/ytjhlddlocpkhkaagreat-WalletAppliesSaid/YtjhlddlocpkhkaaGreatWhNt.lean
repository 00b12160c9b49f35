/- The reference: renew; printed by genNt.py. -/
import Derived.Test.YtjhlddlocpkhkaaGreatWhJ24
import Derived.Test.YtjhlddlocpkhkaaGreatWhNl
import Derived.Test.YtjhlddlocpkhkaaGreatWhJ28
namespace Go.Proofs.YtjhlddlocpkhkaaGreat
open Go.RowKit
set_option maxRecDepth 100000
set_option linter.unusedVariables false
set_option maxHeartbeats 16000000
/-- The wallet that renew hands back. -/
theorem walM_h {w wx w' : World} {S : Nat → Prop} {qs : List Az} {hs : List Hz} {us : List Uz} {x : Hz} {Aa Ah Au A : Option Addr} {g4 c2 nh n c k : Nat} {L : List Value} (h : WalM w S qs hs us Aa Ah Au) (hS : ∀ g, S g → g < w.heap.size) (hr : RowC w S A n (cellsN x.att)) (hnx : x.att.length = n) (hL : RelH w S hs L) (hk' : k < hs.length)
    (o2 : wx.ownsRow (w.heap.size + 3) 47 9 (.slice (some ⟨g4, 0, none⟩) nh c2) nh (((((((((L.set (k * 9) (.string x.iss)).set (k * 9 + 1) (.string x.sch)).set (k * 9 + 2) (.int .i64 x.ver)).set (k * 9 + 3) (.slice A n c)).set (k * 9 + 4) (.string x.a)).set (k * 9 + 5) (.string x.e)).set (k * 9 + 6) (.string x.v)).set (k * 9 + 7) (.int .i64 x.ep)).set (k * 9 + 8) (.string x.wit))) (e2 : hs.length = nh)
    (hb : Below w.heap.size w w') (hk : ∀ p : Addr, w.heap.size + 3 ≤ p.block → w'.cell? p = wx.cell? p) (hz : wx.heap.size ≤ w'.heap.size) : WalM w' (fun g => S g ∨ (w.heap.size ≤ g ∧ g < w'.heap.size)) qs (hs.set k x) us Aa (some ⟨g4, 0, none⟩) Au := by
  subst e2 hnx
  have hl : ∀ g, S g → S g ∨ (w.heap.size ≤ g ∧ g < w'.heap.size) := fun g hg => .inl hg
  have h' := (h.keep (w' := w') (fun p hp => hb.cell (hS _ hp))).mono hl
  refine ⟨h'.a, ⟨setL L k x A c, ?_, RelH.set ((hr.keep (fun p hp => hb.cell (hS _ hp))).mono hl) ((hL.keep (fun p hp => hb.cell (hS _ hp))).mono hl) hk'⟩, h'.u⟩
  rw [List.length_set]
  exact RowC.mono (RowC.keep (owns_row o2) (fun p hp => hk p hp.1)) (fun g hg => .inr ⟨by have := hg.1; omega, Nat.lt_of_lt_of_le hg.2 hz⟩)
theorem r56_renew_range (sec : ByteArray) (Aa Ah Au : Option Addr) (na ca nh ch nu cu : Nat) (k : Int) (x : Hz) (A : Option Addr) (n c : Nat) (w : World) (hk : k < 0 ∨ (nh : Int) ≤ k) :
    Calls Tryz.prog 38 #[.agg #[.string sec, .slice Aa na ca, .slice Ah nh ch, .slice Au nu cu], .int .i64 k, valH x A n c] w (ChErr w 2) := by
  unfold valH
  have HB0 := Lib.hid (BxB.start (w := w) (sec := sec) (Aa := Aa) (na := na) (ca := ca) (Ah := Ah) (nh := nh) (ch := ch) (Au := Au) (nu := nu) (cu := cu) (cs := #[.string x.iss, .string x.sch, .int .i64 x.ver, .slice A n c, .string x.a, .string x.e, .string x.v, .int .i64 x.ep, .string x.wit]) (T := 47))
  go_enter Tryz.func38, Tryz.ntmps38
  go_upto_region 1 with fail
  obtain ⟨w0, hw0⟩ : ∃ w0, (((w.alloc (.cells #[.string sec, .slice Aa na ca, .slice Ah nh ch, .slice Au nu cu] 27)).alloc (.cells #[.string x.iss, .string x.sch, .int .i64 x.ver, .slice A n c, .string x.a, .string x.e, .string x.v, .int .i64 x.ep, .string x.wit] 47)).alloc (.cells #[.string ⟨#[]⟩, .slice none 0 0, .slice none 0 0, .slice none 0 0] 27)) = w0 := ⟨_, rfl⟩
  rw [hw0] at HB0 ⊢
  clear hw0
  have HZ := HB0
  obtain ⟨⟨x0, x1, x2, x3⟩, y0, y1, y2, y3⟩ := HB0.out.bc
  by_cases h0 : k < 0
  · have i1 : decide (k < 0) = true := decide_eq_true h0
    have i3 : (k < 0) = True := by simp; exact h0
    obtain ⟨⟨r0, r1, r2, r3⟩, g0, g1, g2, g3⟩ := HZ.out.rc
    go_wp2_with fail
    refine bodyPost_ret (v := .tuple #[.agg #[.string ⟨#[]⟩, .slice none 0 0, .slice none 0 0, .slice none 0 0], .int .i64 2]) (by simp [results, Tryz.results38, go_sem, r0, r1, r2, r3]) rfl ?_
    have hl : w.heap.size ≤ w.heap.size + 1 + 1 := by omega
    exact ⟨rfl, (((HZ.out.bel.setCell (p := ⟨w.heap.size + 1 + 1, 0, none⟩) hl _).setCell (p := ⟨w.heap.size + 1 + 1, 1, none⟩) hl _).setCell (p := ⟨w.heap.size + 1 + 1, 2, none⟩) hl _).setCell (p := ⟨w.heap.size + 1 + 1, 3, none⟩) hl _⟩
  · have hk2 : (nh : Int) ≤ k := by omega
    have i1 : decide (k < 0) = false := decide_eq_false h0
    have i3 : (k < 0) = False := by simp; omega
    have i2 : decide ((nh : Int) ≤ k) = true := decide_eq_true hk2
    have i4 : ((nh : Int) ≤ k) = True := by simp; exact hk2
    obtain ⟨⟨r0, r1, r2, r3⟩, g0, g1, g2, g3⟩ := HZ.out.rc
    go_wp2_with fail
    refine bodyPost_ret (v := .tuple #[.agg #[.string ⟨#[]⟩, .slice none 0 0, .slice none 0 0, .slice none 0 0], .int .i64 2]) (by simp [results, Tryz.results38, go_sem, r0, r1, r2, r3]) rfl ?_
    have hl : w.heap.size ≤ w.heap.size + 1 + 1 := by omega
    exact ⟨rfl, (((HZ.out.bel.setCell (p := ⟨w.heap.size + 1 + 1, 0, none⟩) hl _).setCell (p := ⟨w.heap.size + 1 + 1, 1, none⟩) hl _).setCell (p := ⟨w.heap.size + 1 + 1, 2, none⟩) hl _).setCell (p := ⟨w.heap.size + 1 + 1, 3, none⟩) hl _⟩
theorem r56_renew_other (sec : ByteArray) (qs : List Az) (hs : List Hz) (us : List Uz) (Aa Ah Au : Option Addr) (na ca nh ch nu cu : Nat) (k : Nat) (y x : Hz) (A : Option Addr) (n c : Nat) (S : Nat → Prop) (w : World) (hq : qs.length = na) (hn : hs.length = nh) (hu : us.length = nu) (hma : na ≤ 100000) (hmh : nh ≤ 100000) (hmu : nu ≤ 100000) (hatt : ∀ x ∈ hs, x.att.length ≤ 100000) (hnx : x.att.length = n) (hmn : n ≤ 100000) (hy : hs[k]? = some y) (hsame : sameH y x = false) (hrow : RowC w S A n (cellsN x.att)) (h : WalM w S qs hs us Aa Ah Au) (hS : ∀ g, S g → g < w.heap.size) :
    Calls Tryz.prog 38 #[.agg #[.string sec, .slice Aa na ca, .slice Ah nh ch, .slice Au nu cu], .int .i64 k, valH x A n c] w (ChErr w 1) := by
  unfold valH
  have hkl := (List.getElem?_eq_some_iff.1 hy).1
  obtain ⟨g, off, A', c', rfl, hsg, hrowy, hcell⟩ := h.h.at_ hy
  have hay : y.att.length ≤ 100000 := hatt y (List.mem_of_getElem? hy)
  have HSM := Lib.hid (fun W (hb : Below w.heap.size w W) => r56_same y x A' A y.att.length n c' c S W rfl hnx hay (hrowy.keep (fun p hp => hb.cell (hS _ hp))) (hrow.keep (fun p hp => hb.cell (hS _ hp))) (fun g hg => Nat.lt_of_lt_of_le (hS g hg) hb.size))
  rw [hsame] at HSM
  simp only [valC] at HSM
  have HQ := Lib.hid (And.intro hq (And.intro hn hu))
  have HKL := Lib.hid hkl
  have HNX := Lib.hid hnx
  have HB0 := Lib.hid (BxB.start (w := w) (sec := sec) (Aa := Aa) (na := na) (ca := ca) (Ah := some ⟨g, off, none⟩) (nh := nh) (ch := ch) (Au := Au) (nu := nu) (cu := cu) (cs := #[.string x.iss, .string x.sch, .int .i64 x.ver, .slice A n c, .string x.a, .string x.e, .string x.v, .int .i64 x.ep, .string x.wit]) (T := 47))
  have HCC : Hid (∀ W sec' Aa' na' ca' Au' nu' cu', Below w.heap.size w W → BxB w sec' Aa' na' ca' (some ⟨g, off, none⟩) nh ch Au' nu' cu' #[.string x.iss, .string x.sch, .int .i64 x.ver, .slice A n c, .string x.a, .string x.e, .string x.v, .int .i64 x.ep, .string x.wit] 47 W → W.cell? ⟨w.heap.size, 2, none⟩ = some (.slice (some ⟨g, off, none⟩) nh ch) ∧
      (W.cell? ⟨g, off + k * 9, none⟩ = some (.string y.iss) ∧ W.cell? ⟨g, off + k * 9 + 1, none⟩ = some (.string y.sch) ∧ W.cell? ⟨g, off + k * 9 + 2, none⟩ = some (.int .i64 y.ver) ∧ W.cell? ⟨g, off + k * 9 + 3, none⟩ = some (.slice A' y.att.length c') ∧ W.cell? ⟨g, off + k * 9 + 4, none⟩ = some (.string y.a) ∧ W.cell? ⟨g, off + k * 9 + 5, none⟩ = some (.string y.e) ∧ W.cell? ⟨g, off + k * 9 + 6, none⟩ = some (.string y.v)) ∧
      (W.cell? ⟨w.heap.size + 1, 0, none⟩ = some (.string x.iss) ∧ W.cell? ⟨w.heap.size + 1, 1, none⟩ = some (.string x.sch) ∧ W.cell? ⟨w.heap.size + 1, 2, none⟩ = some (.int .i64 x.ver) ∧ W.cell? ⟨w.heap.size + 1, 3, none⟩ = some (.slice A n c) ∧ W.cell? ⟨w.heap.size + 1, 4, none⟩ = some (.string x.a) ∧ W.cell? ⟨w.heap.size + 1, 5, none⟩ = some (.string x.e) ∧ W.cell? ⟨w.heap.size + 1, 6, none⟩ = some (.string x.v))) := Lib.hid (by
    intro W sec' Aa' na' ca' Au' nu' cu' hb hbx
    have hc : ∀ j u, (cellsH y A' c')[j]? = some u → W.cell? ⟨g, off + k * 9 + j, none⟩ = some u := fun j u hj => (hb.cell (hS _ hsg)).trans (hcell j u hj)
    exact ⟨hbx.bc.1.2.2.1, ⟨hc 0 _ rfl, hc 1 _ rfl, hc 2 _ rfl, hc 3 _ rfl, hc 4 _ rfl, hc 5 _ rfl, hc 6 _ rfl⟩, ⟨cell_of_row W _ 0 _ _ _ hbx.arg, cell_of_row W _ 1 _ _ _ hbx.arg, cell_of_row W _ 2 _ _ _ hbx.arg, cell_of_row W _ 3 _ _ _ hbx.arg, cell_of_row W _ 4 _ _ _ hbx.arg, cell_of_row W _ 5 _ _ _ hbx.arg, cell_of_row W _ 6 _ _ _ hbx.arg⟩⟩)
  have HEP : Hid (∀ W, Below w.heap.size w W → W.cell? ⟨g, off + k * 9 + 7, none⟩ = some (.int .i64 y.ep)) := Lib.hid (fun W hb => (hb.cell (hS _ hsg)).trans (hcell 7 _ rfl))
  have i1 : decide ((k : Int) < 0) = false := decide_eq_false (by omega)
  have i2 : decide ((nh : Int) ≤ (k : Int)) = false := decide_eq_false (by omega)
  have i3 : ((k : Int) < 0) = False := by simp
  have i4 : ((nh : Int) ≤ (k : Int)) = False := by simp; omega
  have i5 : (k : Int) < (nh : Int) := by omega
  have i6 : (0 : Int) ≤ (k : Int) := by omega
  have i7 : k < nh := by omega
  clear h hS hq hn hatt hma hmh hmu hu hrow hrowy hcell hsg hy hsame hay hmn hkl
  go_enter Tryz.func38, Tryz.ntmps38
  go_upto_region 1 with fail
  obtain ⟨w0, hw0⟩ : ∃ w0, (((w.alloc (.cells #[.string sec, .slice Aa na ca, .slice (some ⟨g, off, none⟩) nh ch, .slice Au nu cu] 27)).alloc (.cells #[.string x.iss, .string x.sch, .int .i64 x.ver, .slice A n c, .string x.a, .string x.e, .string x.v, .int .i64 x.ep, .string x.wit] 47)).alloc (.cells #[.string ⟨#[]⟩, .slice none 0 0, .slice none 0 0, .slice none 0 0] 27)) = w0 := ⟨_, rfl⟩
  rw [hw0] at HB0 ⊢
  clear hw0
  obtain ⟨⟨x0, x1, x2, x3⟩, y0, y1, y2, y3⟩ := HB0.out.bc
  go_upto_region 3 with fail
  have H0 := HB0
  go_region_held3 (fun w' => w'.cell? ⟨w.heap.size, 2, none⟩ = some (.slice (some ⟨g, off, none⟩) nh ch) ∧
      (w'.cell? ⟨g, off + k * 9, none⟩ = some (.string y.iss) ∧ w'.cell? ⟨g, off + k * 9 + 1, none⟩ = some (.string y.sch) ∧ w'.cell? ⟨g, off + k * 9 + 2, none⟩ = some (.int .i64 y.ver) ∧ w'.cell? ⟨g, off + k * 9 + 3, none⟩ = some (.slice A' y.att.length c') ∧ w'.cell? ⟨g, off + k * 9 + 4, none⟩ = some (.string y.a) ∧ w'.cell? ⟨g, off + k * 9 + 5, none⟩ = some (.string y.e) ∧ w'.cell? ⟨g, off + k * 9 + 6, none⟩ = some (.string y.v)) ∧
      (w'.cell? ⟨w.heap.size + 1, 0, none⟩ = some (.string x.iss) ∧ w'.cell? ⟨w.heap.size + 1, 1, none⟩ = some (.string x.sch) ∧ w'.cell? ⟨w.heap.size + 1, 2, none⟩ = some (.int .i64 x.ver) ∧ w'.cell? ⟨w.heap.size + 1, 3, none⟩ = some (.slice A n c) ∧ w'.cell? ⟨w.heap.size + 1, 4, none⟩ = some (.string x.a) ∧ w'.cell? ⟨w.heap.size + 1, 5, none⟩ = some (.string x.e) ∧ w'.cell? ⟨w.heap.size + 1, 6, none⟩ = some (.string x.v))) (first | exact HCC.out _ _ _ _ _ _ _ _ H0.out.bel H0.out | exact HCC.out _ _ _ _ _ _ _ _ H0.out.drew.bel H0.out.drew | go_keep) (first
    | (go_at_call 76; (first | (with_reducible refine (HSM.out _ H0.out.bel).mono ?_) | (with_reducible refine (HSM.out _ H0.out.drew.bel).mono ?_)); rintro o w1 ⟨rfl, hb1⟩; have n1 := (by first | exact H0.out.next hb1 | exact H0.out.drew.next hb1 : BxB w _ _ _ _ _ _ _ _ _ _ _ _ w1); replace H0 := Lib.hid n1; clear n1 hb1))
  all_goals
    have HZ := H0
    obtain ⟨⟨r0, r1, r2, r3⟩, g0, g1, g2, g3⟩ := HZ.out.rc
    go_wp2_with fail
    refine bodyPost_ret (v := .tuple #[.agg #[.string ⟨#[]⟩, .slice none 0 0, .slice none 0 0, .slice none 0 0], .int .i64 1]) (by simp [results, Tryz.results38, go_sem, r0, r1, r2, r3]) rfl ?_
    have hl : w.heap.size ≤ w.heap.size + 1 + 1 := by omega
    exact ⟨rfl, (((HZ.out.bel.setCell (p := ⟨w.heap.size + 1 + 1, 0, none⟩) hl _).setCell (p := ⟨w.heap.size + 1 + 1, 1, none⟩) hl _).setCell (p := ⟨w.heap.size + 1 + 1, 2, none⟩) hl _).setCell (p := ⟨w.heap.size + 1 + 1, 3, none⟩) hl _⟩
theorem r56_renew_epoch (sec : ByteArray) (qs : List Az) (hs : List Hz) (us : List Uz) (Aa Ah Au : Option Addr) (na ca nh ch nu cu : Nat) (k : Nat) (y x : Hz) (A : Option Addr) (n c : Nat) (S : Nat → Prop) (w : World) (hq : qs.length = na) (hn : hs.length = nh) (hu : us.length = nu) (hma : na ≤ 100000) (hmh : nh ≤ 100000) (hmu : nu ≤ 100000) (hatt : ∀ x ∈ hs, x.att.length ≤ 100000) (hnx : x.att.length = n) (hmn : n ≤ 100000) (hy : hs[k]? = some y) (hsame : sameH y x = true) (hep : x.ep < y.ep) (hrow : RowC w S A n (cellsN x.att)) (h : WalM w S qs hs us Aa Ah Au) (hS : ∀ g, S g → g < w.heap.size) :
    Calls Tryz.prog 38 #[.agg #[.string sec, .slice Aa na ca, .slice Ah nh ch, .slice Au nu cu], .int .i64 k, valH x A n c] w (ChErr w 21) := by
  unfold valH
  have hkl := (List.getElem?_eq_some_iff.1 hy).1
  obtain ⟨g, off, A', c', rfl, hsg, hrowy, hcell⟩ := h.h.at_ hy
  have hay : y.att.length ≤ 100000 := hatt y (List.mem_of_getElem? hy)
  have HSM := Lib.hid (fun W (hb : Below w.heap.size w W) => r56_same y x A' A y.att.length n c' c S W rfl hnx hay (hrowy.keep (fun p hp => hb.cell (hS _ hp))) (hrow.keep (fun p hp => hb.cell (hS _ hp))) (fun g hg => Nat.lt_of_lt_of_le (hS g hg) hb.size))
  rw [hsame] at HSM
  simp only [valC] at HSM
  have HQ := Lib.hid (And.intro hq (And.intro hn hu))
  have HKL := Lib.hid hkl
  have HNX := Lib.hid hnx
  have HB0 := Lib.hid (BxB.start (w := w) (sec := sec) (Aa := Aa) (na := na) (ca := ca) (Ah := some ⟨g, off, none⟩) (nh := nh) (ch := ch) (Au := Au) (nu := nu) (cu := cu) (cs := #[.string x.iss, .string x.sch, .int .i64 x.ver, .slice A n c, .string x.a, .string x.e, .string x.v, .int .i64 x.ep, .string x.wit]) (T := 47))
  have HCC : Hid (∀ W sec' Aa' na' ca' Au' nu' cu', Below w.heap.size w W → BxB w sec' Aa' na' ca' (some ⟨g, off, none⟩) nh ch Au' nu' cu' #[.string x.iss, .string x.sch, .int .i64 x.ver, .slice A n c, .string x.a, .string x.e, .string x.v, .int .i64 x.ep, .string x.wit] 47 W → W.cell? ⟨w.heap.size, 2, none⟩ = some (.slice (some ⟨g, off, none⟩) nh ch) ∧
      (W.cell? ⟨g, off + k * 9, none⟩ = some (.string y.iss) ∧ W.cell? ⟨g, off + k * 9 + 1, none⟩ = some (.string y.sch) ∧ W.cell? ⟨g, off + k * 9 + 2, none⟩ = some (.int .i64 y.ver) ∧ W.cell? ⟨g, off + k * 9 + 3, none⟩ = some (.slice A' y.att.length c') ∧ W.cell? ⟨g, off + k * 9 + 4, none⟩ = some (.string y.a) ∧ W.cell? ⟨g, off + k * 9 + 5, none⟩ = some (.string y.e) ∧ W.cell? ⟨g, off + k * 9 + 6, none⟩ = some (.string y.v)) ∧
      (W.cell? ⟨w.heap.size + 1, 0, none⟩ = some (.string x.iss) ∧ W.cell? ⟨w.heap.size + 1, 1, none⟩ = some (.string x.sch) ∧ W.cell? ⟨w.heap.size + 1, 2, none⟩ = some (.int .i64 x.ver) ∧ W.cell? ⟨w.heap.size + 1, 3, none⟩ = some (.slice A n c) ∧ W.cell? ⟨w.heap.size + 1, 4, none⟩ = some (.string x.a) ∧ W.cell? ⟨w.heap.size + 1, 5, none⟩ = some (.string x.e) ∧ W.cell? ⟨w.heap.size + 1, 6, none⟩ = some (.string x.v))) := Lib.hid (by
    intro W sec' Aa' na' ca' Au' nu' cu' hb hbx
    have hc : ∀ j u, (cellsH y A' c')[j]? = some u → W.cell? ⟨g, off + k * 9 + j, none⟩ = some u := fun j u hj => (hb.cell (hS _ hsg)).trans (hcell j u hj)
    exact ⟨hbx.bc.1.2.2.1, ⟨hc 0 _ rfl, hc 1 _ rfl, hc 2 _ rfl, hc 3 _ rfl, hc 4 _ rfl, hc 5 _ rfl, hc 6 _ rfl⟩, ⟨cell_of_row W _ 0 _ _ _ hbx.arg, cell_of_row W _ 1 _ _ _ hbx.arg, cell_of_row W _ 2 _ _ _ hbx.arg, cell_of_row W _ 3 _ _ _ hbx.arg, cell_of_row W _ 4 _ _ _ hbx.arg, cell_of_row W _ 5 _ _ _ hbx.arg, cell_of_row W _ 6 _ _ _ hbx.arg⟩⟩)
  have HEP : Hid (∀ W, Below w.heap.size w W → W.cell? ⟨g, off + k * 9 + 7, none⟩ = some (.int .i64 y.ep)) := Lib.hid (fun W hb => (hb.cell (hS _ hsg)).trans (hcell 7 _ rfl))
  have i1 : decide ((k : Int) < 0) = false := decide_eq_false (by omega)
  have i2 : decide ((nh : Int) ≤ (k : Int)) = false := decide_eq_false (by omega)
  have i3 : ((k : Int) < 0) = False := by simp
  have i4 : ((nh : Int) ≤ (k : Int)) = False := by simp; omega
  have i5 : (k : Int) < (nh : Int) := by omega
  have i6 : (0 : Int) ≤ (k : Int) := by omega
  have i7 : k < nh := by omega
  have e1 : decide (x.ep < y.ep) = true := decide_eq_true (by omega)
  have e2 : (x.ep < y.ep) = True := by simp; omega
  clear h hS hq hn hatt hma hmh hmu hu hrow hrowy hcell hsg hy hsame hep hay hmn hkl
  go_enter Tryz.func38, Tryz.ntmps38
  go_upto_region 1 with fail
  obtain ⟨w0, hw0⟩ : ∃ w0, (((w.alloc (.cells #[.string sec, .slice Aa na ca, .slice (some ⟨g, off, none⟩) nh ch, .slice Au nu cu] 27)).alloc (.cells #[.string x.iss, .string x.sch, .int .i64 x.ver, .slice A n c, .string x.a, .string x.e, .string x.v, .int .i64 x.ep, .string x.wit] 47)).alloc (.cells #[.string ⟨#[]⟩, .slice none 0 0, .slice none 0 0, .slice none 0 0] 27)) = w0 := ⟨_, rfl⟩
  rw [hw0] at HB0 ⊢
  clear hw0
  obtain ⟨⟨x0, x1, x2, x3⟩, y0, y1, y2, y3⟩ := HB0.out.bc
  go_upto_region 3 with fail
  have H0 := HB0
  go_region_held3 (fun w' => w'.cell? ⟨w.heap.size, 2, none⟩ = some (.slice (some ⟨g, off, none⟩) nh ch) ∧
      (w'.cell? ⟨g, off + k * 9, none⟩ = some (.string y.iss) ∧ w'.cell? ⟨g, off + k * 9 + 1, none⟩ = some (.string y.sch) ∧ w'.cell? ⟨g, off + k * 9 + 2, none⟩ = some (.int .i64 y.ver) ∧ w'.cell? ⟨g, off + k * 9 + 3, none⟩ = some (.slice A' y.att.length c') ∧ w'.cell? ⟨g, off + k * 9 + 4, none⟩ = some (.string y.a) ∧ w'.cell? ⟨g, off + k * 9 + 5, none⟩ = some (.string y.e) ∧ w'.cell? ⟨g, off + k * 9 + 6, none⟩ = some (.string y.v)) ∧
      (w'.cell? ⟨w.heap.size + 1, 0, none⟩ = some (.string x.iss) ∧ w'.cell? ⟨w.heap.size + 1, 1, none⟩ = some (.string x.sch) ∧ w'.cell? ⟨w.heap.size + 1, 2, none⟩ = some (.int .i64 x.ver) ∧ w'.cell? ⟨w.heap.size + 1, 3, none⟩ = some (.slice A n c) ∧ w'.cell? ⟨w.heap.size + 1, 4, none⟩ = some (.string x.a) ∧ w'.cell? ⟨w.heap.size + 1, 5, none⟩ = some (.string x.e) ∧ w'.cell? ⟨w.heap.size + 1, 6, none⟩ = some (.string x.v))) (first | exact HCC.out _ _ _ _ _ _ _ _ H0.out.bel H0.out | exact HCC.out _ _ _ _ _ _ _ _ H0.out.drew.bel H0.out.drew | go_keep) (first
    | (go_at_call 76; (first | (with_reducible refine (HSM.out _ H0.out.bel).mono ?_) | (with_reducible refine (HSM.out _ H0.out.drew.bel).mono ?_)); rintro o w1 ⟨rfl, hb1⟩; have n1 := (by first | exact H0.out.next hb1 | exact H0.out.drew.next hb1 : BxB w _ _ _ _ _ _ _ _ _ _ _ _ w1); replace H0 := Lib.hid n1; clear n1 hb1))
  all_goals
    clear x0 x1 x2 x3 y0 y1 y2 y3 HB0
    obtain ⟨⟨x0, x1, x2, x3⟩, y0, y1, y2, y3⟩ := H0.out.bc
    have z7 := cell_of_row w1 _ 7 _ _ _ H0.out.arg
    have z8 := HEP.out w1 H0.out.bel
    go_upto_region 5 with fail
    go_quiet ((fail))
    have H2 := Lib.hid (H0.out.next (below_drewN (Below.refl _ w1) nq))
    obtain ⟨w2, hw2⟩ : ∃ w2, w1.drewN nq = w2 := ⟨_, rfl⟩
    rw [hw2] at H2 ⊢
    clear hw2 x0 x1 x2 x3 y0 y1 y2 y3 z7 z8 H0
    have HZ := H2
    obtain ⟨⟨r0, r1, r2, r3⟩, g0, g1, g2, g3⟩ := HZ.out.rc
    go_wp2_with fail
    refine bodyPost_ret (v := .tuple #[.agg #[.string ⟨#[]⟩, .slice none 0 0, .slice none 0 0, .slice none 0 0], .int .i64 21]) (by simp [results, Tryz.results38, go_sem, r0, r1, r2, r3]) rfl ?_
    have hl : w.heap.size ≤ w.heap.size + 1 + 1 := by omega
    exact ⟨rfl, (((HZ.out.bel.setCell (p := ⟨w.heap.size + 1 + 1, 0, none⟩) hl _).setCell (p := ⟨w.heap.size + 1 + 1, 1, none⟩) hl _).setCell (p := ⟨w.heap.size + 1 + 1, 2, none⟩) hl _).setCell (p := ⟨w.heap.size + 1 + 1, 3, none⟩) hl _⟩
theorem r56_renew_ok (sec : ByteArray) (qs : List Az) (hs : List Hz) (us : List Uz) (Aa Ah Au : Option Addr) (na ca nh ch nu cu : Nat) (k : Nat) (y x : Hz) (A : Option Addr) (n c : Nat) (S : Nat → Prop) (w : World) (hq : qs.length = na) (hn : hs.length = nh) (hu : us.length = nu) (hma : na ≤ 100000) (hmh : nh ≤ 100000) (hmu : nu ≤ 100000) (hatt : ∀ x ∈ hs, x.att.length ≤ 100000) (hnx : x.att.length = n) (hmn : n ≤ 100000) (hy : hs[k]? = some y) (hsame : sameH y x = true) (hep : y.ep ≤ x.ep) (hrow : RowC w S A n (cellsN x.att)) (h : WalM w S qs hs us Aa Ah Au) (hS : ∀ g, S g → g < w.heap.size) :
    Calls Tryz.prog 38 #[.agg #[.string sec, .slice Aa na ca, .slice Ah nh ch, .slice Au nu cu], .int .i64 k, valH x A n c] w (ChS S w sec qs (hs.set k x) us) := by
  unfold valH
  have hkl := (List.getElem?_eq_some_iff.1 hy).1
  obtain ⟨g, off, A', c', rfl, hsg, hrowy, hcell⟩ := h.h.at_ hy
  have hay : y.att.length ≤ 100000 := hatt y (List.mem_of_getElem? hy)
  have HSM := Lib.hid (fun W (hb : Below w.heap.size w W) => r56_same y x A' A y.att.length n c' c S W rfl hnx hay (hrowy.keep (fun p hp => hb.cell (hS _ hp))) (hrow.keep (fun p hp => hb.cell (hS _ hp))) (fun g hg => Nat.lt_of_lt_of_le (hS g hg) hb.size))
  rw [hsame] at HSM
  simp only [valC] at HSM
  have HQ := Lib.hid (And.intro hq (And.intro hn hu))
  obtain ⟨Lh, hL1, hL2⟩ := h.h
  have HRH := Lib.hid (fun W (hb : Below w.heap.size w W) => RowC.reads (k := 9) (A := some ⟨g, off, none⟩) (n := nh) (L := Lh) (by rw [hn] at hL1; exact hL1) (by rw [hL2.length, hn]) hS hb)
  have HONE := Lib.hid hL2.one
  have HREL := Lib.hid hL2
  have HMM := Lib.hid (And.intro h (And.intro hS (And.intro hrow (And.intro hmh (List.getElem?_eq_some_iff.1 hy).1))))
  clear hL1 hL2
  have HKL := Lib.hid hkl
  have HNX := Lib.hid hnx
  have HB0 := Lib.hid (BxB.start (w := w) (sec := sec) (Aa := Aa) (na := na) (ca := ca) (Ah := some ⟨g, off, none⟩) (nh := nh) (ch := ch) (Au := Au) (nu := nu) (cu := cu) (cs := #[.string x.iss, .string x.sch, .int .i64 x.ver, .slice A n c, .string x.a, .string x.e, .string x.v, .int .i64 x.ep, .string x.wit]) (T := 47))
  have HCC : Hid (∀ W sec' Aa' na' ca' Au' nu' cu', Below w.heap.size w W → BxB w sec' Aa' na' ca' (some ⟨g, off, none⟩) nh ch Au' nu' cu' #[.string x.iss, .string x.sch, .int .i64 x.ver, .slice A n c, .string x.a, .string x.e, .string x.v, .int .i64 x.ep, .string x.wit] 47 W → W.cell? ⟨w.heap.size, 2, none⟩ = some (.slice (some ⟨g, off, none⟩) nh ch) ∧
      (W.cell? ⟨g, off + k * 9, none⟩ = some (.string y.iss) ∧ W.cell? ⟨g, off + k * 9 + 1, none⟩ = some (.string y.sch) ∧ W.cell? ⟨g, off + k * 9 + 2, none⟩ = some (.int .i64 y.ver) ∧ W.cell? ⟨g, off + k * 9 + 3, none⟩ = some (.slice A' y.att.length c') ∧ W.cell? ⟨g, off + k * 9 + 4, none⟩ = some (.string y.a) ∧ W.cell? ⟨g, off + k * 9 + 5, none⟩ = some (.string y.e) ∧ W.cell? ⟨g, off + k * 9 + 6, none⟩ = some (.string y.v)) ∧
      (W.cell? ⟨w.heap.size + 1, 0, none⟩ = some (.string x.iss) ∧ W.cell? ⟨w.heap.size + 1, 1, none⟩ = some (.string x.sch) ∧ W.cell? ⟨w.heap.size + 1, 2, none⟩ = some (.int .i64 x.ver) ∧ W.cell? ⟨w.heap.size + 1, 3, none⟩ = some (.slice A n c) ∧ W.cell? ⟨w.heap.size + 1, 4, none⟩ = some (.string x.a) ∧ W.cell? ⟨w.heap.size + 1, 5, none⟩ = some (.string x.e) ∧ W.cell? ⟨w.heap.size + 1, 6, none⟩ = some (.string x.v))) := Lib.hid (by
    intro W sec' Aa' na' ca' Au' nu' cu' hb hbx
    have hc : ∀ j u, (cellsH y A' c')[j]? = some u → W.cell? ⟨g, off + k * 9 + j, none⟩ = some u := fun j u hj => (hb.cell (hS _ hsg)).trans (hcell j u hj)
    exact ⟨hbx.bc.1.2.2.1, ⟨hc 0 _ rfl, hc 1 _ rfl, hc 2 _ rfl, hc 3 _ rfl, hc 4 _ rfl, hc 5 _ rfl, hc 6 _ rfl⟩, ⟨cell_of_row W _ 0 _ _ _ hbx.arg, cell_of_row W _ 1 _ _ _ hbx.arg, cell_of_row W _ 2 _ _ _ hbx.arg, cell_of_row W _ 3 _ _ _ hbx.arg, cell_of_row W _ 4 _ _ _ hbx.arg, cell_of_row W _ 5 _ _ _ hbx.arg, cell_of_row W _ 6 _ _ _ hbx.arg⟩⟩)
  have HEP : Hid (∀ W, Below w.heap.size w W → W.cell? ⟨g, off + k * 9 + 7, none⟩ = some (.int .i64 y.ep)) := Lib.hid (fun W hb => (hb.cell (hS _ hsg)).trans (hcell 7 _ rfl))
  have i1 : decide ((k : Int) < 0) = false := decide_eq_false (by omega)
  have i2 : decide ((nh : Int) ≤ (k : Int)) = false := decide_eq_false (by omega)
  have i3 : ((k : Int) < 0) = False := by simp
  have i4 : ((nh : Int) ≤ (k : Int)) = False := by simp; omega
  have i5 : (k : Int) < (nh : Int) := by omega
  have i6 : (0 : Int) ≤ (k : Int) := by omega
  have i7 : k < nh := by omega
  have e1 : decide (x.ep < y.ep) = false := decide_eq_false (by omega)
  have e2 : (x.ep < y.ep) = False := by simp; omega
  clear h hS hq hn hatt hma hmh hmu hu hrow hrowy hcell hsg hy hsame hep hay hmn hkl
  go_enter Tryz.func38, Tryz.ntmps38
  go_upto_region 1 with fail
  obtain ⟨w0, hw0⟩ : ∃ w0, (((w.alloc (.cells #[.string sec, .slice Aa na ca, .slice (some ⟨g, off, none⟩) nh ch, .slice Au nu cu] 27)).alloc (.cells #[.string x.iss, .string x.sch, .int .i64 x.ver, .slice A n c, .string x.a, .string x.e, .string x.v, .int .i64 x.ep, .string x.wit] 47)).alloc (.cells #[.string ⟨#[]⟩, .slice none 0 0, .slice none 0 0, .slice none 0 0] 27)) = w0 := ⟨_, rfl⟩
  rw [hw0] at HB0 ⊢
  clear hw0
  obtain ⟨⟨x0, x1, x2, x3⟩, y0, y1, y2, y3⟩ := HB0.out.bc
  go_upto_region 3 with fail
  have H0 := HB0
  go_region_held3 (fun w' => w'.cell? ⟨w.heap.size, 2, none⟩ = some (.slice (some ⟨g, off, none⟩) nh ch) ∧
      (w'.cell? ⟨g, off + k * 9, none⟩ = some (.string y.iss) ∧ w'.cell? ⟨g, off + k * 9 + 1, none⟩ = some (.string y.sch) ∧ w'.cell? ⟨g, off + k * 9 + 2, none⟩ = some (.int .i64 y.ver) ∧ w'.cell? ⟨g, off + k * 9 + 3, none⟩ = some (.slice A' y.att.length c') ∧ w'.cell? ⟨g, off + k * 9 + 4, none⟩ = some (.string y.a) ∧ w'.cell? ⟨g, off + k * 9 + 5, none⟩ = some (.string y.e) ∧ w'.cell? ⟨g, off + k * 9 + 6, none⟩ = some (.string y.v)) ∧
      (w'.cell? ⟨w.heap.size + 1, 0, none⟩ = some (.string x.iss) ∧ w'.cell? ⟨w.heap.size + 1, 1, none⟩ = some (.string x.sch) ∧ w'.cell? ⟨w.heap.size + 1, 2, none⟩ = some (.int .i64 x.ver) ∧ w'.cell? ⟨w.heap.size + 1, 3, none⟩ = some (.slice A n c) ∧ w'.cell? ⟨w.heap.size + 1, 4, none⟩ = some (.string x.a) ∧ w'.cell? ⟨w.heap.size + 1, 5, none⟩ = some (.string x.e) ∧ w'.cell? ⟨w.heap.size + 1, 6, none⟩ = some (.string x.v))) (first | exact HCC.out _ _ _ _ _ _ _ _ H0.out.bel H0.out | exact HCC.out _ _ _ _ _ _ _ _ H0.out.drew.bel H0.out.drew | go_keep) (first
    | (go_at_call 76; (first | (with_reducible refine (HSM.out _ H0.out.bel).mono ?_) | (with_reducible refine (HSM.out _ H0.out.drew.bel).mono ?_)); rintro o w1 ⟨rfl, hb1⟩; have n1 := (by first | exact H0.out.next hb1 | exact H0.out.drew.next hb1 : BxB w _ _ _ _ _ _ _ _ _ _ _ _ w1); replace H0 := Lib.hid n1; clear n1 hb1))
  all_goals
    clear x0 x1 x2 x3 y0 y1 y2 y3 HB0
    obtain ⟨⟨x0, x1, x2, x3⟩, y0, y1, y2, y3⟩ := H0.out.bc
    have z7 := cell_of_row w1 _ 7 _ _ _ H0.out.arg
    have z8 := HEP.out w1 H0.out.bel
    go_upto_region 5 with fail
    go_quiet ((fail))
    have H2 := Lib.hid (H0.out.next (below_drewN (Below.refl _ w1) nq))
    obtain ⟨w2, hw2⟩ : ∃ w2, w1.drewN nq = w2 := ⟨_, rfl⟩
    rw [hw2] at H2 ⊢
    clear hw2 x0 x1 x2 x3 y0 y1 y2 y3 z7 z8 H0
    obtain ⟨⟨x0, x1, x2, x3⟩, y0, y1, y2, y3⟩ := H2.out.bc
    obtain ⟨ti, hi, hz, hs1, hb1⟩ := infoE_H
    have HLL : Hid (Lh.length = nh * 9) := Lib.hid (by rw [HREL.out.length, HQ.out.2.1])
    have hmh := HMM.out.2.2.2.1
    go_upto_region 8 with fail
    go_wp2_with (at_builtin; go_loud (refine wpList_append_any _ rfl _ _ 24 rfl (w.heap.size + 3) 47 ti _ 9 136 Tryz.underlying24 hi hz hs1 hb1 rfl (by decide) (.slice none 0 0) 0 [] rfl (World.ownsRow_nil w2 _ _ _) _ (some ⟨g, off, none⟩) nh _ Lh rfl (HRH.out w2 H2.out.bel) HONE.out (by unfold maxLen; omega) (by omega) H2.out.size ?_))
    intro v' w4 hown hgrow hv
    obtain ⟨A4, c4, rfl⟩ := owns_shape hown
    have hb4 : Below w2.heap.size w2 w4 := below_grown hgrow (Nat.le_refl _) (fun g hg => by cases hg)
    have HB4 := Lib.hid (H2.out.next hb4)
    obtain ⟨g4, rfl⟩ : ∃ g4, A4 = some ⟨g4, 0, none⟩ := by
      rcases hown.2 with ⟨e, _⟩ | ⟨g4, cap, cur, e, _⟩
      · injection e with _ e; omega
      · injection e with e; exact ⟨g4, e⟩
    have HO4 := Lib.hid hown
    have HG4 : Hid (w.heap.size + 3 ≤ g4 ∧ g4 < w4.heap.size) := Lib.hid (hown.lt g4 rfl)
    have hcl : ∀ j, j < 9 → (∃ u, w4.cell? ⟨g4, k * 9 + j, none⟩ = some u) ∧ w4.frozen? ⟨g4, k * 9 + j, none⟩ = false := fun j hj => ⟨by
      rw [HO4.out.cellAt (k * 9 + j) (by omega)]
      exact ⟨Lh[k * 9 + j]'(by have := HLL.out; omega), List.getElem?_eq_getElem _⟩, HO4.out.frozenAt _⟩
    obtain ⟨⟨u0, t0⟩, f0⟩ := hcl 0 (by decide)
    obtain ⟨⟨u1, t1⟩, f1⟩ := hcl 1 (by decide)
    obtain ⟨⟨u2, t2⟩, f2⟩ := hcl 2 (by decide)
    obtain ⟨⟨u3, t3⟩, f3⟩ := hcl 3 (by decide)
    obtain ⟨⟨u4, t4⟩, f4⟩ := hcl 4 (by decide)
    obtain ⟨⟨u5, t5⟩, f5⟩ := hcl 5 (by decide)
    obtain ⟨⟨u6, t6⟩, f6⟩ := hcl 6 (by decide)
    obtain ⟨⟨u7, t7⟩, f7⟩ := hcl 7 (by decide)
    obtain ⟨⟨u8, t8⟩, f8⟩ := hcl 8 (by decide)
    rw [Nat.add_zero] at t0 f0
    clear x0 x1 x2 x3 y0 y1 y2 y3 hown hgrow hv hb4 hcl
    have z0 := cell_of_row w4 _ 0 _ _ _ HB4.out.arg
    have z1 := cell_of_row w4 _ 1 _ _ _ HB4.out.arg
    have z2 := cell_of_row w4 _ 2 _ _ _ HB4.out.arg
    have z3 := cell_of_row w4 _ 3 _ _ _ HB4.out.arg
    have z4 := cell_of_row w4 _ 4 _ _ _ HB4.out.arg
    have z5 := cell_of_row w4 _ 5 _ _ _ HB4.out.arg
    have z6 := cell_of_row w4 _ 6 _ _ _ HB4.out.arg
    have z7 := cell_of_row w4 _ 7 _ _ _ HB4.out.arg
    have z8 := cell_of_row w4 _ 8 _ _ _ HB4.out.arg
    go_upto_region 10 with fail
    have s0 := HO4.out.stored (k * 9) (.string x.iss)
    have s1 := s0.1.stored (k * 9 + 1) (.string x.sch)
    have s2 := s1.1.stored (k * 9 + 2) (.int .i64 x.ver)
    have s3 := s2.1.stored (k * 9 + 3) (.slice A n c)
    have s4 := s3.1.stored (k * 9 + 4) (.string x.a)
    have s5 := s4.1.stored (k * 9 + 5) (.string x.e)
    have s6 := s5.1.stored (k * 9 + 6) (.string x.v)
    have s7 := s6.1.stored (k * 9 + 7) (.int .i64 x.ep)
    have s8 := s7.1.stored (k * 9 + 8) (.string x.wit)
    have hg := (((((((s0.2.trans s1.2).trans s2.2).trans s3.2).trans s4.2).trans s5.2).trans s6.2).trans s7.2).trans s8.2
    have o := s8.1
    clear s0 s1 s2 s3 s4 s5 s6 s7 s8
    obtain ⟨w5, hw5⟩ : ∃ w5, ((((((((w4.setCell ⟨g4, k * 9, none⟩ (.string x.iss)).setCell ⟨g4, k * 9 + 1, none⟩ (.string x.sch)).setCell ⟨g4, k * 9 + 2, none⟩ (.int .i64 x.ver)).setCell ⟨g4, k * 9 + 3, none⟩ (.slice A n c)).setCell ⟨g4, k * 9 + 4, none⟩ (.string x.a)).setCell ⟨g4, k * 9 + 5, none⟩ (.string x.e)).setCell ⟨g4, k * 9 + 6, none⟩ (.string x.v)).setCell ⟨g4, k * 9 + 7, none⟩ (.int .i64 x.ep)).setCell ⟨g4, k * 9 + 8, none⟩ (.string x.wit) = w5 := ⟨_, rfl⟩
    rw [hw5] at o hg ⊢
    have HO5 := Lib.hid o
    have HB5 := Lib.hid (HB4.out.far (below_grown hg HB4.out.size (fun g' e => by injection e with e; subst e; exact HG4.out.1)))
    clear hw5 o hg u0 u1 u2 u3 u4 u5 u6 u7 u8 t0 t1 t2 t3 t4 t5 t6 t7 t8 f0 f1 f2 f3 f4 f5 f6 f7 f8 z0 z1 z2 z3 z4 z5 z6 z7 z8
    obtain ⟨⟨x0, x1, x2, x3⟩, y0, y1, y2, y3⟩ := HB5.out.bc
    obtain ⟨⟨r0, r1, r2, r3⟩, b0, b1, b2, b3⟩ := HB5.out.rc
    go_wp2_with fail
    have hl : w.heap.size ≤ w.heap.size + 1 + 1 := by omega
    refine bodyPost_ret (v := .tuple #[.agg #[.string sec, .slice Aa na ca, .slice (some ⟨g4, 0, none⟩) nh c4, .slice Au nu cu], .int .i64 0]) (by simp [results, Tryz.results38, go_sem, r0, r1, r2, r3]) rfl ?_
    have hbb : Below w.heap.size w _ := ((((HB5.out.bel.setCell (p := ⟨w.heap.size, 2, none⟩) (Nat.le_refl _) (.slice (some ⟨g4, 0, none⟩) nh c4)).setCell (p := ⟨w.heap.size + 1 + 1, 0, none⟩) hl (.string sec)).setCell (p := ⟨w.heap.size + 1 + 1, 1, none⟩) hl (.slice Aa na ca)).setCell (p := ⟨w.heap.size + 1 + 1, 2, none⟩) hl (.slice (some ⟨g4, 0, none⟩) nh c4)).setCell (p := ⟨w.heap.size + 1 + 1, 3, none⟩) hl (.slice Au nu cu)
    refine ⟨Aa, na, ca, some ⟨g4, 0, none⟩, nh, c4, Au, nu, cu, rfl, HQ.out.1.symm, by rw [List.length_set]; exact HQ.out.2.1.symm, HQ.out.2.2.symm, walM_h (wx := w5) HMM.out.1 HMM.out.2.1 HMM.out.2.2.1 HNX.out HREL.out HMM.out.2.2.2.2 HO5.out HQ.out.2.1 hbb ?_ (by simp), hbb⟩
    intro p hp
    have hcell : ∀ (W : World) (g i : Nat) (u : Value), g < w.heap.size + 3 → (W.setCell ⟨g, i, none⟩ u).cell? p = W.cell? p := fun W g i u hg => World.cell?_setCell_other _ _ _ _ (fun e => by have := congrArg Addr.block e; simp at this; omega)
    rw [hcell _ _ _ _ (by omega), hcell _ _ _ _ (by omega), hcell _ _ _ _ (by omega), hcell _ _ _ _ (by omega), hcell _ _ _ _ (by omega)]
end Go.Proofs.YtjhlddlocpkhkaaGreat
