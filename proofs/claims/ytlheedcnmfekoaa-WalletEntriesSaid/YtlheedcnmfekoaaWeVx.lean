/- Wallet: renew's errors; printed by genVx.py. -/
import Derived.Test.YtlheedcnmfekoaaWeJ20
namespace Go.Proofs.Ytlheedcnmfekoaa
open Go.RowKit
set_option maxRecDepth 100000
set_option linter.unusedVariables false
set_option maxHeartbeats 8000000
theorem wal_renew_other (sec : ByteArray) (qs : List Az) (hs : List Hz) (us : List Uz) (Aa Ah Au : Option Addr) (na ca nh ch nu cu : Nat) (k : Nat) (y x : Hz) (A : Option Addr) (n c : Nat) (S : Nat → Prop) (w : World) (hq : qs.length = na) (hn : hs.length = nh) (hu : us.length = nu) (hma : na ≤ 100000) (hmh : nh ≤ 100000) (hmu : nu ≤ 100000) (hatt : ∀ x ∈ hs, x.att.length ≤ 100000) (hnx : x.att.length = n) (hmn : n ≤ 100000) (hy : hs[k]? = some y) (hsame : sameH y x = false) (hrow : RowC w S A n (cellsN x.att)) (h : WalM w S qs hs us Aa Ah Au) (hS : ∀ g, S g → g < w.heap.size) :
    Calls Try.prog 47 #[.agg #[.string sec, .slice Aa na ca, .slice Ah nh ch, .slice Au nu cu], .int .i64 k, valH x A n c] w (ChErr w 1) := by
  unfold valH
  have hkl := (List.getElem?_eq_some_iff.1 hy).1
  obtain ⟨g, off, A', c', rfl, hsg, hrowy, hcell⟩ := h.h.at_ hy
  have hay : y.att.length ≤ 100000 := hatt y (List.mem_of_getElem? hy)
  have HSM := Lib.hid (fun W (hb : Below w.heap.size w W) => wal_same y x A' A y.att.length n c' c S W rfl hnx hay (hrowy.keep (fun p hp => hb.cell (hS _ hp))) (hrow.keep (fun p hp => hb.cell (hS _ hp))) (fun g hg => Nat.lt_of_lt_of_le (hS g hg) hb.size))
  rw [hsame] at HSM
  simp only [valC] at HSM
  have HC := Lib.hid (fun W (hb : Below w.heap.size w W) => wal_copied sec qs hs us Aa _ Au na ca nh ch nu cu S W hq hn hu hma hmh hmu hatt (h.keep (fun q hq => hb.cell (hS _ hq))) (fun g hg => Nat.lt_of_lt_of_le (hS g hg) hb.size))
  have HCL := Lib.hid (fun W (hb : Below w.heap.size w W) => cloneR_N (cellsN x.att) A n c S W (by unfold cellsN; rw [List.length_map, hnx, Nat.mul_one]) (by intro u hu; unfold cellsN at hu; obtain ⟨z, _, rfl⟩ := List.mem_map.mp hu; rfl) hmn (hrow.keep (fun p hp => hb.cell (hS _ hp))) (fun g hg => Nat.lt_of_lt_of_le (hS g hg) hb.size))
  have HQ := Lib.hid (And.intro hq (And.intro hn hu))
  have HKL := Lib.hid hkl
  have HNX := Lib.hid hnx
  have HB0 := Lib.hid (BxB.start (w := w) (sec := sec) (Aa := Aa) (na := na) (ca := ca) (Ah := some ⟨g, off, none⟩) (nh := nh) (ch := ch) (Au := Au) (nu := nu) (cu := cu) (cs := #[.string x.iss, .string x.sch, .int .i64 x.ver, .slice A n c, .string x.a, .string x.e, .string x.v, .int .i64 x.ep, .string x.wit]) (T := 44))
  have HCC : Hid (∀ W sec' Aa' na' ca' Au' nu' cu', Below w.heap.size w W → BxB w sec' Aa' na' ca' (some ⟨g, off, none⟩) nh ch Au' nu' cu' #[.string x.iss, .string x.sch, .int .i64 x.ver, .slice A n c, .string x.a, .string x.e, .string x.v, .int .i64 x.ep, .string x.wit] 44 W → W.cell? ⟨w.heap.size, 2, none⟩ = some (.slice (some ⟨g, off, none⟩) nh ch) ∧
      (W.cell? ⟨g, off + k * 9, none⟩ = some (.string y.iss) ∧ W.cell? ⟨g, off + k * 9 + 1, none⟩ = some (.string y.sch) ∧ W.cell? ⟨g, off + k * 9 + 2, none⟩ = some (.int .i64 y.ver) ∧ W.cell? ⟨g, off + k * 9 + 3, none⟩ = some (.slice A' y.att.length c') ∧ W.cell? ⟨g, off + k * 9 + 4, none⟩ = some (.string y.a) ∧ W.cell? ⟨g, off + k * 9 + 5, none⟩ = some (.string y.e) ∧ W.cell? ⟨g, off + k * 9 + 6, none⟩ = some (.string y.v)) ∧
      (W.cell? ⟨w.heap.size + 1, 0, none⟩ = some (.string x.iss) ∧ W.cell? ⟨w.heap.size + 1, 1, none⟩ = some (.string x.sch) ∧ W.cell? ⟨w.heap.size + 1, 2, none⟩ = some (.int .i64 x.ver) ∧ W.cell? ⟨w.heap.size + 1, 3, none⟩ = some (.slice A n c) ∧ W.cell? ⟨w.heap.size + 1, 4, none⟩ = some (.string x.a) ∧ W.cell? ⟨w.heap.size + 1, 5, none⟩ = some (.string x.e) ∧ W.cell? ⟨w.heap.size + 1, 6, none⟩ = some (.string x.v))) := Lib.hid (by
    intro W sec' Aa' na' ca' Au' nu' cu' hb hbx
    have hc : ∀ j u, (cellsH y A' c')[j]? = some u → W.cell? ⟨g, off + k * 9 + j, none⟩ = some u := fun j u hj => (hb.cell (hS _ hsg)).trans (hcell j u hj)
    exact ⟨hbx.bc.1.2.2.1, ⟨hc 0 _ rfl, hc 1 _ rfl, hc 2 _ rfl, hc 3 _ rfl, hc 4 _ rfl, hc 5 _ rfl, hc 6 _ rfl⟩, ⟨cell_of_row W _ 0 _ _ _ hbx.arg, cell_of_row W _ 1 _ _ _ hbx.arg, cell_of_row W _ 2 _ _ _ hbx.arg, cell_of_row W _ 3 _ _ _ hbx.arg, cell_of_row W _ 4 _ _ _ hbx.arg, cell_of_row W _ 5 _ _ _ hbx.arg, cell_of_row W _ 6 _ _ _ hbx.arg⟩⟩)
  have HEP : Hid (∀ W, Below w.heap.size w W → W.cell? ⟨g, off + k * 9 + 7, none⟩ = some (.int .i64 y.ep)) := Lib.hid (fun W hb => (hb.cell (hS _ hsg)).trans (hcell 7 _ rfl))
  have i1 : decide ((k : Int) < 0) = false := decide_eq_false (by omega)
  have i2 : decide ((nh : Int) ≤ (k : Int)) = false := decide_eq_false (by omega)
  have i3 : ((k : Int) < 0) = False := by simp
  have i4 : ((nh : Int) ≤ (k : Int)) = False := by simp; omega
  have i5 : (k : Int) < (nh : Int) := by omega
  have i6 : (0 : Int) ≤ (k : Int) := by omega
  have i7 : k < nh := by omega
  clear h hS hq hn hatt hma hmh hmu hu hrow hrowy hcell hsg hy hsame hay hmn hkl
  go_enter Try.func47, Try.ntmps47
  go_upto_region 1 with fail
  obtain ⟨w0, hw0⟩ : ∃ w0, (((w.alloc (.cells #[.string sec, .slice Aa na ca, .slice (some ⟨g, off, none⟩) nh ch, .slice Au nu cu] 28)).alloc (.cells #[.string x.iss, .string x.sch, .int .i64 x.ver, .slice A n c, .string x.a, .string x.e, .string x.v, .int .i64 x.ep, .string x.wit] 44)).alloc (.cells #[.string ⟨#[]⟩, .slice none 0 0, .slice none 0 0, .slice none 0 0] 28)) = w0 := ⟨_, rfl⟩
  rw [hw0] at HB0 ⊢
  clear hw0
  obtain ⟨⟨x0, x1, x2, x3⟩, y0, y1, y2, y3⟩ := HB0.out.bc
  go_upto_region 3 with fail
  have H0 := HB0
  go_region_held3 (fun w' => w'.cell? ⟨w.heap.size, 2, none⟩ = some (.slice (some ⟨g, off, none⟩) nh ch) ∧
      (w'.cell? ⟨g, off + k * 9, none⟩ = some (.string y.iss) ∧ w'.cell? ⟨g, off + k * 9 + 1, none⟩ = some (.string y.sch) ∧ w'.cell? ⟨g, off + k * 9 + 2, none⟩ = some (.int .i64 y.ver) ∧ w'.cell? ⟨g, off + k * 9 + 3, none⟩ = some (.slice A' y.att.length c') ∧ w'.cell? ⟨g, off + k * 9 + 4, none⟩ = some (.string y.a) ∧ w'.cell? ⟨g, off + k * 9 + 5, none⟩ = some (.string y.e) ∧ w'.cell? ⟨g, off + k * 9 + 6, none⟩ = some (.string y.v)) ∧
      (w'.cell? ⟨w.heap.size + 1, 0, none⟩ = some (.string x.iss) ∧ w'.cell? ⟨w.heap.size + 1, 1, none⟩ = some (.string x.sch) ∧ w'.cell? ⟨w.heap.size + 1, 2, none⟩ = some (.int .i64 x.ver) ∧ w'.cell? ⟨w.heap.size + 1, 3, none⟩ = some (.slice A n c) ∧ w'.cell? ⟨w.heap.size + 1, 4, none⟩ = some (.string x.a) ∧ w'.cell? ⟨w.heap.size + 1, 5, none⟩ = some (.string x.e) ∧ w'.cell? ⟨w.heap.size + 1, 6, none⟩ = some (.string x.v))) (first | exact HCC.out _ _ _ _ _ _ _ _ H0.out.bel H0.out | exact HCC.out _ _ _ _ _ _ _ _ H0.out.drew.bel H0.out.drew | go_keep) (first
    | (go_at_call 75; (first | (with_reducible refine (HSM.out _ H0.out.bel).mono ?_) | (with_reducible refine (HSM.out _ H0.out.drew.bel).mono ?_)); rintro o w1 ⟨rfl, hb1⟩; have n1 := (by first | exact H0.out.next hb1 | exact H0.out.drew.next hb1 : BxB w _ _ _ _ _ _ _ _ _ _ _ _ w1); replace H0 := Lib.hid n1; clear n1 hb1))
  all_goals
    have HZ := H0
    obtain ⟨⟨r0, r1, r2, r3⟩, g0, g1, g2, g3⟩ := HZ.out.rc
    go_wp2_with fail
    refine bodyPost_ret (v := .tuple #[.agg #[.string ⟨#[]⟩, .slice none 0 0, .slice none 0 0, .slice none 0 0], .int .i64 1]) (by simp [results, Try.results47, go_sem, r0, r1, r2, r3]) rfl ?_
    have hl : w.heap.size ≤ w.heap.size + 1 + 1 := by omega
    exact ⟨rfl, (((HZ.out.bel.setCell (p := ⟨w.heap.size + 1 + 1, 0, none⟩) hl _).setCell (p := ⟨w.heap.size + 1 + 1, 1, none⟩) hl _).setCell (p := ⟨w.heap.size + 1 + 1, 2, none⟩) hl _).setCell (p := ⟨w.heap.size + 1 + 1, 3, none⟩) hl _⟩
theorem wal_renew_epoch (sec : ByteArray) (qs : List Az) (hs : List Hz) (us : List Uz) (Aa Ah Au : Option Addr) (na ca nh ch nu cu : Nat) (k : Nat) (y x : Hz) (A : Option Addr) (n c : Nat) (S : Nat → Prop) (w : World) (hq : qs.length = na) (hn : hs.length = nh) (hu : us.length = nu) (hma : na ≤ 100000) (hmh : nh ≤ 100000) (hmu : nu ≤ 100000) (hatt : ∀ x ∈ hs, x.att.length ≤ 100000) (hnx : x.att.length = n) (hmn : n ≤ 100000) (hy : hs[k]? = some y) (hsame : sameH y x = true) (hep : x.ep < y.ep) (hrow : RowC w S A n (cellsN x.att)) (h : WalM w S qs hs us Aa Ah Au) (hS : ∀ g, S g → g < w.heap.size) :
    Calls Try.prog 47 #[.agg #[.string sec, .slice Aa na ca, .slice Ah nh ch, .slice Au nu cu], .int .i64 k, valH x A n c] w (ChErr w 21) := by
  unfold valH
  have hkl := (List.getElem?_eq_some_iff.1 hy).1
  obtain ⟨g, off, A', c', rfl, hsg, hrowy, hcell⟩ := h.h.at_ hy
  have hay : y.att.length ≤ 100000 := hatt y (List.mem_of_getElem? hy)
  have HSM := Lib.hid (fun W (hb : Below w.heap.size w W) => wal_same y x A' A y.att.length n c' c S W rfl hnx hay (hrowy.keep (fun p hp => hb.cell (hS _ hp))) (hrow.keep (fun p hp => hb.cell (hS _ hp))) (fun g hg => Nat.lt_of_lt_of_le (hS g hg) hb.size))
  rw [hsame] at HSM
  simp only [valC] at HSM
  have HC := Lib.hid (fun W (hb : Below w.heap.size w W) => wal_copied sec qs hs us Aa _ Au na ca nh ch nu cu S W hq hn hu hma hmh hmu hatt (h.keep (fun q hq => hb.cell (hS _ hq))) (fun g hg => Nat.lt_of_lt_of_le (hS g hg) hb.size))
  have HCL := Lib.hid (fun W (hb : Below w.heap.size w W) => cloneR_N (cellsN x.att) A n c S W (by unfold cellsN; rw [List.length_map, hnx, Nat.mul_one]) (by intro u hu; unfold cellsN at hu; obtain ⟨z, _, rfl⟩ := List.mem_map.mp hu; rfl) hmn (hrow.keep (fun p hp => hb.cell (hS _ hp))) (fun g hg => Nat.lt_of_lt_of_le (hS g hg) hb.size))
  have HQ := Lib.hid (And.intro hq (And.intro hn hu))
  have HKL := Lib.hid hkl
  have HNX := Lib.hid hnx
  have HB0 := Lib.hid (BxB.start (w := w) (sec := sec) (Aa := Aa) (na := na) (ca := ca) (Ah := some ⟨g, off, none⟩) (nh := nh) (ch := ch) (Au := Au) (nu := nu) (cu := cu) (cs := #[.string x.iss, .string x.sch, .int .i64 x.ver, .slice A n c, .string x.a, .string x.e, .string x.v, .int .i64 x.ep, .string x.wit]) (T := 44))
  have HCC : Hid (∀ W sec' Aa' na' ca' Au' nu' cu', Below w.heap.size w W → BxB w sec' Aa' na' ca' (some ⟨g, off, none⟩) nh ch Au' nu' cu' #[.string x.iss, .string x.sch, .int .i64 x.ver, .slice A n c, .string x.a, .string x.e, .string x.v, .int .i64 x.ep, .string x.wit] 44 W → W.cell? ⟨w.heap.size, 2, none⟩ = some (.slice (some ⟨g, off, none⟩) nh ch) ∧
      (W.cell? ⟨g, off + k * 9, none⟩ = some (.string y.iss) ∧ W.cell? ⟨g, off + k * 9 + 1, none⟩ = some (.string y.sch) ∧ W.cell? ⟨g, off + k * 9 + 2, none⟩ = some (.int .i64 y.ver) ∧ W.cell? ⟨g, off + k * 9 + 3, none⟩ = some (.slice A' y.att.length c') ∧ W.cell? ⟨g, off + k * 9 + 4, none⟩ = some (.string y.a) ∧ W.cell? ⟨g, off + k * 9 + 5, none⟩ = some (.string y.e) ∧ W.cell? ⟨g, off + k * 9 + 6, none⟩ = some (.string y.v)) ∧
      (W.cell? ⟨w.heap.size + 1, 0, none⟩ = some (.string x.iss) ∧ W.cell? ⟨w.heap.size + 1, 1, none⟩ = some (.string x.sch) ∧ W.cell? ⟨w.heap.size + 1, 2, none⟩ = some (.int .i64 x.ver) ∧ W.cell? ⟨w.heap.size + 1, 3, none⟩ = some (.slice A n c) ∧ W.cell? ⟨w.heap.size + 1, 4, none⟩ = some (.string x.a) ∧ W.cell? ⟨w.heap.size + 1, 5, none⟩ = some (.string x.e) ∧ W.cell? ⟨w.heap.size + 1, 6, none⟩ = some (.string x.v))) := Lib.hid (by
    intro W sec' Aa' na' ca' Au' nu' cu' hb hbx
    have hc : ∀ j u, (cellsH y A' c')[j]? = some u → W.cell? ⟨g, off + k * 9 + j, none⟩ = some u := fun j u hj => (hb.cell (hS _ hsg)).trans (hcell j u hj)
    exact ⟨hbx.bc.1.2.2.1, ⟨hc 0 _ rfl, hc 1 _ rfl, hc 2 _ rfl, hc 3 _ rfl, hc 4 _ rfl, hc 5 _ rfl, hc 6 _ rfl⟩, ⟨cell_of_row W _ 0 _ _ _ hbx.arg, cell_of_row W _ 1 _ _ _ hbx.arg, cell_of_row W _ 2 _ _ _ hbx.arg, cell_of_row W _ 3 _ _ _ hbx.arg, cell_of_row W _ 4 _ _ _ hbx.arg, cell_of_row W _ 5 _ _ _ hbx.arg, cell_of_row W _ 6 _ _ _ hbx.arg⟩⟩)
  have HEP : Hid (∀ W, Below w.heap.size w W → W.cell? ⟨g, off + k * 9 + 7, none⟩ = some (.int .i64 y.ep)) := Lib.hid (fun W hb => (hb.cell (hS _ hsg)).trans (hcell 7 _ rfl))
  have i1 : decide ((k : Int) < 0) = false := decide_eq_false (by omega)
  have i2 : decide ((nh : Int) ≤ (k : Int)) = false := decide_eq_false (by omega)
  have i3 : ((k : Int) < 0) = False := by simp
  have i4 : ((nh : Int) ≤ (k : Int)) = False := by simp; omega
  have i5 : (k : Int) < (nh : Int) := by omega
  have i6 : (0 : Int) ≤ (k : Int) := by omega
  have i7 : k < nh := by omega
  have e1 : decide (x.ep < y.ep) = true := decide_eq_true (by omega)
  have e2 : (x.ep < y.ep) = True := by simp; omega
  clear h hS hq hn hatt hma hmh hmu hu hrow hrowy hcell hsg hy hsame hep hay hmn hkl
  go_enter Try.func47, Try.ntmps47
  go_upto_region 1 with fail
  obtain ⟨w0, hw0⟩ : ∃ w0, (((w.alloc (.cells #[.string sec, .slice Aa na ca, .slice (some ⟨g, off, none⟩) nh ch, .slice Au nu cu] 28)).alloc (.cells #[.string x.iss, .string x.sch, .int .i64 x.ver, .slice A n c, .string x.a, .string x.e, .string x.v, .int .i64 x.ep, .string x.wit] 44)).alloc (.cells #[.string ⟨#[]⟩, .slice none 0 0, .slice none 0 0, .slice none 0 0] 28)) = w0 := ⟨_, rfl⟩
  rw [hw0] at HB0 ⊢
  clear hw0
  obtain ⟨⟨x0, x1, x2, x3⟩, y0, y1, y2, y3⟩ := HB0.out.bc
  go_upto_region 3 with fail
  have H0 := HB0
  go_region_held3 (fun w' => w'.cell? ⟨w.heap.size, 2, none⟩ = some (.slice (some ⟨g, off, none⟩) nh ch) ∧
      (w'.cell? ⟨g, off + k * 9, none⟩ = some (.string y.iss) ∧ w'.cell? ⟨g, off + k * 9 + 1, none⟩ = some (.string y.sch) ∧ w'.cell? ⟨g, off + k * 9 + 2, none⟩ = some (.int .i64 y.ver) ∧ w'.cell? ⟨g, off + k * 9 + 3, none⟩ = some (.slice A' y.att.length c') ∧ w'.cell? ⟨g, off + k * 9 + 4, none⟩ = some (.string y.a) ∧ w'.cell? ⟨g, off + k * 9 + 5, none⟩ = some (.string y.e) ∧ w'.cell? ⟨g, off + k * 9 + 6, none⟩ = some (.string y.v)) ∧
      (w'.cell? ⟨w.heap.size + 1, 0, none⟩ = some (.string x.iss) ∧ w'.cell? ⟨w.heap.size + 1, 1, none⟩ = some (.string x.sch) ∧ w'.cell? ⟨w.heap.size + 1, 2, none⟩ = some (.int .i64 x.ver) ∧ w'.cell? ⟨w.heap.size + 1, 3, none⟩ = some (.slice A n c) ∧ w'.cell? ⟨w.heap.size + 1, 4, none⟩ = some (.string x.a) ∧ w'.cell? ⟨w.heap.size + 1, 5, none⟩ = some (.string x.e) ∧ w'.cell? ⟨w.heap.size + 1, 6, none⟩ = some (.string x.v))) (first | exact HCC.out _ _ _ _ _ _ _ _ H0.out.bel H0.out | exact HCC.out _ _ _ _ _ _ _ _ H0.out.drew.bel H0.out.drew | go_keep) (first
    | (go_at_call 75; (first | (with_reducible refine (HSM.out _ H0.out.bel).mono ?_) | (with_reducible refine (HSM.out _ H0.out.drew.bel).mono ?_)); rintro o w1 ⟨rfl, hb1⟩; have n1 := (by first | exact H0.out.next hb1 | exact H0.out.drew.next hb1 : BxB w _ _ _ _ _ _ _ _ _ _ _ _ w1); replace H0 := Lib.hid n1; clear n1 hb1))
  all_goals
    clear x0 x1 x2 x3 y0 y1 y2 y3 HB0
    obtain ⟨⟨x0, x1, x2, x3⟩, y0, y1, y2, y3⟩ := H0.out.bc
    have z7 := cell_of_row w1 _ 7 _ _ _ H0.out.arg
    have z8 := HEP.out w1 H0.out.bel
    go_upto_region 5 with fail
    go_quiet ((fail))
    have H2 := Lib.hid (H0.out.next (below_drewN (Below.refl _ w1) nq))
    obtain ⟨w2, hw2⟩ : ∃ w2, w1.drewN nq = w2 := ⟨_, rfl⟩
    rw [hw2] at H2 ⊢
    clear hw2 x0 x1 x2 x3 y0 y1 y2 y3 z7 z8 H0
    have HZ := H2
    obtain ⟨⟨r0, r1, r2, r3⟩, g0, g1, g2, g3⟩ := HZ.out.rc
    go_wp2_with fail
    refine bodyPost_ret (v := .tuple #[.agg #[.string ⟨#[]⟩, .slice none 0 0, .slice none 0 0, .slice none 0 0], .int .i64 21]) (by simp [results, Try.results47, go_sem, r0, r1, r2, r3]) rfl ?_
    have hl : w.heap.size ≤ w.heap.size + 1 + 1 := by omega
    exact ⟨rfl, (((HZ.out.bel.setCell (p := ⟨w.heap.size + 1 + 1, 0, none⟩) hl _).setCell (p := ⟨w.heap.size + 1 + 1, 1, none⟩) hl _).setCell (p := ⟨w.heap.size + 1 + 1, 2, none⟩) hl _).setCell (p := ⟨w.heap.size + 1 + 1, 3, none⟩) hl _⟩
theorem wal_renew_range (sec : ByteArray) (Aa Ah Au : Option Addr) (na ca nh ch nu cu : Nat) (k : Int) (x : Hz) (A : Option Addr) (n c : Nat) (w : World) (hk : k < 0 ∨ (nh : Int) ≤ k) :
    Calls Try.prog 47 #[.agg #[.string sec, .slice Aa na ca, .slice Ah nh ch, .slice Au nu cu], .int .i64 k, valH x A n c] w (ChErr w 2) := by
  unfold valH
  have HB0 := Lib.hid (BxB.start (w := w) (sec := sec) (Aa := Aa) (na := na) (ca := ca) (Ah := Ah) (nh := nh) (ch := ch) (Au := Au) (nu := nu) (cu := cu) (cs := #[.string x.iss, .string x.sch, .int .i64 x.ver, .slice A n c, .string x.a, .string x.e, .string x.v, .int .i64 x.ep, .string x.wit]) (T := 44))
  go_enter Try.func47, Try.ntmps47
  go_upto_region 1 with fail
  obtain ⟨w0, hw0⟩ : ∃ w0, (((w.alloc (.cells #[.string sec, .slice Aa na ca, .slice Ah nh ch, .slice Au nu cu] 28)).alloc (.cells #[.string x.iss, .string x.sch, .int .i64 x.ver, .slice A n c, .string x.a, .string x.e, .string x.v, .int .i64 x.ep, .string x.wit] 44)).alloc (.cells #[.string ⟨#[]⟩, .slice none 0 0, .slice none 0 0, .slice none 0 0] 28)) = w0 := ⟨_, rfl⟩
  rw [hw0] at HB0 ⊢
  clear hw0
  have HZ := HB0
  obtain ⟨⟨x0, x1, x2, x3⟩, y0, y1, y2, y3⟩ := HB0.out.bc
  by_cases h0 : k < 0
  · have i1 : decide (k < 0) = true := decide_eq_true h0
    have i3 : (k < 0) = True := by simp; exact h0
    obtain ⟨⟨r0, r1, r2, r3⟩, g0, g1, g2, g3⟩ := HZ.out.rc
    go_wp2_with fail
    refine bodyPost_ret (v := .tuple #[.agg #[.string ⟨#[]⟩, .slice none 0 0, .slice none 0 0, .slice none 0 0], .int .i64 2]) (by simp [results, Try.results47, go_sem, r0, r1, r2, r3]) rfl ?_
    have hl : w.heap.size ≤ w.heap.size + 1 + 1 := by omega
    exact ⟨rfl, (((HZ.out.bel.setCell (p := ⟨w.heap.size + 1 + 1, 0, none⟩) hl _).setCell (p := ⟨w.heap.size + 1 + 1, 1, none⟩) hl _).setCell (p := ⟨w.heap.size + 1 + 1, 2, none⟩) hl _).setCell (p := ⟨w.heap.size + 1 + 1, 3, none⟩) hl _⟩
  · have hk2 : (nh : Int) ≤ k := by omega
    have i1 : decide (k < 0) = false := decide_eq_false h0
    have i3 : (k < 0) = False := by simp; omega
    have i2 : decide ((nh : Int) ≤ k) = true := decide_eq_true hk2
    have i4 : ((nh : Int) ≤ k) = True := by simp; exact hk2
    obtain ⟨⟨r0, r1, r2, r3⟩, g0, g1, g2, g3⟩ := HZ.out.rc
    go_wp2_with fail
    refine bodyPost_ret (v := .tuple #[.agg #[.string ⟨#[]⟩, .slice none 0 0, .slice none 0 0, .slice none 0 0], .int .i64 2]) (by simp [results, Try.results47, go_sem, r0, r1, r2, r3]) rfl ?_
    have hl : w.heap.size ≤ w.heap.size + 1 + 1 := by omega
    exact ⟨rfl, (((HZ.out.bel.setCell (p := ⟨w.heap.size + 1 + 1, 0, none⟩) hl _).setCell (p := ⟨w.heap.size + 1 + 1, 1, none⟩) hl _).setCell (p := ⟨w.heap.size + 1 + 1, 2, none⟩) hl _).setCell (p := ⟨w.heap.size + 1 + 1, 3, none⟩) hl _⟩
end Go.Proofs.Ytlheedcnmfekoaa
