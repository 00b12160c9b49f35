/- Wallet: renew where it goes well. Wallet: renew's errors; printed by genVx.py. Wallet: store where no request has the nonce. Wallet: slices.Delete of one request out of a row of the call's own. -/
import Derived.Test.YtjhlddlocpkhkaaGreatWhJ24
import Derived.Test.YtjhlddlocpkhkaaGreatWhJ15
import Derived.Test.YtjhlddlocpkhkaaGreatWhJ06
namespace Go.Proofs.YtjhlddlocpkhkaaGreat
open Go.RowKit
set_option maxRecDepth 100000
set_option linter.unusedVariables false
set_option maxHeartbeats 8000000
theorem BxB.argp {w wx : World} {sec : ByteArray} {Aa : Option Addr} {na ca : Nat} {Ah : Option Addr} {nh ch : Nat} {Au : Option Addr} {nu cu : Nat} {cs : Array Value} {T : TypeId} (h : BxB w sec Aa na ca Ah nh ch Au nu cu cs T wx) (i : Nat) (v : Value) (cs' : Array Value) (e : cs.set! i v = cs') : BxB w sec Aa na ca Ah nh ch Au nu cu cs' T (wx.setCell ⟨w.heap.size + 1, i, none⟩ v) := by
  subst e
  exact ⟨(heap_setCell_other _ _ _ _ (show w.heap.size ≠ w.heap.size + 1 by omega)).trans h.box, heap_setCell_same wx (w.heap.size + 1) i _ _ _ h.arg, (heap_setCell_other _ _ _ _ (show w.heap.size + 1 + 1 ≠ w.heap.size + 1 by omega)).trans h.res, h.bel.setCell (p := ⟨w.heap.size + 1, i, none⟩) (Nat.le_succ _) _, by simpa using h.size⟩
theorem OwnW.hat {w : World} {base : Nat} {qs : List Az} {hs : List Hz} {us : List Uz} {vA vU : Value} {g n cap k : Nat} (h : OwnW w base qs hs us vA (.slice (some ⟨g, 0, none⟩) n cap) vU) (hn : hs.length = n) (hk : k < n) (j : Nat) (hj : j < 9) : (∃ u, w.cell? ⟨g, k * 9 + j, none⟩ = some u) ∧ w.frozen? ⟨g, k * 9 + j, none⟩ = false := by
  subst hn
  obtain ⟨L, h1, h2⟩ := h.h
  have hl := h2.length
  exact ⟨⟨L[k * 9 + j]'(by omega), (h1.cellAt (k * 9 + j) (by omega)).trans (List.getElem?_eq_getElem _)⟩, h1.frozenAt _⟩
theorem wal_renew_ok (sec : ByteArray) (qs : List Az) (hs : List Hz) (us : List Uz) (Aa Ah Au : Option Addr) (na ca nh ch nu cu : Nat) (k : Nat) (y x : Hz) (A : Option Addr) (n c : Nat) (S : Nat → Prop) (w : World) (hq : qs.length = na) (hn : hs.length = nh) (hu : us.length = nu) (hma : na ≤ 100000) (hmh : nh ≤ 100000) (hmu : nu ≤ 100000) (hatt : ∀ x ∈ hs, x.att.length ≤ 100000) (hnx : x.att.length = n) (hmn : n ≤ 100000) (hy : hs[k]? = some y) (hsame : sameH y x = true) (hep : y.ep ≤ x.ep) (hrow : RowC w S A n (cellsN x.att)) (h : WalM w S qs hs us Aa Ah Au) (hS : ∀ g, S g → g < w.heap.size) :
    Calls Tryz.prog 65 #[.agg #[.string sec, .slice Aa na ca, .slice Ah nh ch, .slice Au nu cu], .int .i64 k, valH x A n c] w (ChGot w sec qs (hs.set k x) us) := by
  unfold valH
  have hkl := (List.getElem?_eq_some_iff.1 hy).1
  obtain ⟨g, off, A', c', rfl, hsg, hrowy, hcell⟩ := h.h.at_ hy
  have hay : y.att.length ≤ 100000 := hatt y (List.mem_of_getElem? hy)
  have HSM := Lib.hid (fun W (hb : Below w.heap.size w W) => wal_same y x A' A y.att.length n c' c S W rfl hnx hay (hrowy.keep (fun p hp => hb.cell (hS _ hp))) (hrow.keep (fun p hp => hb.cell (hS _ hp))) (fun g hg => Nat.lt_of_lt_of_le (hS g hg) hb.size))
  rw [hsame] at HSM
  simp only [valC] at HSM
  have HC := Lib.hid (fun W (hb : Below w.heap.size w W) => wal_copied sec qs hs us Aa _ Au na ca nh ch nu cu S W hq hn hu hma hmh hmu hatt (h.keep (fun q hq => hb.cell (hS _ hq))) (fun g hg => Nat.lt_of_lt_of_le (hS g hg) hb.size))
  have HCL := Lib.hid (fun W (hb : Below w.heap.size w W) => cloneR_N (cellsN x.att) A n c S W (by unfold cellsN; rw [List.length_map, hnx, Nat.mul_one]) (by intro u hu; unfold cellsN at hu; obtain ⟨z, _, rfl⟩ := List.mem_map.mp hu; rfl) hmn (hrow.keep (fun p hp => hb.cell (hS _ hp))) (fun g hg => Nat.lt_of_lt_of_le (hS g hg) hb.size))
  have HQ := Lib.hid (And.intro hq (And.intro hn hu))
  have HKL := Lib.hid hkl
  have HNX := Lib.hid hnx
  have HB0 := Lib.hid (BxB.start (w := w) (sec := sec) (Aa := Aa) (na := na) (ca := ca) (Ah := some ⟨g, off, none⟩) (nh := nh) (ch := ch) (Au := Au) (nu := nu) (cu := cu) (cs := #[.string x.iss, .string x.sch, .int .i64 x.ver, .slice A n c, .string x.a, .string x.e, .string x.v, .int .i64 x.ep, .string x.wit]) (T := 47))
  have HCC : Hid (∀ W sec' Aa' na' ca' Au' nu' cu', Below w.heap.size w W → BxB w sec' Aa' na' ca' (some ⟨g, off, none⟩) nh ch Au' nu' cu' #[.string x.iss, .string x.sch, .int .i64 x.ver, .slice A n c, .string x.a, .string x.e, .string x.v, .int .i64 x.ep, .string x.wit] 47 W → W.cell? ⟨w.heap.size, 2, none⟩ = some (.slice (some ⟨g, off, none⟩) nh ch) ∧
      (W.cell? ⟨g, off + k * 9, none⟩ = some (.string y.iss) ∧ W.cell? ⟨g, off + k * 9 + 1, none⟩ = some (.string y.sch) ∧ W.cell? ⟨g, off + k * 9 + 2, none⟩ = some (.int .i64 y.ver) ∧ W.cell? ⟨g, off + k * 9 + 3, none⟩ = some (.slice A' y.att.length c') ∧ W.cell? ⟨g, off + k * 9 + 4, none⟩ = some (.string y.a) ∧ W.cell? ⟨g, off + k * 9 + 5, none⟩ = some (.string y.e) ∧ W.cell? ⟨g, off + k * 9 + 6, none⟩ = some (.string y.v)) ∧
      (W.cell? ⟨w.heap.size + 1, 0, none⟩ = some (.string x.iss) ∧ W.cell? ⟨w.heap.size + 1, 1, none⟩ = some (.string x.sch) ∧ W.cell? ⟨w.heap.size + 1, 2, none⟩ = some (.int .i64 x.ver) ∧ W.cell? ⟨w.heap.size + 1, 3, none⟩ = some (.slice A n c) ∧ W.cell? ⟨w.heap.size + 1, 4, none⟩ = some (.string x.a) ∧ W.cell? ⟨w.heap.size + 1, 5, none⟩ = some (.string x.e) ∧ W.cell? ⟨w.heap.size + 1, 6, none⟩ = some (.string x.v))) := Lib.hid (by
    intro W sec' Aa' na' ca' Au' nu' cu' hb hbx
    have hc : ∀ j u, (cellsH y A' c')[j]? = some u → W.cell? ⟨g, off + k * 9 + j, none⟩ = some u := fun j u hj => (hb.cell (hS _ hsg)).trans (hcell j u hj)
    exact ⟨hbx.bc.1.2.2.1, ⟨hc 0 _ rfl, hc 1 _ rfl, hc 2 _ rfl, hc 3 _ rfl, hc 4 _ rfl, hc 5 _ rfl, hc 6 _ rfl⟩, ⟨cell_of_row W _ 0 _ _ _ hbx.arg, cell_of_row W _ 1 _ _ _ hbx.arg, cell_of_row W _ 2 _ _ _ hbx.arg, cell_of_row W _ 3 _ _ _ hbx.arg, cell_of_row W _ 4 _ _ _ hbx.arg, cell_of_row W _ 5 _ _ _ hbx.arg, cell_of_row W _ 6 _ _ _ hbx.arg⟩⟩)
  have HEP : Hid (∀ W, Below w.heap.size w W → W.cell? ⟨g, off + k * 9 + 7, none⟩ = some (.int .i64 y.ep)) := Lib.hid (fun W hb => (hb.cell (hS _ hsg)).trans (hcell 7 _ rfl))
  have i1 : decide ((k : Int) < 0) = false := decide_eq_false (by omega)
  have i2 : decide ((nh : Int) ≤ (k : Int)) = false := decide_eq_false (by omega)
  have i3 : ((k : Int) < 0) = False := by simp
  have i4 : ((nh : Int) ≤ (k : Int)) = False := by simp; omega
  have i5 : (k : Int) < (nh : Int) := by omega
  have i6 : (0 : Int) ≤ (k : Int) := by omega
  have i7 : k < nh := by omega
  have e1 : decide (x.ep < y.ep) = false := decide_eq_false (by omega)
  have e2 : (x.ep < y.ep) = False := by simp; omega
  clear h hS hq hn hatt hma hmh hmu hu hrow hrowy hcell hsg hy hsame hep hay hmn hkl
  go_enter Tryz.func65, Tryz.ntmps65
  go_upto_region 1 with fail
  obtain ⟨w0, hw0⟩ : ∃ w0, (((w.alloc (.cells #[.string sec, .slice Aa na ca, .slice (some ⟨g, off, none⟩) nh ch, .slice Au nu cu] 27)).alloc (.cells #[.string x.iss, .string x.sch, .int .i64 x.ver, .slice A n c, .string x.a, .string x.e, .string x.v, .int .i64 x.ep, .string x.wit] 47)).alloc (.cells #[.string ⟨#[]⟩, .slice none 0 0, .slice none 0 0, .slice none 0 0] 27)) = w0 := ⟨_, rfl⟩
  rw [hw0] at HB0 ⊢
  clear hw0
  obtain ⟨⟨x0, x1, x2, x3⟩, y0, y1, y2, y3⟩ := HB0.out.bc
  go_upto_region 3 with fail
  have H0 := HB0
  go_region_held3 (fun w' => w'.cell? ⟨w.heap.size, 2, none⟩ = some (.slice (some ⟨g, off, none⟩) nh ch) ∧
      (w'.cell? ⟨g, off + k * 9, none⟩ = some (.string y.iss) ∧ w'.cell? ⟨g, off + k * 9 + 1, none⟩ = some (.string y.sch) ∧ w'.cell? ⟨g, off + k * 9 + 2, none⟩ = some (.int .i64 y.ver) ∧ w'.cell? ⟨g, off + k * 9 + 3, none⟩ = some (.slice A' y.att.length c') ∧ w'.cell? ⟨g, off + k * 9 + 4, none⟩ = some (.string y.a) ∧ w'.cell? ⟨g, off + k * 9 + 5, none⟩ = some (.string y.e) ∧ w'.cell? ⟨g, off + k * 9 + 6, none⟩ = some (.string y.v)) ∧
      (w'.cell? ⟨w.heap.size + 1, 0, none⟩ = some (.string x.iss) ∧ w'.cell? ⟨w.heap.size + 1, 1, none⟩ = some (.string x.sch) ∧ w'.cell? ⟨w.heap.size + 1, 2, none⟩ = some (.int .i64 x.ver) ∧ w'.cell? ⟨w.heap.size + 1, 3, none⟩ = some (.slice A n c) ∧ w'.cell? ⟨w.heap.size + 1, 4, none⟩ = some (.string x.a) ∧ w'.cell? ⟨w.heap.size + 1, 5, none⟩ = some (.string x.e) ∧ w'.cell? ⟨w.heap.size + 1, 6, none⟩ = some (.string x.v))) (first | exact HCC.out _ _ _ _ _ _ _ _ H0.out.bel H0.out | exact HCC.out _ _ _ _ _ _ _ _ H0.out.drew.bel H0.out.drew | go_keep) (first
    | (go_at_call 101; (first | (with_reducible refine (HSM.out _ H0.out.bel).mono ?_) | (with_reducible refine (HSM.out _ H0.out.drew.bel).mono ?_)); rintro o w1 ⟨rfl, hb1⟩; have n1 := (by first | exact H0.out.next hb1 | exact H0.out.drew.next hb1 : BxB w _ _ _ _ _ _ _ _ _ _ _ _ w1); replace H0 := Lib.hid n1; clear n1 hb1))
  all_goals
    clear x0 x1 x2 x3 y0 y1 y2 y3 HB0
    obtain ⟨⟨x0, x1, x2, x3⟩, y0, y1, y2, y3⟩ := H0.out.bc
    have z7 := cell_of_row w1 _ 7 _ _ _ H0.out.arg
    have z8 := HEP.out w1 H0.out.bel
    go_upto_region 5 with fail
    go_quiet ((fail))
    have H2 := Lib.hid (H0.out.next (below_drewN (Below.refl _ w1) nq))
    obtain ⟨w2, hw2⟩ : ∃ w2, w1.drewN nq = w2 := ⟨_, rfl⟩
    rw [hw2] at H2 ⊢
    clear hw2 x0 x1 x2 x3 y0 y1 y2 y3 z7 z8 H0
    obtain ⟨⟨x0, x1, x2, x3⟩, y0, y1, y2, y3⟩ := H2.out.bc
    go_upto_region 7 with fail
    go_upto_region 8 with (go_at_call 67; (with_reducible refine (HC.out _ H2.out.bel).mono ?_); rintro e w3 ⟨A1, c1, A2, c2, A3, c3, rfl, how, hb3⟩; have HB3 := Lib.hid (H2.out.next hb3); have HO3 := Lib.hid how; obtain ⟨⟨x0, x1, x2, x3⟩, y0, y1, y2, y3⟩ := HB3.out.bc; clear how hb3)
    have HB4 := Lib.hid (HB3.out.put (A1 := A1) (n1 := na) (c1 := c1) (A2 := A2) (n2 := nh) (c2 := c2) (A3 := A3) (n3 := nu) (c3 := c3) sec)
    have HO4 : Hid (OwnW ((((w3.setCell ⟨w.heap.size, 0, none⟩ (.string sec)).setCell ⟨w.heap.size, 1, none⟩ (.slice A1 na c1)).setCell ⟨w.heap.size, 2, none⟩ (.slice A2 nh c2)).setCell ⟨w.heap.size, 3, none⟩ (.slice A3 nu c3)) (w.heap.size + 3) qs hs us (.slice A1 na c1) (.slice A2 nh c2) (.slice A3 nu c3)) := Lib.hid ((((((HO3.out.mono H2.out.size).set (a := ⟨w.heap.size, 0, none⟩) (by simp) _).set (a := ⟨w.heap.size, 1, none⟩) (by simp) _).set (a := ⟨w.heap.size, 2, none⟩) (by simp) _).set (a := ⟨w.heap.size, 3, none⟩) (by simp) _))
    clear x0 x1 x2 x3 y0 y1 y2 y3
    obtain ⟨w4, hw4⟩ : ∃ w4, ((((w3.setCell ⟨w.heap.size, 0, none⟩ (.string sec)).setCell ⟨w.heap.size, 1, none⟩ (.slice A1 na c1)).setCell ⟨w.heap.size, 2, none⟩ (.slice A2 nh c2)).setCell ⟨w.heap.size, 3, none⟩ (.slice A3 nu c3)) = w4 := ⟨_, rfl⟩
    rw [hw4] at HB4 HO4 ⊢
    clear hw4 HB3 HO3 H2
    have z3 := cell_of_row w4 _ 3 _ _ _ HB4.out.arg
    go_upto_region 9 with (go_at_call 102; (with_reducible refine (HCL.out _ HB4.out.bel).mono ?_); rintro e w5 ⟨v5, rfl, how, hb5⟩; obtain ⟨A5, c5, rfl⟩ := owns_shape how; have HB5 := Lib.hid (HB4.out.next hb5); have HO5 := Lib.hid (HO4.out.next hb5); have HR5 := Lib.hid how; have HBL := Lib.hid hb5; have q3 := cell_of_row w5 _ 3 _ _ _ HB5.out.arg; have f3 := frozen_of_row w5 _ 3 _ _ HB5.out.arg; clear how hb5)
    have HB6 := Lib.hid (HB5.out.argp 3 (.slice A5 n c5) #[.string x.iss, .string x.sch, .int .i64 x.ver, .slice A5 n c5, .string x.a, .string x.e, .string x.v, .int .i64 x.ep, .string x.wit] rfl)
    have HO6 := Lib.hid (HO5.out.set (a := ⟨w.heap.size + 1, 3, none⟩) (by simp) (.slice A5 n c5))
    obtain ⟨w6, hw6⟩ : ∃ w6, w5.setCell ⟨w.heap.size + 1, 3, none⟩ (.slice A5 n c5) = w6 := ⟨_, rfl⟩
    have HR6 : Hid (RowC w6 (fun k => w4.heap.size ≤ k ∧ k < w6.heap.size) A5 x.att.length (cellsN x.att)) := Lib.hid (by
      rw [← hw6, HNX.out]
      have h5 : OwnS w5 w4.heap.size (.slice A5 n c5) n x.att := ⟨HNX.out, HR5.out⟩
      exact (h5.rowC.keep (fun p hp => World.cell?_setCell_other _ _ _ _ (fun e => by have := congrArg Addr.block e; have := hp.1; have := HB4.out.size; simp at *; omega))).mono (fun k hk => ⟨hk.1, by simpa using hk.2⟩))
    rw [hw6] at HB6 HO6 ⊢
    clear hw6 z3 q3 f3
    have HR7 : Hid (RowC w6 (fun b => w.heap.size + 3 ≤ b ∧ b < w6.heap.size ∧ (Value.slice A1 na c1).ownBlock ≠ some b ∧ (Value.slice A2 nh c2).ownBlock ≠ some b ∧ (Value.slice A3 nu c3).ownBlock ≠ some b) A5 x.att.length (cellsN x.att)) := Lib.hid (HR6.out.mono (fun b hb => by
      have hz := HB4.out.size
      obtain ⟨L, h1, _⟩ := HO4.out.h
      refine ⟨by have := hb.1; omega, hb.2, fun e => ?_, fun e => ?_, fun e => ?_⟩
      · have := (HO4.out.a.lt b e).2; have := hb.1; omega
      · have := (h1.lt b e).2; have := hb.1; omega
      · have := (HO4.out.u.lt b e).2; have := hb.1; omega))
    obtain ⟨g2, rfl⟩ : ∃ g2, A2 = some ⟨g2, 0, none⟩ := by
      obtain ⟨L, h1, _⟩ := HO6.out.h
      rcases h1.2 with ⟨_, h0⟩ | ⟨g, cap, cur, hv, _⟩
      · have := HKL.out; omega
      · injection hv with h1; exact ⟨g, h1⟩
    have hat := HO6.out.hat HQ.out.2.1 i7
    have HG2 : Hid (w.heap.size + 3 ≤ g2) := Lib.hid (by obtain ⟨L, h1, _⟩ := HO6.out.h; exact (h1.lt g2 rfl).1)
    obtain ⟨u0, m0⟩ : ∃ u, w6.cell? ⟨g2, k * 9, none⟩ = some u := (hat 0 (by decide)).1
    have f0 : w6.frozen? ⟨g2, k * 9, none⟩ = false := (hat 0 (by decide)).2
    have z0 := cell_of_row w6 _ 0 _ _ _ HB6.out.arg
    obtain ⟨u1, m1⟩ : ∃ u, w6.cell? ⟨g2, k * 9 + 1, none⟩ = some u := (hat 1 (by decide)).1
    have f1 : w6.frozen? ⟨g2, k * 9 + 1, none⟩ = false := (hat 1 (by decide)).2
    have z1 := cell_of_row w6 _ 1 _ _ _ HB6.out.arg
    obtain ⟨u2, m2⟩ : ∃ u, w6.cell? ⟨g2, k * 9 + 2, none⟩ = some u := (hat 2 (by decide)).1
    have f2 : w6.frozen? ⟨g2, k * 9 + 2, none⟩ = false := (hat 2 (by decide)).2
    have z2 := cell_of_row w6 _ 2 _ _ _ HB6.out.arg
    obtain ⟨u3, m3⟩ : ∃ u, w6.cell? ⟨g2, k * 9 + 3, none⟩ = some u := (hat 3 (by decide)).1
    have f3 : w6.frozen? ⟨g2, k * 9 + 3, none⟩ = false := (hat 3 (by decide)).2
    have z3 := cell_of_row w6 _ 3 _ _ _ HB6.out.arg
    obtain ⟨u4, m4⟩ : ∃ u, w6.cell? ⟨g2, k * 9 + 4, none⟩ = some u := (hat 4 (by decide)).1
    have f4 : w6.frozen? ⟨g2, k * 9 + 4, none⟩ = false := (hat 4 (by decide)).2
    have z4 := cell_of_row w6 _ 4 _ _ _ HB6.out.arg
    obtain ⟨u5, m5⟩ : ∃ u, w6.cell? ⟨g2, k * 9 + 5, none⟩ = some u := (hat 5 (by decide)).1
    have f5 : w6.frozen? ⟨g2, k * 9 + 5, none⟩ = false := (hat 5 (by decide)).2
    have z5 := cell_of_row w6 _ 5 _ _ _ HB6.out.arg
    obtain ⟨u6, m6⟩ : ∃ u, w6.cell? ⟨g2, k * 9 + 6, none⟩ = some u := (hat 6 (by decide)).1
    have f6 : w6.frozen? ⟨g2, k * 9 + 6, none⟩ = false := (hat 6 (by decide)).2
    have z6 := cell_of_row w6 _ 6 _ _ _ HB6.out.arg
    obtain ⟨u7, m7⟩ : ∃ u, w6.cell? ⟨g2, k * 9 + 7, none⟩ = some u := (hat 7 (by decide)).1
    have f7 : w6.frozen? ⟨g2, k * 9 + 7, none⟩ = false := (hat 7 (by decide)).2
    have z7 := cell_of_row w6 _ 7 _ _ _ HB6.out.arg
    obtain ⟨u8, m8⟩ : ∃ u, w6.cell? ⟨g2, k * 9 + 8, none⟩ = some u := (hat 8 (by decide)).1
    have f8 : w6.frozen? ⟨g2, k * 9 + 8, none⟩ = false := (hat 8 (by decide)).2
    have z8 := cell_of_row w6 _ 8 _ _ _ HB6.out.arg
    clear hat
    obtain ⟨⟨x0, x1, x2, x3⟩, y0, y1, y2, y3⟩ := HB6.out.bc
    go_upto_region 10 with fail
    have HBF : Hid (Below (w.heap.size + 3) w6 (((((((((w6.setCell ⟨g2, k * 9, none⟩ (.string x.iss)).setCell ⟨g2, k * 9 + 1, none⟩ (.string x.sch)).setCell ⟨g2, k * 9 + 2, none⟩ (.int .i64 x.ver)).setCell ⟨g2, k * 9 + 3, none⟩ (.slice A5 n c5)).setCell ⟨g2, k * 9 + 4, none⟩ (.string x.a)).setCell ⟨g2, k * 9 + 5, none⟩ (.string x.e)).setCell ⟨g2, k * 9 + 6, none⟩ (.string x.v)).setCell ⟨g2, k * 9 + 7, none⟩ (.int .i64 x.ep)).setCell ⟨g2, k * 9 + 8, none⟩ (.string x.wit))) := Lib.hid (((((((((((Below.refl (w.heap.size + 3) w6).setCell (p := ⟨g2, k * 9, none⟩) HG2.out _).setCell (p := ⟨g2, k * 9 + 1, none⟩) HG2.out _).setCell (p := ⟨g2, k * 9 + 2, none⟩) HG2.out _).setCell (p := ⟨g2, k * 9 + 3, none⟩) HG2.out _).setCell (p := ⟨g2, k * 9 + 4, none⟩) HG2.out _).setCell (p := ⟨g2, k * 9 + 5, none⟩) HG2.out _).setCell (p := ⟨g2, k * 9 + 6, none⟩) HG2.out _).setCell (p := ⟨g2, k * 9 + 7, none⟩) HG2.out _).setCell (p := ⟨g2, k * 9 + 8, none⟩) HG2.out _))
    have HB7 := Lib.hid (HB6.out.far HBF.out)
    have hset : ∀ w', w' = (((((((((w6.setCell ⟨g2, k * 9, none⟩ (.string x.iss)).setCell ⟨g2, k * 9 + 1, none⟩ (.string x.sch)).setCell ⟨g2, k * 9 + 2, none⟩ (.int .i64 x.ver)).setCell ⟨g2, k * 9 + 3, none⟩ (.slice A5 n c5)).setCell ⟨g2, k * 9 + 4, none⟩ (.string x.a)).setCell ⟨g2, k * 9 + 5, none⟩ (.string x.e)).setCell ⟨g2, k * 9 + 6, none⟩ (.string x.v)).setCell ⟨g2, k * 9 + 7, none⟩ (.int .i64 x.ep)).setCell ⟨g2, k * 9 + 8, none⟩ (.string x.wit)) → OwnW w' (w.heap.size + 3) qs (hs.set k x) us (.slice A1 na c1) (.slice (some ⟨g2, 0, none⟩) nh c2) (.slice A3 nu c3) := fun w' hw => HO6.out.setH HQ.out.2.1 HKL.out (c := c5) HR7.out (by rw [HNX.out]; exact hw)
    have HO7 := Lib.hid (hset _ rfl)
    clear hset
    obtain ⟨w7, hw7⟩ : ∃ w7, (((((((((w6.setCell ⟨g2, k * 9, none⟩ (.string x.iss)).setCell ⟨g2, k * 9 + 1, none⟩ (.string x.sch)).setCell ⟨g2, k * 9 + 2, none⟩ (.int .i64 x.ver)).setCell ⟨g2, k * 9 + 3, none⟩ (.slice A5 n c5)).setCell ⟨g2, k * 9 + 4, none⟩ (.string x.a)).setCell ⟨g2, k * 9 + 5, none⟩ (.string x.e)).setCell ⟨g2, k * 9 + 6, none⟩ (.string x.v)).setCell ⟨g2, k * 9 + 7, none⟩ (.int .i64 x.ep)).setCell ⟨g2, k * 9 + 8, none⟩ (.string x.wit)) = w7 := ⟨_, rfl⟩
    rw [hw7] at HB7 HO7 ⊢
    clear hw7 x0 x1 x2 x3 y0 y1 y2 y3 m0 f0 z0 m1 f1 z1 m2 f2 z2 m3 f3 z3 m4 f4 z4 m5 f5 z5 m6 f6 z6 m7 f7 z7 m8 f8 z8
    obtain ⟨⟨x0, x1, x2, x3⟩, y0, y1, y2, y3⟩ := HB7.out.bc
    obtain ⟨⟨r0, r1, r2, r3⟩, g0, g1, g2', g3⟩ := HB7.out.rc
    go_wp2_with fail
    have HF := HB7.out.fin HO7.out HQ.out.1 (by rw [List.length_set]; exact HQ.out.2.1) HQ.out.2.2 (.string sec) (.slice A1 na c1) (.slice (some ⟨g2, 0, none⟩) nh c2) (.slice A3 nu c3)
    refine bodyPost_ret (v := .tuple #[.agg #[.string sec, .slice A1 na c1, .slice (some ⟨g2, 0, none⟩) nh c2, .slice A3 nu c3], .int .i64 0]) (by simp [results, Tryz.results65, go_sem, r0, r1, r2, r3]) rfl ?_
    exact ⟨A1, na, c1, some ⟨g2, 0, none⟩, nh, c2, A3, nu, c3, rfl, HQ.out.1.symm, by rw [List.length_set]; exact HQ.out.2.1.symm, HQ.out.2.2.symm, HF.1, HF.2⟩
theorem wal_renew_other (sec : ByteArray) (qs : List Az) (hs : List Hz) (us : List Uz) (Aa Ah Au : Option Addr) (na ca nh ch nu cu : Nat) (k : Nat) (y x : Hz) (A : Option Addr) (n c : Nat) (S : Nat → Prop) (w : World) (hq : qs.length = na) (hn : hs.length = nh) (hu : us.length = nu) (hma : na ≤ 100000) (hmh : nh ≤ 100000) (hmu : nu ≤ 100000) (hatt : ∀ x ∈ hs, x.att.length ≤ 100000) (hnx : x.att.length = n) (hmn : n ≤ 100000) (hy : hs[k]? = some y) (hsame : sameH y x = false) (hrow : RowC w S A n (cellsN x.att)) (h : WalM w S qs hs us Aa Ah Au) (hS : ∀ g, S g → g < w.heap.size) :
    Calls Tryz.prog 65 #[.agg #[.string sec, .slice Aa na ca, .slice Ah nh ch, .slice Au nu cu], .int .i64 k, valH x A n c] w (ChErr w 1) := by
  unfold valH
  have hkl := (List.getElem?_eq_some_iff.1 hy).1
  obtain ⟨g, off, A', c', rfl, hsg, hrowy, hcell⟩ := h.h.at_ hy
  have hay : y.att.length ≤ 100000 := hatt y (List.mem_of_getElem? hy)
  have HSM := Lib.hid (fun W (hb : Below w.heap.size w W) => wal_same y x A' A y.att.length n c' c S W rfl hnx hay (hrowy.keep (fun p hp => hb.cell (hS _ hp))) (hrow.keep (fun p hp => hb.cell (hS _ hp))) (fun g hg => Nat.lt_of_lt_of_le (hS g hg) hb.size))
  rw [hsame] at HSM
  simp only [valC] at HSM
  have HC := Lib.hid (fun W (hb : Below w.heap.size w W) => wal_copied sec qs hs us Aa _ Au na ca nh ch nu cu S W hq hn hu hma hmh hmu hatt (h.keep (fun q hq => hb.cell (hS _ hq))) (fun g hg => Nat.lt_of_lt_of_le (hS g hg) hb.size))
  have HCL := Lib.hid (fun W (hb : Below w.heap.size w W) => cloneR_N (cellsN x.att) A n c S W (by unfold cellsN; rw [List.length_map, hnx, Nat.mul_one]) (by intro u hu; unfold cellsN at hu; obtain ⟨z, _, rfl⟩ := List.mem_map.mp hu; rfl) hmn (hrow.keep (fun p hp => hb.cell (hS _ hp))) (fun g hg => Nat.lt_of_lt_of_le (hS g hg) hb.size))
  have HQ := Lib.hid (And.intro hq (And.intro hn hu))
  have HKL := Lib.hid hkl
  have HNX := Lib.hid hnx
  have HB0 := Lib.hid (BxB.start (w := w) (sec := sec) (Aa := Aa) (na := na) (ca := ca) (Ah := some ⟨g, off, none⟩) (nh := nh) (ch := ch) (Au := Au) (nu := nu) (cu := cu) (cs := #[.string x.iss, .string x.sch, .int .i64 x.ver, .slice A n c, .string x.a, .string x.e, .string x.v, .int .i64 x.ep, .string x.wit]) (T := 47))
  have HCC : Hid (∀ W sec' Aa' na' ca' Au' nu' cu', Below w.heap.size w W → BxB w sec' Aa' na' ca' (some ⟨g, off, none⟩) nh ch Au' nu' cu' #[.string x.iss, .string x.sch, .int .i64 x.ver, .slice A n c, .string x.a, .string x.e, .string x.v, .int .i64 x.ep, .string x.wit] 47 W → W.cell? ⟨w.heap.size, 2, none⟩ = some (.slice (some ⟨g, off, none⟩) nh ch) ∧
      (W.cell? ⟨g, off + k * 9, none⟩ = some (.string y.iss) ∧ W.cell? ⟨g, off + k * 9 + 1, none⟩ = some (.string y.sch) ∧ W.cell? ⟨g, off + k * 9 + 2, none⟩ = some (.int .i64 y.ver) ∧ W.cell? ⟨g, off + k * 9 + 3, none⟩ = some (.slice A' y.att.length c') ∧ W.cell? ⟨g, off + k * 9 + 4, none⟩ = some (.string y.a) ∧ W.cell? ⟨g, off + k * 9 + 5, none⟩ = some (.string y.e) ∧ W.cell? ⟨g, off + k * 9 + 6, none⟩ = some (.string y.v)) ∧
      (W.cell? ⟨w.heap.size + 1, 0, none⟩ = some (.string x.iss) ∧ W.cell? ⟨w.heap.size + 1, 1, none⟩ = some (.string x.sch) ∧ W.cell? ⟨w.heap.size + 1, 2, none⟩ = some (.int .i64 x.ver) ∧ W.cell? ⟨w.heap.size + 1, 3, none⟩ = some (.slice A n c) ∧ W.cell? ⟨w.heap.size + 1, 4, none⟩ = some (.string x.a) ∧ W.cell? ⟨w.heap.size + 1, 5, none⟩ = some (.string x.e) ∧ W.cell? ⟨w.heap.size + 1, 6, none⟩ = some (.string x.v))) := Lib.hid (by
    intro W sec' Aa' na' ca' Au' nu' cu' hb hbx
    have hc : ∀ j u, (cellsH y A' c')[j]? = some u → W.cell? ⟨g, off + k * 9 + j, none⟩ = some u := fun j u hj => (hb.cell (hS _ hsg)).trans (hcell j u hj)
    exact ⟨hbx.bc.1.2.2.1, ⟨hc 0 _ rfl, hc 1 _ rfl, hc 2 _ rfl, hc 3 _ rfl, hc 4 _ rfl, hc 5 _ rfl, hc 6 _ rfl⟩, ⟨cell_of_row W _ 0 _ _ _ hbx.arg, cell_of_row W _ 1 _ _ _ hbx.arg, cell_of_row W _ 2 _ _ _ hbx.arg, cell_of_row W _ 3 _ _ _ hbx.arg, cell_of_row W _ 4 _ _ _ hbx.arg, cell_of_row W _ 5 _ _ _ hbx.arg, cell_of_row W _ 6 _ _ _ hbx.arg⟩⟩)
  have HEP : Hid (∀ W, Below w.heap.size w W → W.cell? ⟨g, off + k * 9 + 7, none⟩ = some (.int .i64 y.ep)) := Lib.hid (fun W hb => (hb.cell (hS _ hsg)).trans (hcell 7 _ rfl))
  have i1 : decide ((k : Int) < 0) = false := decide_eq_false (by omega)
  have i2 : decide ((nh : Int) ≤ (k : Int)) = false := decide_eq_false (by omega)
  have i3 : ((k : Int) < 0) = False := by simp
  have i4 : ((nh : Int) ≤ (k : Int)) = False := by simp; omega
  have i5 : (k : Int) < (nh : Int) := by omega
  have i6 : (0 : Int) ≤ (k : Int) := by omega
  have i7 : k < nh := by omega
  clear h hS hq hn hatt hma hmh hmu hu hrow hrowy hcell hsg hy hsame hay hmn hkl
  go_enter Tryz.func65, Tryz.ntmps65
  go_upto_region 1 with fail
  obtain ⟨w0, hw0⟩ : ∃ w0, (((w.alloc (.cells #[.string sec, .slice Aa na ca, .slice (some ⟨g, off, none⟩) nh ch, .slice Au nu cu] 27)).alloc (.cells #[.string x.iss, .string x.sch, .int .i64 x.ver, .slice A n c, .string x.a, .string x.e, .string x.v, .int .i64 x.ep, .string x.wit] 47)).alloc (.cells #[.string ⟨#[]⟩, .slice none 0 0, .slice none 0 0, .slice none 0 0] 27)) = w0 := ⟨_, rfl⟩
  rw [hw0] at HB0 ⊢
  clear hw0
  obtain ⟨⟨x0, x1, x2, x3⟩, y0, y1, y2, y3⟩ := HB0.out.bc
  go_upto_region 3 with fail
  have H0 := HB0
  go_region_held3 (fun w' => w'.cell? ⟨w.heap.size, 2, none⟩ = some (.slice (some ⟨g, off, none⟩) nh ch) ∧
      (w'.cell? ⟨g, off + k * 9, none⟩ = some (.string y.iss) ∧ w'.cell? ⟨g, off + k * 9 + 1, none⟩ = some (.string y.sch) ∧ w'.cell? ⟨g, off + k * 9 + 2, none⟩ = some (.int .i64 y.ver) ∧ w'.cell? ⟨g, off + k * 9 + 3, none⟩ = some (.slice A' y.att.length c') ∧ w'.cell? ⟨g, off + k * 9 + 4, none⟩ = some (.string y.a) ∧ w'.cell? ⟨g, off + k * 9 + 5, none⟩ = some (.string y.e) ∧ w'.cell? ⟨g, off + k * 9 + 6, none⟩ = some (.string y.v)) ∧
      (w'.cell? ⟨w.heap.size + 1, 0, none⟩ = some (.string x.iss) ∧ w'.cell? ⟨w.heap.size + 1, 1, none⟩ = some (.string x.sch) ∧ w'.cell? ⟨w.heap.size + 1, 2, none⟩ = some (.int .i64 x.ver) ∧ w'.cell? ⟨w.heap.size + 1, 3, none⟩ = some (.slice A n c) ∧ w'.cell? ⟨w.heap.size + 1, 4, none⟩ = some (.string x.a) ∧ w'.cell? ⟨w.heap.size + 1, 5, none⟩ = some (.string x.e) ∧ w'.cell? ⟨w.heap.size + 1, 6, none⟩ = some (.string x.v))) (first | exact HCC.out _ _ _ _ _ _ _ _ H0.out.bel H0.out | exact HCC.out _ _ _ _ _ _ _ _ H0.out.drew.bel H0.out.drew | go_keep) (first
    | (go_at_call 101; (first | (with_reducible refine (HSM.out _ H0.out.bel).mono ?_) | (with_reducible refine (HSM.out _ H0.out.drew.bel).mono ?_)); rintro o w1 ⟨rfl, hb1⟩; have n1 := (by first | exact H0.out.next hb1 | exact H0.out.drew.next hb1 : BxB w _ _ _ _ _ _ _ _ _ _ _ _ w1); replace H0 := Lib.hid n1; clear n1 hb1))
  all_goals
    have HZ := H0
    obtain ⟨⟨r0, r1, r2, r3⟩, g0, g1, g2, g3⟩ := HZ.out.rc
    go_wp2_with fail
    refine bodyPost_ret (v := .tuple #[.agg #[.string ⟨#[]⟩, .slice none 0 0, .slice none 0 0, .slice none 0 0], .int .i64 1]) (by simp [results, Tryz.results65, go_sem, r0, r1, r2, r3]) rfl ?_
    have hl : w.heap.size ≤ w.heap.size + 1 + 1 := by omega
    exact ⟨rfl, (((HZ.out.bel.setCell (p := ⟨w.heap.size + 1 + 1, 0, none⟩) hl _).setCell (p := ⟨w.heap.size + 1 + 1, 1, none⟩) hl _).setCell (p := ⟨w.heap.size + 1 + 1, 2, none⟩) hl _).setCell (p := ⟨w.heap.size + 1 + 1, 3, none⟩) hl _⟩
theorem wal_renew_epoch (sec : ByteArray) (qs : List Az) (hs : List Hz) (us : List Uz) (Aa Ah Au : Option Addr) (na ca nh ch nu cu : Nat) (k : Nat) (y x : Hz) (A : Option Addr) (n c : Nat) (S : Nat → Prop) (w : World) (hq : qs.length = na) (hn : hs.length = nh) (hu : us.length = nu) (hma : na ≤ 100000) (hmh : nh ≤ 100000) (hmu : nu ≤ 100000) (hatt : ∀ x ∈ hs, x.att.length ≤ 100000) (hnx : x.att.length = n) (hmn : n ≤ 100000) (hy : hs[k]? = some y) (hsame : sameH y x = true) (hep : x.ep < y.ep) (hrow : RowC w S A n (cellsN x.att)) (h : WalM w S qs hs us Aa Ah Au) (hS : ∀ g, S g → g < w.heap.size) :
    Calls Tryz.prog 65 #[.agg #[.string sec, .slice Aa na ca, .slice Ah nh ch, .slice Au nu cu], .int .i64 k, valH x A n c] w (ChErr w 21) := by
  unfold valH
  have hkl := (List.getElem?_eq_some_iff.1 hy).1
  obtain ⟨g, off, A', c', rfl, hsg, hrowy, hcell⟩ := h.h.at_ hy
  have hay : y.att.length ≤ 100000 := hatt y (List.mem_of_getElem? hy)
  have HSM := Lib.hid (fun W (hb : Below w.heap.size w W) => wal_same y x A' A y.att.length n c' c S W rfl hnx hay (hrowy.keep (fun p hp => hb.cell (hS _ hp))) (hrow.keep (fun p hp => hb.cell (hS _ hp))) (fun g hg => Nat.lt_of_lt_of_le (hS g hg) hb.size))
  rw [hsame] at HSM
  simp only [valC] at HSM
  have HC := Lib.hid (fun W (hb : Below w.heap.size w W) => wal_copied sec qs hs us Aa _ Au na ca nh ch nu cu S W hq hn hu hma hmh hmu hatt (h.keep (fun q hq => hb.cell (hS _ hq))) (fun g hg => Nat.lt_of_lt_of_le (hS g hg) hb.size))
  have HCL := Lib.hid (fun W (hb : Below w.heap.size w W) => cloneR_N (cellsN x.att) A n c S W (by unfold cellsN; rw [List.length_map, hnx, Nat.mul_one]) (by intro u hu; unfold cellsN at hu; obtain ⟨z, _, rfl⟩ := List.mem_map.mp hu; rfl) hmn (hrow.keep (fun p hp => hb.cell (hS _ hp))) (fun g hg => Nat.lt_of_lt_of_le (hS g hg) hb.size))
  have HQ := Lib.hid (And.intro hq (And.intro hn hu))
  have HKL := Lib.hid hkl
  have HNX := Lib.hid hnx
  have HB0 := Lib.hid (BxB.start (w := w) (sec := sec) (Aa := Aa) (na := na) (ca := ca) (Ah := some ⟨g, off, none⟩) (nh := nh) (ch := ch) (Au := Au) (nu := nu) (cu := cu) (cs := #[.string x.iss, .string x.sch, .int .i64 x.ver, .slice A n c, .string x.a, .string x.e, .string x.v, .int .i64 x.ep, .string x.wit]) (T := 47))
  have HCC : Hid (∀ W sec' Aa' na' ca' Au' nu' cu', Below w.heap.size w W → BxB w sec' Aa' na' ca' (some ⟨g, off, none⟩) nh ch Au' nu' cu' #[.string x.iss, .string x.sch, .int .i64 x.ver, .slice A n c, .string x.a, .string x.e, .string x.v, .int .i64 x.ep, .string x.wit] 47 W → W.cell? ⟨w.heap.size, 2, none⟩ = some (.slice (some ⟨g, off, none⟩) nh ch) ∧
      (W.cell? ⟨g, off + k * 9, none⟩ = some (.string y.iss) ∧ W.cell? ⟨g, off + k * 9 + 1, none⟩ = some (.string y.sch) ∧ W.cell? ⟨g, off + k * 9 + 2, none⟩ = some (.int .i64 y.ver) ∧ W.cell? ⟨g, off + k * 9 + 3, none⟩ = some (.slice A' y.att.length c') ∧ W.cell? ⟨g, off + k * 9 + 4, none⟩ = some (.string y.a) ∧ W.cell? ⟨g, off + k * 9 + 5, none⟩ = some (.string y.e) ∧ W.cell? ⟨g, off + k * 9 + 6, none⟩ = some (.string y.v)) ∧
      (W.cell? ⟨w.heap.size + 1, 0, none⟩ = some (.string x.iss) ∧ W.cell? ⟨w.heap.size + 1, 1, none⟩ = some (.string x.sch) ∧ W.cell? ⟨w.heap.size + 1, 2, none⟩ = some (.int .i64 x.ver) ∧ W.cell? ⟨w.heap.size + 1, 3, none⟩ = some (.slice A n c) ∧ W.cell? ⟨w.heap.size + 1, 4, none⟩ = some (.string x.a) ∧ W.cell? ⟨w.heap.size + 1, 5, none⟩ = some (.string x.e) ∧ W.cell? ⟨w.heap.size + 1, 6, none⟩ = some (.string x.v))) := Lib.hid (by
    intro W sec' Aa' na' ca' Au' nu' cu' hb hbx
    have hc : ∀ j u, (cellsH y A' c')[j]? = some u → W.cell? ⟨g, off + k * 9 + j, none⟩ = some u := fun j u hj => (hb.cell (hS _ hsg)).trans (hcell j u hj)
    exact ⟨hbx.bc.1.2.2.1, ⟨hc 0 _ rfl, hc 1 _ rfl, hc 2 _ rfl, hc 3 _ rfl, hc 4 _ rfl, hc 5 _ rfl, hc 6 _ rfl⟩, ⟨cell_of_row W _ 0 _ _ _ hbx.arg, cell_of_row W _ 1 _ _ _ hbx.arg, cell_of_row W _ 2 _ _ _ hbx.arg, cell_of_row W _ 3 _ _ _ hbx.arg, cell_of_row W _ 4 _ _ _ hbx.arg, cell_of_row W _ 5 _ _ _ hbx.arg, cell_of_row W _ 6 _ _ _ hbx.arg⟩⟩)
  have HEP : Hid (∀ W, Below w.heap.size w W → W.cell? ⟨g, off + k * 9 + 7, none⟩ = some (.int .i64 y.ep)) := Lib.hid (fun W hb => (hb.cell (hS _ hsg)).trans (hcell 7 _ rfl))
  have i1 : decide ((k : Int) < 0) = false := decide_eq_false (by omega)
  have i2 : decide ((nh : Int) ≤ (k : Int)) = false := decide_eq_false (by omega)
  have i3 : ((k : Int) < 0) = False := by simp
  have i4 : ((nh : Int) ≤ (k : Int)) = False := by simp; omega
  have i5 : (k : Int) < (nh : Int) := by omega
  have i6 : (0 : Int) ≤ (k : Int) := by omega
  have i7 : k < nh := by omega
  have e1 : decide (x.ep < y.ep) = true := decide_eq_true (by omega)
  have e2 : (x.ep < y.ep) = True := by simp; omega
  clear h hS hq hn hatt hma hmh hmu hu hrow hrowy hcell hsg hy hsame hep hay hmn hkl
  go_enter Tryz.func65, Tryz.ntmps65
  go_upto_region 1 with fail
  obtain ⟨w0, hw0⟩ : ∃ w0, (((w.alloc (.cells #[.string sec, .slice Aa na ca, .slice (some ⟨g, off, none⟩) nh ch, .slice Au nu cu] 27)).alloc (.cells #[.string x.iss, .string x.sch, .int .i64 x.ver, .slice A n c, .string x.a, .string x.e, .string x.v, .int .i64 x.ep, .string x.wit] 47)).alloc (.cells #[.string ⟨#[]⟩, .slice none 0 0, .slice none 0 0, .slice none 0 0] 27)) = w0 := ⟨_, rfl⟩
  rw [hw0] at HB0 ⊢
  clear hw0
  obtain ⟨⟨x0, x1, x2, x3⟩, y0, y1, y2, y3⟩ := HB0.out.bc
  go_upto_region 3 with fail
  have H0 := HB0
  go_region_held3 (fun w' => w'.cell? ⟨w.heap.size, 2, none⟩ = some (.slice (some ⟨g, off, none⟩) nh ch) ∧
      (w'.cell? ⟨g, off + k * 9, none⟩ = some (.string y.iss) ∧ w'.cell? ⟨g, off + k * 9 + 1, none⟩ = some (.string y.sch) ∧ w'.cell? ⟨g, off + k * 9 + 2, none⟩ = some (.int .i64 y.ver) ∧ w'.cell? ⟨g, off + k * 9 + 3, none⟩ = some (.slice A' y.att.length c') ∧ w'.cell? ⟨g, off + k * 9 + 4, none⟩ = some (.string y.a) ∧ w'.cell? ⟨g, off + k * 9 + 5, none⟩ = some (.string y.e) ∧ w'.cell? ⟨g, off + k * 9 + 6, none⟩ = some (.string y.v)) ∧
      (w'.cell? ⟨w.heap.size + 1, 0, none⟩ = some (.string x.iss) ∧ w'.cell? ⟨w.heap.size + 1, 1, none⟩ = some (.string x.sch) ∧ w'.cell? ⟨w.heap.size + 1, 2, none⟩ = some (.int .i64 x.ver) ∧ w'.cell? ⟨w.heap.size + 1, 3, none⟩ = some (.slice A n c) ∧ w'.cell? ⟨w.heap.size + 1, 4, none⟩ = some (.string x.a) ∧ w'.cell? ⟨w.heap.size + 1, 5, none⟩ = some (.string x.e) ∧ w'.cell? ⟨w.heap.size + 1, 6, none⟩ = some (.string x.v))) (first | exact HCC.out _ _ _ _ _ _ _ _ H0.out.bel H0.out | exact HCC.out _ _ _ _ _ _ _ _ H0.out.drew.bel H0.out.drew | go_keep) (first
    | (go_at_call 101; (first | (with_reducible refine (HSM.out _ H0.out.bel).mono ?_) | (with_reducible refine (HSM.out _ H0.out.drew.bel).mono ?_)); rintro o w1 ⟨rfl, hb1⟩; have n1 := (by first | exact H0.out.next hb1 | exact H0.out.drew.next hb1 : BxB w _ _ _ _ _ _ _ _ _ _ _ _ w1); replace H0 := Lib.hid n1; clear n1 hb1))
  all_goals
    clear x0 x1 x2 x3 y0 y1 y2 y3 HB0
    obtain ⟨⟨x0, x1, x2, x3⟩, y0, y1, y2, y3⟩ := H0.out.bc
    have z7 := cell_of_row w1 _ 7 _ _ _ H0.out.arg
    have z8 := HEP.out w1 H0.out.bel
    go_upto_region 5 with fail
    go_quiet ((fail))
    have H2 := Lib.hid (H0.out.next (below_drewN (Below.refl _ w1) nq))
    obtain ⟨w2, hw2⟩ : ∃ w2, w1.drewN nq = w2 := ⟨_, rfl⟩
    rw [hw2] at H2 ⊢
    clear hw2 x0 x1 x2 x3 y0 y1 y2 y3 z7 z8 H0
    have HZ := H2
    obtain ⟨⟨r0, r1, r2, r3⟩, g0, g1, g2, g3⟩ := HZ.out.rc
    go_wp2_with fail
    refine bodyPost_ret (v := .tuple #[.agg #[.string ⟨#[]⟩, .slice none 0 0, .slice none 0 0, .slice none 0 0], .int .i64 21]) (by simp [results, Tryz.results65, go_sem, r0, r1, r2, r3]) rfl ?_
    have hl : w.heap.size ≤ w.heap.size + 1 + 1 := by omega
    exact ⟨rfl, (((HZ.out.bel.setCell (p := ⟨w.heap.size + 1 + 1, 0, none⟩) hl _).setCell (p := ⟨w.heap.size + 1 + 1, 1, none⟩) hl _).setCell (p := ⟨w.heap.size + 1 + 1, 2, none⟩) hl _).setCell (p := ⟨w.heap.size + 1 + 1, 3, none⟩) hl _⟩
theorem wal_renew_range (sec : ByteArray) (Aa Ah Au : Option Addr) (na ca nh ch nu cu : Nat) (k : Int) (x : Hz) (A : Option Addr) (n c : Nat) (w : World) (hk : k < 0 ∨ (nh : Int) ≤ k) :
    Calls Tryz.prog 65 #[.agg #[.string sec, .slice Aa na ca, .slice Ah nh ch, .slice Au nu cu], .int .i64 k, valH x A n c] w (ChErr w 2) := by
  unfold valH
  have HB0 := Lib.hid (BxB.start (w := w) (sec := sec) (Aa := Aa) (na := na) (ca := ca) (Ah := Ah) (nh := nh) (ch := ch) (Au := Au) (nu := nu) (cu := cu) (cs := #[.string x.iss, .string x.sch, .int .i64 x.ver, .slice A n c, .string x.a, .string x.e, .string x.v, .int .i64 x.ep, .string x.wit]) (T := 47))
  go_enter Tryz.func65, Tryz.ntmps65
  go_upto_region 1 with fail
  obtain ⟨w0, hw0⟩ : ∃ w0, (((w.alloc (.cells #[.string sec, .slice Aa na ca, .slice Ah nh ch, .slice Au nu cu] 27)).alloc (.cells #[.string x.iss, .string x.sch, .int .i64 x.ver, .slice A n c, .string x.a, .string x.e, .string x.v, .int .i64 x.ep, .string x.wit] 47)).alloc (.cells #[.string ⟨#[]⟩, .slice none 0 0, .slice none 0 0, .slice none 0 0] 27)) = w0 := ⟨_, rfl⟩
  rw [hw0] at HB0 ⊢
  clear hw0
  have HZ := HB0
  obtain ⟨⟨x0, x1, x2, x3⟩, y0, y1, y2, y3⟩ := HB0.out.bc
  by_cases h0 : k < 0
  · have i1 : decide (k < 0) = true := decide_eq_true h0
    have i3 : (k < 0) = True := by simp; exact h0
    obtain ⟨⟨r0, r1, r2, r3⟩, g0, g1, g2, g3⟩ := HZ.out.rc
    go_wp2_with fail
    refine bodyPost_ret (v := .tuple #[.agg #[.string ⟨#[]⟩, .slice none 0 0, .slice none 0 0, .slice none 0 0], .int .i64 2]) (by simp [results, Tryz.results65, go_sem, r0, r1, r2, r3]) rfl ?_
    have hl : w.heap.size ≤ w.heap.size + 1 + 1 := by omega
    exact ⟨rfl, (((HZ.out.bel.setCell (p := ⟨w.heap.size + 1 + 1, 0, none⟩) hl _).setCell (p := ⟨w.heap.size + 1 + 1, 1, none⟩) hl _).setCell (p := ⟨w.heap.size + 1 + 1, 2, none⟩) hl _).setCell (p := ⟨w.heap.size + 1 + 1, 3, none⟩) hl _⟩
  · have hk2 : (nh : Int) ≤ k := by omega
    have i1 : decide (k < 0) = false := decide_eq_false h0
    have i3 : (k < 0) = False := by simp; omega
    have i2 : decide ((nh : Int) ≤ k) = true := decide_eq_true hk2
    have i4 : ((nh : Int) ≤ k) = True := by simp; exact hk2
    obtain ⟨⟨r0, r1, r2, r3⟩, g0, g1, g2, g3⟩ := HZ.out.rc
    go_wp2_with fail
    refine bodyPost_ret (v := .tuple #[.agg #[.string ⟨#[]⟩, .slice none 0 0, .slice none 0 0, .slice none 0 0], .int .i64 2]) (by simp [results, Tryz.results65, go_sem, r0, r1, r2, r3]) rfl ?_
    have hl : w.heap.size ≤ w.heap.size + 1 + 1 := by omega
    exact ⟨rfl, (((HZ.out.bel.setCell (p := ⟨w.heap.size + 1 + 1, 0, none⟩) hl _).setCell (p := ⟨w.heap.size + 1 + 1, 1, none⟩) hl _).setCell (p := ⟨w.heap.size + 1 + 1, 2, none⟩) hl _).setCell (p := ⟨w.heap.size + 1 + 1, 3, none⟩) hl _⟩
/-- The boxes of store: the wallet, the nonce, the credential, the result. -/
structure BxS (w : World) (bc : Array Value) (nc : ByteArray) (cs : Array Value) (W : World) : Prop where
  box : W.heap[w.heap.size]? = some (.cells bc 27 (0, 0))
  non : W.heap[w.heap.size + 1]? = some (.cells #[.string nc] 9 (0, 0))
  arg : W.heap[w.heap.size + 2]? = some (.cells cs 47 (0, 0))
  res : W.heap[w.heap.size + 3]? = some (.cells #[.string ⟨#[]⟩, .slice none 0 0, .slice none 0 0, .slice none 0 0] 27 (0, 0))
  bel : Below w.heap.size w W
  size : w.heap.size + 4 ≤ W.heap.size
section
variable {w W w' : World} {bc cs : Array Value} {nc : ByteArray}
theorem BxS.far (h : BxS w bc nc cs W) (hb : Below (w.heap.size + 4) W w') : BxS w bc nc cs w' :=
  ⟨(hb.block _ (by omega)).trans h.box, (hb.block _ (by omega)).trans h.non, (hb.block _ (by omega)).trans h.arg, (hb.block _ (by omega)).trans h.res, h.bel.trans (hb.mono (by omega)), Nat.le_trans h.size hb.size⟩
theorem BxS.next (h : BxS w bc nc cs W) (hb : Below W.heap.size W w') : BxS w bc nc cs w' := h.far (hb.mono h.size)
theorem BxS.drew (h : BxS w bc nc cs W) : BxS w bc nc cs W.drew := h.next (Below.refl _ _).drew
theorem BxS.start : BxS w bc nc cs ((((w.alloc (.cells bc 27)).alloc (.cells #[.string nc] 9)).alloc (.cells cs 47)).alloc (.cells #[.string ⟨#[]⟩, .slice none 0 0, .slice none 0 0, .slice none 0 0] 27)) := by
  have e2 := heap_alloc_new ((w.alloc (.cells bc 27)).alloc (.cells #[.string nc] 9)) (.cells cs 47)
  have e3 := heap_alloc_new (((w.alloc (.cells bc 27)).alloc (.cells #[.string nc] 9)).alloc (.cells cs 47)) (.cells #[.string ⟨#[]⟩, .slice none 0 0, .slice none 0 0, .slice none 0 0] 27)
  simp only [World.size_alloc] at e2 e3
  exact ⟨(Below.heap_alloc _ _ _ (by simp only [World.size_alloc]; omega)).trans ((Below.heap_alloc _ _ _ (by simp only [World.size_alloc]; omega)).trans (two_boxes w _ _).1), (Below.heap_alloc _ _ _ (by simp only [World.size_alloc]; omega)).trans ((Below.heap_alloc _ _ _ (by simp only [World.size_alloc]; omega)).trans (two_boxes w _ _).2), (Below.heap_alloc _ _ _ (by simp only [World.size_alloc]; omega)).trans e2, e3, ((((Below.refl _ _).alloc (Nat.le_refl _) _).alloc (by simp) _).alloc (by simp only [World.size_alloc]; omega) _).alloc (by simp only [World.size_alloc]; omega) _, by simp only [World.size_alloc]; omega⟩
end
theorem wal_store_none (sec : ByteArray) (qs : List Az) (Aa Ah Au : Option Addr) (na ca nh ch nu cu : Nat) (nc : ByteArray) (x : Hz) (A : Option Addr) (n c : Nat) (S : Nat → Prop) (w : World) (hq : qs.length = na) (hma : na ≤ 100000) (hno : idxA (isA nc) qs 0 < 0) (h : SlA w S Aa qs) (hS : ∀ g, S g → g < w.heap.size) :
    Calls Tryz.prog 63 #[.agg #[.string sec, .slice Aa na ca, .slice Ah nh ch, .slice Au nu cu], .string nc, valH x A n c] w (ChErr w 9) := by
  unfold valH
  have HB0 := Lib.hid (BxS.start (w := w) (bc := #[.string sec, .slice Aa na ca, .slice Ah nh ch, .slice Au nu cu]) (nc := nc) (cs := #[.string x.iss, .string x.sch, .int .i64 x.ver, .slice A n c, .string x.a, .string x.e, .string x.v, .int .i64 x.ep, .string x.wit]))
  have HF := Lib.hid (fun W (hb : BxS w #[.string sec, .slice Aa na ca, .slice Ah nh ch, .slice Au nu cu] nc #[.string x.iss, .string x.sch, .int .i64 x.ver, .slice A n c, .string x.a, .string x.e, .string x.v, .int .i64 x.ep, .string x.wit] W) => index_store qs Aa na ca S nc (w.heap.size + 1) W hq hma (RowC.keep h (fun p hp => hb.bel.cell (hS _ hp))) (fun g hg => Nat.lt_of_lt_of_le (hS g hg) hb.bel.size) (cell_of_row W _ 0 _ _ _ hb.non) (by have := hb.size; omega))
  have hmf : ∀ (fn : Fn) (first cap : Array Value) (w : World), (Instr.makeFunc fn first cap).run Tryz.prog w = .ok (.func fn first cap) w := fun _ _ _ _ => rfl
  obtain ⟨z, hz⟩ : ∃ z, idxA (isA nc) qs 0 = z := ⟨_, rfl⟩
  rw [hz] at HF hno
  have d1 : decide (z < 0) = true := decide_eq_true hno
  clear h hS hq hma hz
  go_enter Tryz.func63, Tryz.ntmps63
  go_upto_region 1 with fail
  obtain ⟨w0, hw0⟩ : ∃ w0, ((((w.alloc (.cells #[.string sec, .slice Aa na ca, .slice Ah nh ch, .slice Au nu cu] 27)).alloc (.cells #[.string nc] 9)).alloc (.cells #[.string x.iss, .string x.sch, .int .i64 x.ver, .slice A n c, .string x.a, .string x.e, .string x.v, .int .i64 x.ep, .string x.wit] 47)).alloc (.cells #[.string ⟨#[]⟩, .slice none 0 0, .slice none 0 0, .slice none 0 0] 27)) = w0 := ⟨_, rfl⟩
  rw [hw0] at HB0 ⊢
  clear hw0
  have x1 := cell_of_row _ _ 1 _ _ _ HB0.out.box
  go_wp2_with (go_at_call 95; (with_reducible refine (HF.out _ HB0.out).mono ?_); rintro e w1 ⟨rfl, hb1⟩; have HB1 := Lib.hid (HB0.out.next hb1); have r0 := cell_of_row _ _ 0 _ _ _ HB1.out.res; have r1 := cell_of_row _ _ 1 _ _ _ HB1.out.res; have r2 := cell_of_row _ _ 2 _ _ _ HB1.out.res; have r3 := cell_of_row _ _ 3 _ _ _ HB1.out.res; have g0 := frozen_of_row _ _ 0 _ _ HB1.out.res; have g1 := frozen_of_row _ _ 1 _ _ HB1.out.res; have g2 := frozen_of_row _ _ 2 _ _ HB1.out.res; have g3 := frozen_of_row _ _ 3 _ _ HB1.out.res; clear hb1)
  refine bodyPost_ret (v := .tuple #[.agg #[.string ⟨#[]⟩, .slice none 0 0, .slice none 0 0, .slice none 0 0], .int .i64 9]) (by simp [results, Tryz.results63, go_sem, r0, r1, r2, r3]) rfl ?_
  have hl : w.heap.size ≤ w.heap.size + 3 := by omega
  exact ⟨rfl, (((HB1.out.bel.setCell (p := ⟨w.heap.size + 3, 0, none⟩) hl _).setCell (p := ⟨w.heap.size + 3, 1, none⟩) hl _).setCell (p := ⟨w.heap.size + 3, 2, none⟩) hl _).setCell (p := ⟨w.heap.size + 3, 3, none⟩) hl _⟩
theorem owns_cells {base : Nat} {e : TypeId} {size g n cap : Nat} : ∀ (vs : List Value) (o : Nat) (w : World) (xs : List Value), w.ownsRow base e size (.slice (some ⟨g, 0, none⟩) n cap) n xs → o + vs.length ≤ xs.length →
    (w.setCells g o vs).ownsRow base e size (.slice (some ⟨g, 0, none⟩) n cap) n (xs.take o ++ (vs ++ xs.drop (o + vs.length))) ∧ w.grownBy (w.setCells g o vs) (some g)
  | [], o, w, xs, h, _ => by
    refine ⟨?_, World.grownBy.refl _ _⟩
    simp only [List.nil_append, List.length_nil, Nat.add_zero, List.take_append_drop]
    exact h
  | v :: r, o, w, xs, h, hl => by
    simp only [List.length_cons] at hl
    have s := h.stored o v
    obtain ⟨h1, h2⟩ := owns_cells r (o + 1) _ _ s.1 (by rw [List.length_set]; omega)
    refine ⟨?_, s.2.trans h2⟩
    have e1 : (xs.set o v).take (o + 1) ++ (r ++ (xs.set o v).drop (o + 1 + r.length)) = xs.take o ++ (v :: r ++ xs.drop (o + (v :: r).length)) := by
      have hx : o < xs.length := by omega
      rw [List.take_succ_eq_append_getElem (by rw [List.length_set]; exact hx), List.getElem_set_self, List.take_set_of_le (Nat.le_refl o), List.drop_set_of_lt (by omega)]
      simp [Nat.add_assoc, Nat.add_comm 1]
    rw [e1] at h1
    exact h1
theorem owns_front {w : World} {base : Nat} {e : TypeId} {size g n m cap : Nat} {xs : List Value} (h : w.ownsRow base e size (.slice (some ⟨g, 0, none⟩) n cap) n xs) (hm : m ≤ n) : w.ownsRow base e size (.slice (some ⟨g, 0, none⟩) m cap) m (xs.take (m * size)) := by
  have hmn : m * size ≤ n * size := Nat.mul_le_mul_right _ hm
  refine ⟨by rw [List.length_take, h.1]; omega, ?_⟩
  rcases h.2 with ⟨hv, _⟩ | ⟨g', cap', cur, hv, h3, hg, h4, h5, h6, h7⟩
  · cases hv
  · injection hv with e1 e2 e3
    injection e1 with e1
    injection e1 with e1
    subst e1 e3
    refine .inr ⟨g, cap, cur, rfl, h3, hg, by omega, h5, h6, ?_⟩
    rw [← h7, List.take_take, Nat.min_eq_left hmn]
theorem cellsA_erase {qs : List Az} {i : Nat} (hi : i < qs.length) : cellsA (qs.eraseIdx i) = (cellsA qs).take (i * 5) ++ (cellsA qs).drop ((i + 1) * 5) := by
  induction qs generalizing i with
  | nil => simp at hi
  | cons x r ih =>
    obtain ⟨a, s, n, x, b⟩ := x
    cases i with
    | zero => rfl
    | succ i =>
      have e1 : (i + 1) * 5 = i * 5 + 1 + 1 + 1 + 1 + 1 := by omega
      have e2 : (i + 1 + 1) * 5 = (i + 1) * 5 + 1 + 1 + 1 + 1 + 1 := by omega
      rw [e1, e2]
      simp only [List.eraseIdx_cons_succ, cellsA, List.take_succ_cons, List.drop_succ_cons, List.cons_append, List.cons.injEq, true_and]
      exact ih (by simpa using hi)
theorem run_clear_one {P : Program} (w : World) (t e ty : TypeId) (z : Value) (ht : P.underlying t = some (.slice e)) (hv : ∀ w, (zeroValue e).run P w = .ok z w) (h1 : ∀ u ∈ z.cells.toList, u.oneCell' = true) (b o c : Nat)
    (hc : ∀ j, j < z.cells.toList.length → (w.cell? ⟨b, o + j, none⟩).isSome = true) (hf : ∀ j, j < z.cells.toList.length → w.frozen? ⟨b, o + j, none⟩ = false) :
    (Builtin.clear_ #[t] ty #[.slice (some ⟨b, o, none⟩) 1 c]).run P w = .ok (.tuple #[]) (w.setCells b o z.cells.toList) := by
  have hzc : (Builtin.zeroCells z.cells 1).toList = z.cells.toList := by
    simp only [Builtin.zeroCells, Nat.one_mul]
    apply List.ext_getElem
    · simp
    · intro i h1 h2
      simp at h1 h2
      simp [Nat.mod_eq_of_lt h1, h1]
  have hst := run_storeCells_cells (P := P) b o z.cells.toList 0 w (by simpa using hc) (by simpa using hf) h1
  simp only [Nat.add_zero] at hst
  simp [Builtin.clear_, run_underlying ht, hv, hzc, hst]
/-- What Delete leaves. -/
theorem delete_rows {qs : List Az} {w : World} {base g n cap i d : Nat} (hq : qs.length = n) (hi : i < n) (hd : n - (i + 1) = d) (h : w.ownsRow base 40 5 (.slice (some ⟨g, 0, none⟩) n cap) n (cellsA qs)) (zs : List Value) (hz : zs.length = 5) :
    ((w.setCells g (i * 5) ((cellsA qs).drop ((i + 1) * 5))).setCells g ((n - 1) * 5) zs).ownsRow base 40 5 (.slice (some ⟨g, 0, none⟩) (n - 1) cap) (n - 1) (cellsA (qs.eraseIdx i)) ∧ w.grownBy ((w.setCells g (i * 5) ((cellsA qs).drop ((i + 1) * 5))).setCells g ((n - 1) * 5) zs) (some g) := by
  have hl := cellsA_len qs
  rw [hq] at hl
  have hdl : ((cellsA qs).drop ((i + 1) * 5)).length = d * 5 := by rw [List.length_drop, hl]; omega
  obtain ⟨a1, a2⟩ := owns_cells ((cellsA qs).drop ((i + 1) * 5)) (i * 5) w _ h (by rw [hdl, hl]; omega)
  obtain ⟨b1, b2⟩ := owns_cells zs ((n - 1) * 5) _ _ a1 (by rw [a1.1, hz]; omega)
  refine ⟨?_, a2.trans b2⟩
  have c1 := owns_front b1 (Nat.sub_le n 1)
  rw [cellsA_erase (by rw [hq]; exact hi)]
  rw [show List.take ((n - 1) * 5) _ = (cellsA qs).take (i * 5) ++ (cellsA qs).drop ((i + 1) * 5) from ?_] at c1
  · exact c1
  · have l1 : ((cellsA qs).take (i * 5) ++ (cellsA qs).drop ((i + 1) * 5)).length = (n - 1) * 5 := by rw [List.length_append, hdl, List.length_take, hl]; omega
    rw [← List.append_assoc ((cellsA qs).take (i * 5)), List.take_append_of_le_length (by rw [List.length_take, List.length_append, l1]; omega), List.take_take, Nat.min_self, List.take_append_of_le_length (by rw [l1]; exact Nat.le_refl _), List.take_of_length_le (by rw [l1]; exact Nat.le_refl _)]
end Go.Proofs.YtjhlddlocpkhkaaGreat
