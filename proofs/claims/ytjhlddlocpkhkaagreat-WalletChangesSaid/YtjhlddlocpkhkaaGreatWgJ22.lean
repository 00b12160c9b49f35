/- Wallet: a held credential in an own wallet is written anew. Wallet: renew where it goes well. Wallet: the effect of the entry "renewed". Wallet: renew's errors; printed by genVx.py. Wallet: a row of two items; the entries held and renewed are short; renew in general. -/
import Derived.Test.YtjhlddlocpkhkaaGreatWgJ15
import Derived.Test.YtjhlddlocpkhkaaGreatWgYt
namespace Go.Proofs.YtjhlddlocpkhkaaGreat
open Go.RowKit
set_option maxRecDepth 100000
set_option linter.unusedVariables false
set_option maxHeartbeats 8000000
/-- The cells of a row of credentials with one written anew. -/
def setL (L : List Value) (i : Nat) (x : Hz) (A : Option Addr) (c : Nat) : List Value :=
  ((((((((L.set (i * 9) (.string x.iss)).set (i * 9 + 1) (.string x.sch)).set (i * 9 + 2) (.int .i64 x.ver)).set (i * 9 + 3) (.slice A x.att.length c)).set (i * 9 + 4) (.string x.a)).set (i * 9 + 5) (.string x.e)).set (i * 9 + 6) (.string x.v)).set (i * 9 + 7) (.int .i64 x.ep)).set (i * 9 + 8) (.string x.wit)
theorem RelH.set {w : World} {S : Nat → Prop} {x : Hz} {A : Option Addr} {c : Nat} (hr : RowC w S A x.att.length (cellsN x.att)) : ∀ {hs : List Hz} {i : Nat} {L : List Value}, RelH w S hs L → i < hs.length → RelH w S (hs.set i x) (setL L i x A c)
  | [], _, _, _, hi => absurd hi (by simp)
  | y :: r, 0, L, h, _ => by
    obtain ⟨A0, c0, R, rfl, h1, h2⟩ := h
    exact ⟨A, c, R, by simp [setL], hr, h2⟩
  | y :: r, i + 1, L, h, hi => by
    obtain ⟨A0, c0, R, rfl, h1, h2⟩ := h
    refine ⟨A0, c0, setL R i x A c, ?_, h1, RelH.set hr h2 (by simpa using hi)⟩
    have e : (i + 1) * 9 = i * 9 + 9 := by omega
    simp only [setL, e, List.set_cons_succ]
theorem OwnW.setH {w w' : World} {base : Nat} {qs : List Az} {hs : List Hz} {us : List Uz} {vA vU : Value} {g n cap : Nat} (h : OwnW w base qs hs us vA (.slice (some ⟨g, 0, none⟩) n cap) vU) (hn : hs.length = n) {i : Nat} (hi : i < hs.length) {x : Hz} {A : Option Addr} {c : Nat}
    (hr : RowC w (fun k => base ≤ k ∧ k < w.heap.size ∧ vA.ownBlock ≠ some k ∧ some g ≠ some k ∧ vU.ownBlock ≠ some k) A x.att.length (cellsN x.att))
    (hw : w' = ((((((((w.setCell ⟨g, i * 9, none⟩ (.string x.iss)).setCell ⟨g, i * 9 + 1, none⟩ (.string x.sch)).setCell ⟨g, i * 9 + 2, none⟩ (.int .i64 x.ver)).setCell ⟨g, i * 9 + 3, none⟩ (.slice A x.att.length c)).setCell ⟨g, i * 9 + 4, none⟩ (.string x.a)).setCell ⟨g, i * 9 + 5, none⟩ (.string x.e)).setCell ⟨g, i * 9 + 6, none⟩ (.string x.v)).setCell ⟨g, i * 9 + 7, none⟩ (.int .i64 x.ep)).setCell ⟨g, i * 9 + 8, none⟩ (.string x.wit)) :
    OwnW w' base qs (hs.set i x) us vA (.slice (some ⟨g, 0, none⟩) n cap) vU := by
  subst hn
  obtain ⟨L, h1, h2⟩ := h.h
  have s0 := h1.stored (i * 9) (.string x.iss)
  have s1 := s0.1.stored (i * 9 + 1) (.string x.sch)
  have s2 := s1.1.stored (i * 9 + 2) (.int .i64 x.ver)
  have s3 := s2.1.stored (i * 9 + 3) (.slice A x.att.length c)
  have s4 := s3.1.stored (i * 9 + 4) (.string x.a)
  have s5 := s4.1.stored (i * 9 + 5) (.string x.e)
  have s6 := s5.1.stored (i * 9 + 6) (.string x.v)
  have s7 := s6.1.stored (i * 9 + 7) (.int .i64 x.ep)
  have s8 := s7.1.stored (i * 9 + 8) (.string x.wit)
  have hg := (((((((s0.2.trans s1.2).trans s2.2).trans s3.2).trans s4.2).trans s5.2).trans s6.2).trans s7.2).trans s8.2
  have o := s8.1
  rw [← hw] at hg o
  have e : (hs.set i x).length = hs.length := List.length_set ..
  have hk : ∀ p : Addr, (base ≤ p.block ∧ p.block < w.heap.size ∧ vA.ownBlock ≠ some p.block ∧ some g ≠ some p.block ∧ vU.ownBlock ≠ some p.block) → w'.cell? p = w.cell? p := fun p hp => World.cell?_of_block (hg.block p.block hp.2.1 (fun e => hp.2.2.2.1 e.symm))
  have hrel := ((RelH.set (c := c) hr h2 hi).keep hk).mono (S' := fun k => base ≤ k ∧ k < w'.heap.size ∧ vA.ownBlock ≠ some k ∧ (Value.slice (some ⟨g, 0, none⟩) hs.length cap).ownBlock ≠ some k ∧ vU.ownBlock ≠ some k) (fun k hp => ⟨hp.1, Nat.lt_of_lt_of_le hp.2.1 hg.size, hp.2.2⟩)
  refine ⟨owns_grown h.a hg (fun k e1 e2 => h.ah k e1 e2), ⟨_, ?_, hrel⟩, owns_grown h.u hg (fun k e1 e2 => h.hu k e2 e1), h.ah, h.au, h.hu⟩
  rw [e]
  exact o
theorem BxB.argp {w wx : World} {sec : ByteArray} {Aa : Option Addr} {na ca : Nat} {Ah : Option Addr} {nh ch : Nat} {Au : Option Addr} {nu cu : Nat} {cs : Array Value} {T : TypeId} (h : BxB w sec Aa na ca Ah nh ch Au nu cu cs T wx) (i : Nat) (v : Value) (cs' : Array Value) (e : cs.set! i v = cs') : BxB w sec Aa na ca Ah nh ch Au nu cu cs' T (wx.setCell ⟨w.heap.size + 1, i, none⟩ v) := by
  subst e
  exact ⟨(heap_setCell_other _ _ _ _ (show w.heap.size ≠ w.heap.size + 1 by omega)).trans h.box, heap_setCell_same wx (w.heap.size + 1) i _ _ _ h.arg, (heap_setCell_other _ _ _ _ (show w.heap.size + 1 + 1 ≠ w.heap.size + 1 by omega)).trans h.res, h.bel.setCell (p := ⟨w.heap.size + 1, i, none⟩) (Nat.le_succ _) _, by simpa using h.size⟩
theorem OwnW.hat {w : World} {base : Nat} {qs : List Az} {hs : List Hz} {us : List Uz} {vA vU : Value} {g n cap k : Nat} (h : OwnW w base qs hs us vA (.slice (some ⟨g, 0, none⟩) n cap) vU) (hn : hs.length = n) (hk : k < n) (j : Nat) (hj : j < 9) : (∃ u, w.cell? ⟨g, k * 9 + j, none⟩ = some u) ∧ w.frozen? ⟨g, k * 9 + j, none⟩ = false := by
  subst hn
  obtain ⟨L, h1, h2⟩ := h.h
  have hl := h2.length
  exact ⟨⟨L[k * 9 + j]'(by omega), (h1.cellAt (k * 9 + j) (by omega)).trans (List.getElem?_eq_getElem _)⟩, h1.frozenAt _⟩
theorem wal_renew_ok (sec : ByteArray) (qs : List Az) (hs : List Hz) (us : List Uz) (Aa Ah Au : Option Addr) (na ca nh ch nu cu : Nat) (k : Nat) (y x : Hz) (A : Option Addr) (n c : Nat) (S : Nat → Prop) (w : World) (hq : qs.length = na) (hn : hs.length = nh) (hu : us.length = nu) (hma : na ≤ 100000) (hmh : nh ≤ 100000) (hmu : nu ≤ 100000) (hatt : ∀ x ∈ hs, x.att.length ≤ 100000) (hnx : x.att.length = n) (hmn : n ≤ 100000) (hy : hs[k]? = some y) (hsame : sameH y x = true) (hep : y.ep ≤ x.ep) (hrow : RowC w S A n (cellsN x.att)) (h : WalM w S qs hs us Aa Ah Au) (hS : ∀ g, S g → g < w.heap.size) :
    Calls Tryz.prog 65 #[.agg #[.string sec, .slice Aa na ca, .slice Ah nh ch, .slice Au nu cu], .int .i64 k, valH x A n c] w (ChGot w sec qs (hs.set k x) us) := by
  unfold valH
  have hkl := (List.getElem?_eq_some_iff.1 hy).1
  obtain ⟨g, off, A', c', rfl, hsg, hrowy, hcell⟩ := h.h.at_ hy
  have hay : y.att.length ≤ 100000 := hatt y (List.mem_of_getElem? hy)
  have HSM := Lib.hid (fun W (hb : Below w.heap.size w W) => wal_same y x A' A y.att.length n c' c S W rfl hnx hay (hrowy.keep (fun p hp => hb.cell (hS _ hp))) (hrow.keep (fun p hp => hb.cell (hS _ hp))) (fun g hg => Nat.lt_of_lt_of_le (hS g hg) hb.size))
  rw [hsame] at HSM
  simp only [valC] at HSM
  have HC := Lib.hid (fun W (hb : Below w.heap.size w W) => wal_copied sec qs hs us Aa _ Au na ca nh ch nu cu S W hq hn hu hma hmh hmu hatt (h.keep (fun q hq => hb.cell (hS _ hq))) (fun g hg => Nat.lt_of_lt_of_le (hS g hg) hb.size))
  have HCL := Lib.hid (fun W (hb : Below w.heap.size w W) => cloneR_N (cellsN x.att) A n c S W (by unfold cellsN; rw [List.length_map, hnx, Nat.mul_one]) (by intro u hu; unfold cellsN at hu; obtain ⟨z, _, rfl⟩ := List.mem_map.mp hu; rfl) hmn (hrow.keep (fun p hp => hb.cell (hS _ hp))) (fun g hg => Nat.lt_of_lt_of_le (hS g hg) hb.size))
  have HQ := Lib.hid (And.intro hq (And.intro hn hu))
  have HKL := Lib.hid hkl
  have HNX := Lib.hid hnx
  have HB0 := Lib.hid (BxB.start (w := w) (sec := sec) (Aa := Aa) (na := na) (ca := ca) (Ah := some ⟨g, off, none⟩) (nh := nh) (ch := ch) (Au := Au) (nu := nu) (cu := cu) (cs := #[.string x.iss, .string x.sch, .int .i64 x.ver, .slice A n c, .string x.a, .string x.e, .string x.v, .int .i64 x.ep, .string x.wit]) (T := 47))
  have HCC : Hid (∀ W sec' Aa' na' ca' Au' nu' cu', Below w.heap.size w W → BxB w sec' Aa' na' ca' (some ⟨g, off, none⟩) nh ch Au' nu' cu' #[.string x.iss, .string x.sch, .int .i64 x.ver, .slice A n c, .string x.a, .string x.e, .string x.v, .int .i64 x.ep, .string x.wit] 47 W → W.cell? ⟨w.heap.size, 2, none⟩ = some (.slice (some ⟨g, off, none⟩) nh ch) ∧
      (W.cell? ⟨g, off + k * 9, none⟩ = some (.string y.iss) ∧ W.cell? ⟨g, off + k * 9 + 1, none⟩ = some (.string y.sch) ∧ W.cell? ⟨g, off + k * 9 + 2, none⟩ = some (.int .i64 y.ver) ∧ W.cell? ⟨g, off + k * 9 + 3, none⟩ = some (.slice A' y.att.length c') ∧ W.cell? ⟨g, off + k * 9 + 4, none⟩ = some (.string y.a) ∧ W.cell? ⟨g, off + k * 9 + 5, none⟩ = some (.string y.e) ∧ W.cell? ⟨g, off + k * 9 + 6, none⟩ = some (.string y.v)) ∧
      (W.cell? ⟨w.heap.size + 1, 0, none⟩ = some (.string x.iss) ∧ W.cell? ⟨w.heap.size + 1, 1, none⟩ = some (.string x.sch) ∧ W.cell? ⟨w.heap.size + 1, 2, none⟩ = some (.int .i64 x.ver) ∧ W.cell? ⟨w.heap.size + 1, 3, none⟩ = some (.slice A n c) ∧ W.cell? ⟨w.heap.size + 1, 4, none⟩ = some (.string x.a) ∧ W.cell? ⟨w.heap.size + 1, 5, none⟩ = some (.string x.e) ∧ W.cell? ⟨w.heap.size + 1, 6, none⟩ = some (.string x.v))) := Lib.hid (by
    intro W sec' Aa' na' ca' Au' nu' cu' hb hbx
    have hc : ∀ j u, (cellsH y A' c')[j]? = some u → W.cell? ⟨g, off + k * 9 + j, none⟩ = some u := fun j u hj => (hb.cell (hS _ hsg)).trans (hcell j u hj)
    exact ⟨hbx.bc.1.2.2.1, ⟨hc 0 _ rfl, hc 1 _ rfl, hc 2 _ rfl, hc 3 _ rfl, hc 4 _ rfl, hc 5 _ rfl, hc 6 _ rfl⟩, ⟨cell_of_row W _ 0 _ _ _ hbx.arg, cell_of_row W _ 1 _ _ _ hbx.arg, cell_of_row W _ 2 _ _ _ hbx.arg, cell_of_row W _ 3 _ _ _ hbx.arg, cell_of_row W _ 4 _ _ _ hbx.arg, cell_of_row W _ 5 _ _ _ hbx.arg, cell_of_row W _ 6 _ _ _ hbx.arg⟩⟩)
  have HEP : Hid (∀ W, Below w.heap.size w W → W.cell? ⟨g, off + k * 9 + 7, none⟩ = some (.int .i64 y.ep)) := Lib.hid (fun W hb => (hb.cell (hS _ hsg)).trans (hcell 7 _ rfl))
  have i1 : decide ((k : Int) < 0) = false := decide_eq_false (by omega)
  have i2 : decide ((nh : Int) ≤ (k : Int)) = false := decide_eq_false (by omega)
  have i3 : ((k : Int) < 0) = False := by simp
  have i4 : ((nh : Int) ≤ (k : Int)) = False := by simp; omega
  have i5 : (k : Int) < (nh : Int) := by omega
  have i6 : (0 : Int) ≤ (k : Int) := by omega
  have i7 : k < nh := by omega
  have e1 : decide (x.ep < y.ep) = false := decide_eq_false (by omega)
  have e2 : (x.ep < y.ep) = False := by simp; omega
  clear h hS hq hn hatt hma hmh hmu hu hrow hrowy hcell hsg hy hsame hep hay hmn hkl
  go_enter Tryz.func65, Tryz.ntmps65
  go_upto_region 1 with fail
  obtain ⟨w0, hw0⟩ : ∃ w0, (((w.alloc (.cells #[.string sec, .slice Aa na ca, .slice (some ⟨g, off, none⟩) nh ch, .slice Au nu cu] 27)).alloc (.cells #[.string x.iss, .string x.sch, .int .i64 x.ver, .slice A n c, .string x.a, .string x.e, .string x.v, .int .i64 x.ep, .string x.wit] 47)).alloc (.cells #[.string ⟨#[]⟩, .slice none 0 0, .slice none 0 0, .slice none 0 0] 27)) = w0 := ⟨_, rfl⟩
  rw [hw0] at HB0 ⊢
  clear hw0
  obtain ⟨⟨x0, x1, x2, x3⟩, y0, y1, y2, y3⟩ := HB0.out.bc
  go_upto_region 3 with fail
  have H0 := HB0
  go_region_held3 (fun w' => w'.cell? ⟨w.heap.size, 2, none⟩ = some (.slice (some ⟨g, off, none⟩) nh ch) ∧
      (w'.cell? ⟨g, off + k * 9, none⟩ = some (.string y.iss) ∧ w'.cell? ⟨g, off + k * 9 + 1, none⟩ = some (.string y.sch) ∧ w'.cell? ⟨g, off + k * 9 + 2, none⟩ = some (.int .i64 y.ver) ∧ w'.cell? ⟨g, off + k * 9 + 3, none⟩ = some (.slice A' y.att.length c') ∧ w'.cell? ⟨g, off + k * 9 + 4, none⟩ = some (.string y.a) ∧ w'.cell? ⟨g, off + k * 9 + 5, none⟩ = some (.string y.e) ∧ w'.cell? ⟨g, off + k * 9 + 6, none⟩ = some (.string y.v)) ∧
      (w'.cell? ⟨w.heap.size + 1, 0, none⟩ = some (.string x.iss) ∧ w'.cell? ⟨w.heap.size + 1, 1, none⟩ = some (.string x.sch) ∧ w'.cell? ⟨w.heap.size + 1, 2, none⟩ = some (.int .i64 x.ver) ∧ w'.cell? ⟨w.heap.size + 1, 3, none⟩ = some (.slice A n c) ∧ w'.cell? ⟨w.heap.size + 1, 4, none⟩ = some (.string x.a) ∧ w'.cell? ⟨w.heap.size + 1, 5, none⟩ = some (.string x.e) ∧ w'.cell? ⟨w.heap.size + 1, 6, none⟩ = some (.string x.v))) (first | exact HCC.out _ _ _ _ _ _ _ _ H0.out.bel H0.out | exact HCC.out _ _ _ _ _ _ _ _ H0.out.drew.bel H0.out.drew | go_keep) (first
    | (go_at_call 101; (first | (with_reducible refine (HSM.out _ H0.out.bel).mono ?_) | (with_reducible refine (HSM.out _ H0.out.drew.bel).mono ?_)); rintro o w1 ⟨rfl, hb1⟩; have n1 := (by first | exact H0.out.next hb1 | exact H0.out.drew.next hb1 : BxB w _ _ _ _ _ _ _ _ _ _ _ _ w1); replace H0 := Lib.hid n1; clear n1 hb1))
  all_goals
    clear x0 x1 x2 x3 y0 y1 y2 y3 HB0
    obtain ⟨⟨x0, x1, x2, x3⟩, y0, y1, y2, y3⟩ := H0.out.bc
    have z7 := cell_of_row w1 _ 7 _ _ _ H0.out.arg
    have z8 := HEP.out w1 H0.out.bel
    go_upto_region 5 with fail
    go_quiet ((fail))
    have H2 := Lib.hid (H0.out.next (below_drewN (Below.refl _ w1) nq))
    obtain ⟨w2, hw2⟩ : ∃ w2, w1.drewN nq = w2 := ⟨_, rfl⟩
    rw [hw2] at H2 ⊢
    clear hw2 x0 x1 x2 x3 y0 y1 y2 y3 z7 z8 H0
    obtain ⟨⟨x0, x1, x2, x3⟩, y0, y1, y2, y3⟩ := H2.out.bc
    go_upto_region 7 with fail
    go_upto_region 8 with (go_at_call 67; (with_reducible refine (HC.out _ H2.out.bel).mono ?_); rintro e w3 ⟨A1, c1, A2, c2, A3, c3, rfl, how, hb3⟩; have HB3 := Lib.hid (H2.out.next hb3); have HO3 := Lib.hid how; obtain ⟨⟨x0, x1, x2, x3⟩, y0, y1, y2, y3⟩ := HB3.out.bc; clear how hb3)
    have HB4 := Lib.hid (HB3.out.put (A1 := A1) (n1 := na) (c1 := c1) (A2 := A2) (n2 := nh) (c2 := c2) (A3 := A3) (n3 := nu) (c3 := c3) sec)
    have HO4 : Hid (OwnW ((((w3.setCell ⟨w.heap.size, 0, none⟩ (.string sec)).setCell ⟨w.heap.size, 1, none⟩ (.slice A1 na c1)).setCell ⟨w.heap.size, 2, none⟩ (.slice A2 nh c2)).setCell ⟨w.heap.size, 3, none⟩ (.slice A3 nu c3)) (w.heap.size + 3) qs hs us (.slice A1 na c1) (.slice A2 nh c2) (.slice A3 nu c3)) := Lib.hid ((((((HO3.out.mono H2.out.size).set (a := ⟨w.heap.size, 0, none⟩) (by simp) _).set (a := ⟨w.heap.size, 1, none⟩) (by simp) _).set (a := ⟨w.heap.size, 2, none⟩) (by simp) _).set (a := ⟨w.heap.size, 3, none⟩) (by simp) _))
    clear x0 x1 x2 x3 y0 y1 y2 y3
    obtain ⟨w4, hw4⟩ : ∃ w4, ((((w3.setCell ⟨w.heap.size, 0, none⟩ (.string sec)).setCell ⟨w.heap.size, 1, none⟩ (.slice A1 na c1)).setCell ⟨w.heap.size, 2, none⟩ (.slice A2 nh c2)).setCell ⟨w.heap.size, 3, none⟩ (.slice A3 nu c3)) = w4 := ⟨_, rfl⟩
    rw [hw4] at HB4 HO4 ⊢
    clear hw4 HB3 HO3 H2
    have z3 := cell_of_row w4 _ 3 _ _ _ HB4.out.arg
    go_upto_region 9 with (go_at_call 102; (with_reducible refine (HCL.out _ HB4.out.bel).mono ?_); rintro e w5 ⟨v5, rfl, how, hb5⟩; obtain ⟨A5, c5, rfl⟩ := owns_shape how; have HB5 := Lib.hid (HB4.out.next hb5); have HO5 := Lib.hid (HO4.out.next hb5); have HR5 := Lib.hid how; have HBL := Lib.hid hb5; have q3 := cell_of_row w5 _ 3 _ _ _ HB5.out.arg; have f3 := frozen_of_row w5 _ 3 _ _ HB5.out.arg; clear how hb5)
    have HB6 := Lib.hid (HB5.out.argp 3 (.slice A5 n c5) #[.string x.iss, .string x.sch, .int .i64 x.ver, .slice A5 n c5, .string x.a, .string x.e, .string x.v, .int .i64 x.ep, .string x.wit] rfl)
    have HO6 := Lib.hid (HO5.out.set (a := ⟨w.heap.size + 1, 3, none⟩) (by simp) (.slice A5 n c5))
    obtain ⟨w6, hw6⟩ : ∃ w6, w5.setCell ⟨w.heap.size + 1, 3, none⟩ (.slice A5 n c5) = w6 := ⟨_, rfl⟩
    have HR6 : Hid (RowC w6 (fun k => w4.heap.size ≤ k ∧ k < w6.heap.size) A5 x.att.length (cellsN x.att)) := Lib.hid (by
      rw [← hw6, HNX.out]
      have h5 : OwnS w5 w4.heap.size (.slice A5 n c5) n x.att := ⟨HNX.out, HR5.out⟩
      exact (h5.rowC.keep (fun p hp => World.cell?_setCell_other _ _ _ _ (fun e => by have := congrArg Addr.block e; have := hp.1; have := HB4.out.size; simp at *; omega))).mono (fun k hk => ⟨hk.1, by simpa using hk.2⟩))
    rw [hw6] at HB6 HO6 ⊢
    clear hw6 z3 q3 f3
    have HR7 : Hid (RowC w6 (fun b => w.heap.size + 3 ≤ b ∧ b < w6.heap.size ∧ (Value.slice A1 na c1).ownBlock ≠ some b ∧ (Value.slice A2 nh c2).ownBlock ≠ some b ∧ (Value.slice A3 nu c3).ownBlock ≠ some b) A5 x.att.length (cellsN x.att)) := Lib.hid (HR6.out.mono (fun b hb => by
      have hz := HB4.out.size
      obtain ⟨L, h1, _⟩ := HO4.out.h
      refine ⟨by have := hb.1; omega, hb.2, fun e => ?_, fun e => ?_, fun e => ?_⟩
      · have := (HO4.out.a.lt b e).2; have := hb.1; omega
      · have := (h1.lt b e).2; have := hb.1; omega
      · have := (HO4.out.u.lt b e).2; have := hb.1; omega))
    obtain ⟨g2, rfl⟩ : ∃ g2, A2 = some ⟨g2, 0, none⟩ := by
      obtain ⟨L, h1, _⟩ := HO6.out.h
      rcases h1.2 with ⟨_, h0⟩ | ⟨g, cap, cur, hv, _⟩
      · have := HKL.out; omega
      · injection hv with h1; exact ⟨g, h1⟩
    have hat := HO6.out.hat HQ.out.2.1 i7
    have HG2 : Hid (w.heap.size + 3 ≤ g2) := Lib.hid (by obtain ⟨L, h1, _⟩ := HO6.out.h; exact (h1.lt g2 rfl).1)
    obtain ⟨u0, m0⟩ : ∃ u, w6.cell? ⟨g2, k * 9, none⟩ = some u := (hat 0 (by decide)).1
    have f0 : w6.frozen? ⟨g2, k * 9, none⟩ = false := (hat 0 (by decide)).2
    have z0 := cell_of_row w6 _ 0 _ _ _ HB6.out.arg
    obtain ⟨u1, m1⟩ : ∃ u, w6.cell? ⟨g2, k * 9 + 1, none⟩ = some u := (hat 1 (by decide)).1
    have f1 : w6.frozen? ⟨g2, k * 9 + 1, none⟩ = false := (hat 1 (by decide)).2
    have z1 := cell_of_row w6 _ 1 _ _ _ HB6.out.arg
    obtain ⟨u2, m2⟩ : ∃ u, w6.cell? ⟨g2, k * 9 + 2, none⟩ = some u := (hat 2 (by decide)).1
    have f2 : w6.frozen? ⟨g2, k * 9 + 2, none⟩ = false := (hat 2 (by decide)).2
    have z2 := cell_of_row w6 _ 2 _ _ _ HB6.out.arg
    obtain ⟨u3, m3⟩ : ∃ u, w6.cell? ⟨g2, k * 9 + 3, none⟩ = some u := (hat 3 (by decide)).1
    have f3 : w6.frozen? ⟨g2, k * 9 + 3, none⟩ = false := (hat 3 (by decide)).2
    have z3 := cell_of_row w6 _ 3 _ _ _ HB6.out.arg
    obtain ⟨u4, m4⟩ : ∃ u, w6.cell? ⟨g2, k * 9 + 4, none⟩ = some u := (hat 4 (by decide)).1
    have f4 : w6.frozen? ⟨g2, k * 9 + 4, none⟩ = false := (hat 4 (by decide)).2
    have z4 := cell_of_row w6 _ 4 _ _ _ HB6.out.arg
    obtain ⟨u5, m5⟩ : ∃ u, w6.cell? ⟨g2, k * 9 + 5, none⟩ = some u := (hat 5 (by decide)).1
    have f5 : w6.frozen? ⟨g2, k * 9 + 5, none⟩ = false := (hat 5 (by decide)).2
    have z5 := cell_of_row w6 _ 5 _ _ _ HB6.out.arg
    obtain ⟨u6, m6⟩ : ∃ u, w6.cell? ⟨g2, k * 9 + 6, none⟩ = some u := (hat 6 (by decide)).1
    have f6 : w6.frozen? ⟨g2, k * 9 + 6, none⟩ = false := (hat 6 (by decide)).2
    have z6 := cell_of_row w6 _ 6 _ _ _ HB6.out.arg
    obtain ⟨u7, m7⟩ : ∃ u, w6.cell? ⟨g2, k * 9 + 7, none⟩ = some u := (hat 7 (by decide)).1
    have f7 : w6.frozen? ⟨g2, k * 9 + 7, none⟩ = false := (hat 7 (by decide)).2
    have z7 := cell_of_row w6 _ 7 _ _ _ HB6.out.arg
    obtain ⟨u8, m8⟩ : ∃ u, w6.cell? ⟨g2, k * 9 + 8, none⟩ = some u := (hat 8 (by decide)).1
    have f8 : w6.frozen? ⟨g2, k * 9 + 8, none⟩ = false := (hat 8 (by decide)).2
    have z8 := cell_of_row w6 _ 8 _ _ _ HB6.out.arg
    clear hat
    obtain ⟨⟨x0, x1, x2, x3⟩, y0, y1, y2, y3⟩ := HB6.out.bc
    go_upto_region 10 with fail
    have HBF : Hid (Below (w.heap.size + 3) w6 (((((((((w6.setCell ⟨g2, k * 9, none⟩ (.string x.iss)).setCell ⟨g2, k * 9 + 1, none⟩ (.string x.sch)).setCell ⟨g2, k * 9 + 2, none⟩ (.int .i64 x.ver)).setCell ⟨g2, k * 9 + 3, none⟩ (.slice A5 n c5)).setCell ⟨g2, k * 9 + 4, none⟩ (.string x.a)).setCell ⟨g2, k * 9 + 5, none⟩ (.string x.e)).setCell ⟨g2, k * 9 + 6, none⟩ (.string x.v)).setCell ⟨g2, k * 9 + 7, none⟩ (.int .i64 x.ep)).setCell ⟨g2, k * 9 + 8, none⟩ (.string x.wit))) := Lib.hid (((((((((((Below.refl (w.heap.size + 3) w6).setCell (p := ⟨g2, k * 9, none⟩) HG2.out _).setCell (p := ⟨g2, k * 9 + 1, none⟩) HG2.out _).setCell (p := ⟨g2, k * 9 + 2, none⟩) HG2.out _).setCell (p := ⟨g2, k * 9 + 3, none⟩) HG2.out _).setCell (p := ⟨g2, k * 9 + 4, none⟩) HG2.out _).setCell (p := ⟨g2, k * 9 + 5, none⟩) HG2.out _).setCell (p := ⟨g2, k * 9 + 6, none⟩) HG2.out _).setCell (p := ⟨g2, k * 9 + 7, none⟩) HG2.out _).setCell (p := ⟨g2, k * 9 + 8, none⟩) HG2.out _))
    have HB7 := Lib.hid (HB6.out.far HBF.out)
    have hset : ∀ w', w' = (((((((((w6.setCell ⟨g2, k * 9, none⟩ (.string x.iss)).setCell ⟨g2, k * 9 + 1, none⟩ (.string x.sch)).setCell ⟨g2, k * 9 + 2, none⟩ (.int .i64 x.ver)).setCell ⟨g2, k * 9 + 3, none⟩ (.slice A5 n c5)).setCell ⟨g2, k * 9 + 4, none⟩ (.string x.a)).setCell ⟨g2, k * 9 + 5, none⟩ (.string x.e)).setCell ⟨g2, k * 9 + 6, none⟩ (.string x.v)).setCell ⟨g2, k * 9 + 7, none⟩ (.int .i64 x.ep)).setCell ⟨g2, k * 9 + 8, none⟩ (.string x.wit)) → OwnW w' (w.heap.size + 3) qs (hs.set k x) us (.slice A1 na c1) (.slice (some ⟨g2, 0, none⟩) nh c2) (.slice A3 nu c3) := fun w' hw => HO6.out.setH HQ.out.2.1 HKL.out (c := c5) HR7.out (by rw [HNX.out]; exact hw)
    have HO7 := Lib.hid (hset _ rfl)
    clear hset
    obtain ⟨w7, hw7⟩ : ∃ w7, (((((((((w6.setCell ⟨g2, k * 9, none⟩ (.string x.iss)).setCell ⟨g2, k * 9 + 1, none⟩ (.string x.sch)).setCell ⟨g2, k * 9 + 2, none⟩ (.int .i64 x.ver)).setCell ⟨g2, k * 9 + 3, none⟩ (.slice A5 n c5)).setCell ⟨g2, k * 9 + 4, none⟩ (.string x.a)).setCell ⟨g2, k * 9 + 5, none⟩ (.string x.e)).setCell ⟨g2, k * 9 + 6, none⟩ (.string x.v)).setCell ⟨g2, k * 9 + 7, none⟩ (.int .i64 x.ep)).setCell ⟨g2, k * 9 + 8, none⟩ (.string x.wit)) = w7 := ⟨_, rfl⟩
    rw [hw7] at HB7 HO7 ⊢
    clear hw7 x0 x1 x2 x3 y0 y1 y2 y3 m0 f0 z0 m1 f1 z1 m2 f2 z2 m3 f3 z3 m4 f4 z4 m5 f5 z5 m6 f6 z6 m7 f7 z7 m8 f8 z8
    obtain ⟨⟨x0, x1, x2, x3⟩, y0, y1, y2, y3⟩ := HB7.out.bc
    obtain ⟨⟨r0, r1, r2, r3⟩, g0, g1, g2', g3⟩ := HB7.out.rc
    go_wp2_with fail
    have HF := HB7.out.fin HO7.out HQ.out.1 (by rw [List.length_set]; exact HQ.out.2.1) HQ.out.2.2 (.string sec) (.slice A1 na c1) (.slice (some ⟨g2, 0, none⟩) nh c2) (.slice A3 nu c3)
    refine bodyPost_ret (v := .tuple #[.agg #[.string sec, .slice A1 na c1, .slice (some ⟨g2, 0, none⟩) nh c2, .slice A3 nu c3], .int .i64 0]) (by simp [results, Tryz.results65, go_sem, r0, r1, r2, r3]) rfl ?_
    exact ⟨A1, na, c1, some ⟨g2, 0, none⟩, nh, c2, A3, nu, c3, rfl, HQ.out.1.symm, by rw [List.length_set]; exact HQ.out.2.1.symm, HQ.out.2.2.symm, HF.1, HF.2⟩
/-- The items of the entries held and renewed. -/
def heldI (n : ByteArray) (x : Hz) : Its := .cons 1 ⟨#[]⟩ n .nil (.cons 2 ⟨#[]⟩ ⟨#[]⟩ (heldL x) .nil)
def renewI (k : Int) (x : Hz) : Its := .cons 2 ⟨#[]⟩ ⟨#[]⟩ (intIt k) (.cons 2 ⟨#[]⟩ ⟨#[]⟩ (heldL x) .nil)
theorem wal_renew_other (sec : ByteArray) (qs : List Az) (hs : List Hz) (us : List Uz) (Aa Ah Au : Option Addr) (na ca nh ch nu cu : Nat) (k : Nat) (y x : Hz) (A : Option Addr) (n c : Nat) (S : Nat → Prop) (w : World) (hq : qs.length = na) (hn : hs.length = nh) (hu : us.length = nu) (hma : na ≤ 100000) (hmh : nh ≤ 100000) (hmu : nu ≤ 100000) (hatt : ∀ x ∈ hs, x.att.length ≤ 100000) (hnx : x.att.length = n) (hmn : n ≤ 100000) (hy : hs[k]? = some y) (hsame : sameH y x = false) (hrow : RowC w S A n (cellsN x.att)) (h : WalM w S qs hs us Aa Ah Au) (hS : ∀ g, S g → g < w.heap.size) :
    Calls Tryz.prog 65 #[.agg #[.string sec, .slice Aa na ca, .slice Ah nh ch, .slice Au nu cu], .int .i64 k, valH x A n c] w (ChErr w 1) := by
  unfold valH
  have hkl := (List.getElem?_eq_some_iff.1 hy).1
  obtain ⟨g, off, A', c', rfl, hsg, hrowy, hcell⟩ := h.h.at_ hy
  have hay : y.att.length ≤ 100000 := hatt y (List.mem_of_getElem? hy)
  have HSM := Lib.hid (fun W (hb : Below w.heap.size w W) => wal_same y x A' A y.att.length n c' c S W rfl hnx hay (hrowy.keep (fun p hp => hb.cell (hS _ hp))) (hrow.keep (fun p hp => hb.cell (hS _ hp))) (fun g hg => Nat.lt_of_lt_of_le (hS g hg) hb.size))
  rw [hsame] at HSM
  simp only [valC] at HSM
  have HC := Lib.hid (fun W (hb : Below w.heap.size w W) => wal_copied sec qs hs us Aa _ Au na ca nh ch nu cu S W hq hn hu hma hmh hmu hatt (h.keep (fun q hq => hb.cell (hS _ hq))) (fun g hg => Nat.lt_of_lt_of_le (hS g hg) hb.size))
  have HCL := Lib.hid (fun W (hb : Below w.heap.size w W) => cloneR_N (cellsN x.att) A n c S W (by unfold cellsN; rw [List.length_map, hnx, Nat.mul_one]) (by intro u hu; unfold cellsN at hu; obtain ⟨z, _, rfl⟩ := List.mem_map.mp hu; rfl) hmn (hrow.keep (fun p hp => hb.cell (hS _ hp))) (fun g hg => Nat.lt_of_lt_of_le (hS g hg) hb.size))
  have HQ := Lib.hid (And.intro hq (And.intro hn hu))
  have HKL := Lib.hid hkl
  have HNX := Lib.hid hnx
  have HB0 := Lib.hid (BxB.start (w := w) (sec := sec) (Aa := Aa) (na := na) (ca := ca) (Ah := some ⟨g, off, none⟩) (nh := nh) (ch := ch) (Au := Au) (nu := nu) (cu := cu) (cs := #[.string x.iss, .string x.sch, .int .i64 x.ver, .slice A n c, .string x.a, .string x.e, .string x.v, .int .i64 x.ep, .string x.wit]) (T := 47))
  have HCC : Hid (∀ W sec' Aa' na' ca' Au' nu' cu', Below w.heap.size w W → BxB w sec' Aa' na' ca' (some ⟨g, off, none⟩) nh ch Au' nu' cu' #[.string x.iss, .string x.sch, .int .i64 x.ver, .slice A n c, .string x.a, .string x.e, .string x.v, .int .i64 x.ep, .string x.wit] 47 W → W.cell? ⟨w.heap.size, 2, none⟩ = some (.slice (some ⟨g, off, none⟩) nh ch) ∧
      (W.cell? ⟨g, off + k * 9, none⟩ = some (.string y.iss) ∧ W.cell? ⟨g, off + k * 9 + 1, none⟩ = some (.string y.sch) ∧ W.cell? ⟨g, off + k * 9 + 2, none⟩ = some (.int .i64 y.ver) ∧ W.cell? ⟨g, off + k * 9 + 3, none⟩ = some (.slice A' y.att.length c') ∧ W.cell? ⟨g, off + k * 9 + 4, none⟩ = some (.string y.a) ∧ W.cell? ⟨g, off + k * 9 + 5, none⟩ = some (.string y.e) ∧ W.cell? ⟨g, off + k * 9 + 6, none⟩ = some (.string y.v)) ∧
      (W.cell? ⟨w.heap.size + 1, 0, none⟩ = some (.string x.iss) ∧ W.cell? ⟨w.heap.size + 1, 1, none⟩ = some (.string x.sch) ∧ W.cell? ⟨w.heap.size + 1, 2, none⟩ = some (.int .i64 x.ver) ∧ W.cell? ⟨w.heap.size + 1, 3, none⟩ = some (.slice A n c) ∧ W.cell? ⟨w.heap.size + 1, 4, none⟩ = some (.string x.a) ∧ W.cell? ⟨w.heap.size + 1, 5, none⟩ = some (.string x.e) ∧ W.cell? ⟨w.heap.size + 1, 6, none⟩ = some (.string x.v))) := Lib.hid (by
    intro W sec' Aa' na' ca' Au' nu' cu' hb hbx
    have hc : ∀ j u, (cellsH y A' c')[j]? = some u → W.cell? ⟨g, off + k * 9 + j, none⟩ = some u := fun j u hj => (hb.cell (hS _ hsg)).trans (hcell j u hj)
    exact ⟨hbx.bc.1.2.2.1, ⟨hc 0 _ rfl, hc 1 _ rfl, hc 2 _ rfl, hc 3 _ rfl, hc 4 _ rfl, hc 5 _ rfl, hc 6 _ rfl⟩, ⟨cell_of_row W _ 0 _ _ _ hbx.arg, cell_of_row W _ 1 _ _ _ hbx.arg, cell_of_row W _ 2 _ _ _ hbx.arg, cell_of_row W _ 3 _ _ _ hbx.arg, cell_of_row W _ 4 _ _ _ hbx.arg, cell_of_row W _ 5 _ _ _ hbx.arg, cell_of_row W _ 6 _ _ _ hbx.arg⟩⟩)
  have HEP : Hid (∀ W, Below w.heap.size w W → W.cell? ⟨g, off + k * 9 + 7, none⟩ = some (.int .i64 y.ep)) := Lib.hid (fun W hb => (hb.cell (hS _ hsg)).trans (hcell 7 _ rfl))
  have i1 : decide ((k : Int) < 0) = false := decide_eq_false (by omega)
  have i2 : decide ((nh : Int) ≤ (k : Int)) = false := decide_eq_false (by omega)
  have i3 : ((k : Int) < 0) = False := by simp
  have i4 : ((nh : Int) ≤ (k : Int)) = False := by simp; omega
  have i5 : (k : Int) < (nh : Int) := by omega
  have i6 : (0 : Int) ≤ (k : Int) := by omega
  have i7 : k < nh := by omega
  clear h hS hq hn hatt hma hmh hmu hu hrow hrowy hcell hsg hy hsame hay hmn hkl
  go_enter Tryz.func65, Tryz.ntmps65
  go_upto_region 1 with fail
  obtain ⟨w0, hw0⟩ : ∃ w0, (((w.alloc (.cells #[.string sec, .slice Aa na ca, .slice (some ⟨g, off, none⟩) nh ch, .slice Au nu cu] 27)).alloc (.cells #[.string x.iss, .string x.sch, .int .i64 x.ver, .slice A n c, .string x.a, .string x.e, .string x.v, .int .i64 x.ep, .string x.wit] 47)).alloc (.cells #[.string ⟨#[]⟩, .slice none 0 0, .slice none 0 0, .slice none 0 0] 27)) = w0 := ⟨_, rfl⟩
  rw [hw0] at HB0 ⊢
  clear hw0
  obtain ⟨⟨x0, x1, x2, x3⟩, y0, y1, y2, y3⟩ := HB0.out.bc
  go_upto_region 3 with fail
  have H0 := HB0
  go_region_held3 (fun w' => w'.cell? ⟨w.heap.size, 2, none⟩ = some (.slice (some ⟨g, off, none⟩) nh ch) ∧
      (w'.cell? ⟨g, off + k * 9, none⟩ = some (.string y.iss) ∧ w'.cell? ⟨g, off + k * 9 + 1, none⟩ = some (.string y.sch) ∧ w'.cell? ⟨g, off + k * 9 + 2, none⟩ = some (.int .i64 y.ver) ∧ w'.cell? ⟨g, off + k * 9 + 3, none⟩ = some (.slice A' y.att.length c') ∧ w'.cell? ⟨g, off + k * 9 + 4, none⟩ = some (.string y.a) ∧ w'.cell? ⟨g, off + k * 9 + 5, none⟩ = some (.string y.e) ∧ w'.cell? ⟨g, off + k * 9 + 6, none⟩ = some (.string y.v)) ∧
      (w'.cell? ⟨w.heap.size + 1, 0, none⟩ = some (.string x.iss) ∧ w'.cell? ⟨w.heap.size + 1, 1, none⟩ = some (.string x.sch) ∧ w'.cell? ⟨w.heap.size + 1, 2, none⟩ = some (.int .i64 x.ver) ∧ w'.cell? ⟨w.heap.size + 1, 3, none⟩ = some (.slice A n c) ∧ w'.cell? ⟨w.heap.size + 1, 4, none⟩ = some (.string x.a) ∧ w'.cell? ⟨w.heap.size + 1, 5, none⟩ = some (.string x.e) ∧ w'.cell? ⟨w.heap.size + 1, 6, none⟩ = some (.string x.v))) (first | exact HCC.out _ _ _ _ _ _ _ _ H0.out.bel H0.out | exact HCC.out _ _ _ _ _ _ _ _ H0.out.drew.bel H0.out.drew | go_keep) (first
    | (go_at_call 101; (first | (with_reducible refine (HSM.out _ H0.out.bel).mono ?_) | (with_reducible refine (HSM.out _ H0.out.drew.bel).mono ?_)); rintro o w1 ⟨rfl, hb1⟩; have n1 := (by first | exact H0.out.next hb1 | exact H0.out.drew.next hb1 : BxB w _ _ _ _ _ _ _ _ _ _ _ _ w1); replace H0 := Lib.hid n1; clear n1 hb1))
  all_goals
    have HZ := H0
    obtain ⟨⟨r0, r1, r2, r3⟩, g0, g1, g2, g3⟩ := HZ.out.rc
    go_wp2_with fail
    refine bodyPost_ret (v := .tuple #[.agg #[.string ⟨#[]⟩, .slice none 0 0, .slice none 0 0, .slice none 0 0], .int .i64 1]) (by simp [results, Tryz.results65, go_sem, r0, r1, r2, r3]) rfl ?_
    have hl : w.heap.size ≤ w.heap.size + 1 + 1 := by omega
    exact ⟨rfl, (((HZ.out.bel.setCell (p := ⟨w.heap.size + 1 + 1, 0, none⟩) hl _).setCell (p := ⟨w.heap.size + 1 + 1, 1, none⟩) hl _).setCell (p := ⟨w.heap.size + 1 + 1, 2, none⟩) hl _).setCell (p := ⟨w.heap.size + 1 + 1, 3, none⟩) hl _⟩
theorem wal_renew_epoch (sec : ByteArray) (qs : List Az) (hs : List Hz) (us : List Uz) (Aa Ah Au : Option Addr) (na ca nh ch nu cu : Nat) (k : Nat) (y x : Hz) (A : Option Addr) (n c : Nat) (S : Nat → Prop) (w : World) (hq : qs.length = na) (hn : hs.length = nh) (hu : us.length = nu) (hma : na ≤ 100000) (hmh : nh ≤ 100000) (hmu : nu ≤ 100000) (hatt : ∀ x ∈ hs, x.att.length ≤ 100000) (hnx : x.att.length = n) (hmn : n ≤ 100000) (hy : hs[k]? = some y) (hsame : sameH y x = true) (hep : x.ep < y.ep) (hrow : RowC w S A n (cellsN x.att)) (h : WalM w S qs hs us Aa Ah Au) (hS : ∀ g, S g → g < w.heap.size) :
    Calls Tryz.prog 65 #[.agg #[.string sec, .slice Aa na ca, .slice Ah nh ch, .slice Au nu cu], .int .i64 k, valH x A n c] w (ChErr w 21) := by
  unfold valH
  have hkl := (List.getElem?_eq_some_iff.1 hy).1
  obtain ⟨g, off, A', c', rfl, hsg, hrowy, hcell⟩ := h.h.at_ hy
  have hay : y.att.length ≤ 100000 := hatt y (List.mem_of_getElem? hy)
  have HSM := Lib.hid (fun W (hb : Below w.heap.size w W) => wal_same y x A' A y.att.length n c' c S W rfl hnx hay (hrowy.keep (fun p hp => hb.cell (hS _ hp))) (hrow.keep (fun p hp => hb.cell (hS _ hp))) (fun g hg => Nat.lt_of_lt_of_le (hS g hg) hb.size))
  rw [hsame] at HSM
  simp only [valC] at HSM
  have HC := Lib.hid (fun W (hb : Below w.heap.size w W) => wal_copied sec qs hs us Aa _ Au na ca nh ch nu cu S W hq hn hu hma hmh hmu hatt (h.keep (fun q hq => hb.cell (hS _ hq))) (fun g hg => Nat.lt_of_lt_of_le (hS g hg) hb.size))
  have HCL := Lib.hid (fun W (hb : Below w.heap.size w W) => cloneR_N (cellsN x.att) A n c S W (by unfold cellsN; rw [List.length_map, hnx, Nat.mul_one]) (by intro u hu; unfold cellsN at hu; obtain ⟨z, _, rfl⟩ := List.mem_map.mp hu; rfl) hmn (hrow.keep (fun p hp => hb.cell (hS _ hp))) (fun g hg => Nat.lt_of_lt_of_le (hS g hg) hb.size))
  have HQ := Lib.hid (And.intro hq (And.intro hn hu))
  have HKL := Lib.hid hkl
  have HNX := Lib.hid hnx
  have HB0 := Lib.hid (BxB.start (w := w) (sec := sec) (Aa := Aa) (na := na) (ca := ca) (Ah := some ⟨g, off, none⟩) (nh := nh) (ch := ch) (Au := Au) (nu := nu) (cu := cu) (cs := #[.string x.iss, .string x.sch, .int .i64 x.ver, .slice A n c, .string x.a, .string x.e, .string x.v, .int .i64 x.ep, .string x.wit]) (T := 47))
  have HCC : Hid (∀ W sec' Aa' na' ca' Au' nu' cu', Below w.heap.size w W → BxB w sec' Aa' na' ca' (some ⟨g, off, none⟩) nh ch Au' nu' cu' #[.string x.iss, .string x.sch, .int .i64 x.ver, .slice A n c, .string x.a, .string x.e, .string x.v, .int .i64 x.ep, .string x.wit] 47 W → W.cell? ⟨w.heap.size, 2, none⟩ = some (.slice (some ⟨g, off, none⟩) nh ch) ∧
      (W.cell? ⟨g, off + k * 9, none⟩ = some (.string y.iss) ∧ W.cell? ⟨g, off + k * 9 + 1, none⟩ = some (.string y.sch) ∧ W.cell? ⟨g, off + k * 9 + 2, none⟩ = some (.int .i64 y.ver) ∧ W.cell? ⟨g, off + k * 9 + 3, none⟩ = some (.slice A' y.att.length c') ∧ W.cell? ⟨g, off + k * 9 + 4, none⟩ = some (.string y.a) ∧ W.cell? ⟨g, off + k * 9 + 5, none⟩ = some (.string y.e) ∧ W.cell? ⟨g, off + k * 9 + 6, none⟩ = some (.string y.v)) ∧
      (W.cell? ⟨w.heap.size + 1, 0, none⟩ = some (.string x.iss) ∧ W.cell? ⟨w.heap.size + 1, 1, none⟩ = some (.string x.sch) ∧ W.cell? ⟨w.heap.size + 1, 2, none⟩ = some (.int .i64 x.ver) ∧ W.cell? ⟨w.heap.size + 1, 3, none⟩ = some (.slice A n c) ∧ W.cell? ⟨w.heap.size + 1, 4, none⟩ = some (.string x.a) ∧ W.cell? ⟨w.heap.size + 1, 5, none⟩ = some (.string x.e) ∧ W.cell? ⟨w.heap.size + 1, 6, none⟩ = some (.string x.v))) := Lib.hid (by
    intro W sec' Aa' na' ca' Au' nu' cu' hb hbx
    have hc : ∀ j u, (cellsH y A' c')[j]? = some u → W.cell? ⟨g, off + k * 9 + j, none⟩ = some u := fun j u hj => (hb.cell (hS _ hsg)).trans (hcell j u hj)
    exact ⟨hbx.bc.1.2.2.1, ⟨hc 0 _ rfl, hc 1 _ rfl, hc 2 _ rfl, hc 3 _ rfl, hc 4 _ rfl, hc 5 _ rfl, hc 6 _ rfl⟩, ⟨cell_of_row W _ 0 _ _ _ hbx.arg, cell_of_row W _ 1 _ _ _ hbx.arg, cell_of_row W _ 2 _ _ _ hbx.arg, cell_of_row W _ 3 _ _ _ hbx.arg, cell_of_row W _ 4 _ _ _ hbx.arg, cell_of_row W _ 5 _ _ _ hbx.arg, cell_of_row W _ 6 _ _ _ hbx.arg⟩⟩)
  have HEP : Hid (∀ W, Below w.heap.size w W → W.cell? ⟨g, off + k * 9 + 7, none⟩ = some (.int .i64 y.ep)) := Lib.hid (fun W hb => (hb.cell (hS _ hsg)).trans (hcell 7 _ rfl))
  have i1 : decide ((k : Int) < 0) = false := decide_eq_false (by omega)
  have i2 : decide ((nh : Int) ≤ (k : Int)) = false := decide_eq_false (by omega)
  have i3 : ((k : Int) < 0) = False := by simp
  have i4 : ((nh : Int) ≤ (k : Int)) = False := by simp; omega
  have i5 : (k : Int) < (nh : Int) := by omega
  have i6 : (0 : Int) ≤ (k : Int) := by omega
  have i7 : k < nh := by omega
  have e1 : decide (x.ep < y.ep) = true := decide_eq_true (by omega)
  have e2 : (x.ep < y.ep) = True := by simp; omega
  clear h hS hq hn hatt hma hmh hmu hu hrow hrowy hcell hsg hy hsame hep hay hmn hkl
  go_enter Tryz.func65, Tryz.ntmps65
  go_upto_region 1 with fail
  obtain ⟨w0, hw0⟩ : ∃ w0, (((w.alloc (.cells #[.string sec, .slice Aa na ca, .slice (some ⟨g, off, none⟩) nh ch, .slice Au nu cu] 27)).alloc (.cells #[.string x.iss, .string x.sch, .int .i64 x.ver, .slice A n c, .string x.a, .string x.e, .string x.v, .int .i64 x.ep, .string x.wit] 47)).alloc (.cells #[.string ⟨#[]⟩, .slice none 0 0, .slice none 0 0, .slice none 0 0] 27)) = w0 := ⟨_, rfl⟩
  rw [hw0] at HB0 ⊢
  clear hw0
  obtain ⟨⟨x0, x1, x2, x3⟩, y0, y1, y2, y3⟩ := HB0.out.bc
  go_upto_region 3 with fail
  have H0 := HB0
  go_region_held3 (fun w' => w'.cell? ⟨w.heap.size, 2, none⟩ = some (.slice (some ⟨g, off, none⟩) nh ch) ∧
      (w'.cell? ⟨g, off + k * 9, none⟩ = some (.string y.iss) ∧ w'.cell? ⟨g, off + k * 9 + 1, none⟩ = some (.string y.sch) ∧ w'.cell? ⟨g, off + k * 9 + 2, none⟩ = some (.int .i64 y.ver) ∧ w'.cell? ⟨g, off + k * 9 + 3, none⟩ = some (.slice A' y.att.length c') ∧ w'.cell? ⟨g, off + k * 9 + 4, none⟩ = some (.string y.a) ∧ w'.cell? ⟨g, off + k * 9 + 5, none⟩ = some (.string y.e) ∧ w'.cell? ⟨g, off + k * 9 + 6, none⟩ = some (.string y.v)) ∧
      (w'.cell? ⟨w.heap.size + 1, 0, none⟩ = some (.string x.iss) ∧ w'.cell? ⟨w.heap.size + 1, 1, none⟩ = some (.string x.sch) ∧ w'.cell? ⟨w.heap.size + 1, 2, none⟩ = some (.int .i64 x.ver) ∧ w'.cell? ⟨w.heap.size + 1, 3, none⟩ = some (.slice A n c) ∧ w'.cell? ⟨w.heap.size + 1, 4, none⟩ = some (.string x.a) ∧ w'.cell? ⟨w.heap.size + 1, 5, none⟩ = some (.string x.e) ∧ w'.cell? ⟨w.heap.size + 1, 6, none⟩ = some (.string x.v))) (first | exact HCC.out _ _ _ _ _ _ _ _ H0.out.bel H0.out | exact HCC.out _ _ _ _ _ _ _ _ H0.out.drew.bel H0.out.drew | go_keep) (first
    | (go_at_call 101; (first | (with_reducible refine (HSM.out _ H0.out.bel).mono ?_) | (with_reducible refine (HSM.out _ H0.out.drew.bel).mono ?_)); rintro o w1 ⟨rfl, hb1⟩; have n1 := (by first | exact H0.out.next hb1 | exact H0.out.drew.next hb1 : BxB w _ _ _ _ _ _ _ _ _ _ _ _ w1); replace H0 := Lib.hid n1; clear n1 hb1))
  all_goals
    clear x0 x1 x2 x3 y0 y1 y2 y3 HB0
    obtain ⟨⟨x0, x1, x2, x3⟩, y0, y1, y2, y3⟩ := H0.out.bc
    have z7 := cell_of_row w1 _ 7 _ _ _ H0.out.arg
    have z8 := HEP.out w1 H0.out.bel
    go_upto_region 5 with fail
    go_quiet ((fail))
    have H2 := Lib.hid (H0.out.next (below_drewN (Below.refl _ w1) nq))
    obtain ⟨w2, hw2⟩ : ∃ w2, w1.drewN nq = w2 := ⟨_, rfl⟩
    rw [hw2] at H2 ⊢
    clear hw2 x0 x1 x2 x3 y0 y1 y2 y3 z7 z8 H0
    have HZ := H2
    obtain ⟨⟨r0, r1, r2, r3⟩, g0, g1, g2, g3⟩ := HZ.out.rc
    go_wp2_with fail
    refine bodyPost_ret (v := .tuple #[.agg #[.string ⟨#[]⟩, .slice none 0 0, .slice none 0 0, .slice none 0 0], .int .i64 21]) (by simp [results, Tryz.results65, go_sem, r0, r1, r2, r3]) rfl ?_
    have hl : w.heap.size ≤ w.heap.size + 1 + 1 := by omega
    exact ⟨rfl, (((HZ.out.bel.setCell (p := ⟨w.heap.size + 1 + 1, 0, none⟩) hl _).setCell (p := ⟨w.heap.size + 1 + 1, 1, none⟩) hl _).setCell (p := ⟨w.heap.size + 1 + 1, 2, none⟩) hl _).setCell (p := ⟨w.heap.size + 1 + 1, 3, none⟩) hl _⟩
theorem wal_renew_range (sec : ByteArray) (Aa Ah Au : Option Addr) (na ca nh ch nu cu : Nat) (k : Int) (x : Hz) (A : Option Addr) (n c : Nat) (w : World) (hk : k < 0 ∨ (nh : Int) ≤ k) :
    Calls Tryz.prog 65 #[.agg #[.string sec, .slice Aa na ca, .slice Ah nh ch, .slice Au nu cu], .int .i64 k, valH x A n c] w (ChErr w 2) := by
  unfold valH
  have HB0 := Lib.hid (BxB.start (w := w) (sec := sec) (Aa := Aa) (na := na) (ca := ca) (Ah := Ah) (nh := nh) (ch := ch) (Au := Au) (nu := nu) (cu := cu) (cs := #[.string x.iss, .string x.sch, .int .i64 x.ver, .slice A n c, .string x.a, .string x.e, .string x.v, .int .i64 x.ep, .string x.wit]) (T := 47))
  go_enter Tryz.func65, Tryz.ntmps65
  go_upto_region 1 with fail
  obtain ⟨w0, hw0⟩ : ∃ w0, (((w.alloc (.cells #[.string sec, .slice Aa na ca, .slice Ah nh ch, .slice Au nu cu] 27)).alloc (.cells #[.string x.iss, .string x.sch, .int .i64 x.ver, .slice A n c, .string x.a, .string x.e, .string x.v, .int .i64 x.ep, .string x.wit] 47)).alloc (.cells #[.string ⟨#[]⟩, .slice none 0 0, .slice none 0 0, .slice none 0 0] 27)) = w0 := ⟨_, rfl⟩
  rw [hw0] at HB0 ⊢
  clear hw0
  have HZ := HB0
  obtain ⟨⟨x0, x1, x2, x3⟩, y0, y1, y2, y3⟩ := HB0.out.bc
  by_cases h0 : k < 0
  · have i1 : decide (k < 0) = true := decide_eq_true h0
    have i3 : (k < 0) = True := by simp; exact h0
    obtain ⟨⟨r0, r1, r2, r3⟩, g0, g1, g2, g3⟩ := HZ.out.rc
    go_wp2_with fail
    refine bodyPost_ret (v := .tuple #[.agg #[.string ⟨#[]⟩, .slice none 0 0, .slice none 0 0, .slice none 0 0], .int .i64 2]) (by simp [results, Tryz.results65, go_sem, r0, r1, r2, r3]) rfl ?_
    have hl : w.heap.size ≤ w.heap.size + 1 + 1 := by omega
    exact ⟨rfl, (((HZ.out.bel.setCell (p := ⟨w.heap.size + 1 + 1, 0, none⟩) hl _).setCell (p := ⟨w.heap.size + 1 + 1, 1, none⟩) hl _).setCell (p := ⟨w.heap.size + 1 + 1, 2, none⟩) hl _).setCell (p := ⟨w.heap.size + 1 + 1, 3, none⟩) hl _⟩
  · have hk2 : (nh : Int) ≤ k := by omega
    have i1 : decide (k < 0) = false := decide_eq_false h0
    have i3 : (k < 0) = False := by simp; omega
    have i2 : decide ((nh : Int) ≤ k) = true := decide_eq_true hk2
    have i4 : ((nh : Int) ≤ k) = True := by simp; exact hk2
    obtain ⟨⟨r0, r1, r2, r3⟩, g0, g1, g2, g3⟩ := HZ.out.rc
    go_wp2_with fail
    refine bodyPost_ret (v := .tuple #[.agg #[.string ⟨#[]⟩, .slice none 0 0, .slice none 0 0, .slice none 0 0], .int .i64 2]) (by simp [results, Tryz.results65, go_sem, r0, r1, r2, r3]) rfl ?_
    have hl : w.heap.size ≤ w.heap.size + 1 + 1 := by omega
    exact ⟨rfl, (((HZ.out.bel.setCell (p := ⟨w.heap.size + 1 + 1, 0, none⟩) hl _).setCell (p := ⟨w.heap.size + 1 + 1, 1, none⟩) hl _).setCell (p := ⟨w.heap.size + 1 + 1, 2, none⟩) hl _).setCell (p := ⟨w.heap.size + 1 + 1, 3, none⟩) hl _⟩
theorem pair_row {W : World} {S : Nat → Prop} {k1 k2 : Int} {n1 t1 n2 t2 : ByteArray} {l1 l2 : Its} {A1 A2 : Option Addr} {m1 c1 m2 c2 : Nat} (h1 : SlI W S A1 l1) (h2 : SlI W S A2 l2) (hS : ∀ g, S g → g < W.heap.size) (e1 : l1.len = m1) (e2 : l2.len = m2) :
    SlI (W.alloc (.cells #[.int .i64 k1, .string n1, .string t1, .slice A1 m1 c1, .int .i64 k2, .string n2, .string t2, .slice A2 m2 c2] 63)) (fun g => S g ∨ g = W.heap.size) (some ⟨W.heap.size, 0, none⟩) (.cons k1 n1 t1 l1 (.cons k2 n2 t2 l2 .nil)) := by
  subst e1 e2
  have hal : Below W.heap.size W (W.alloc (.cells #[.int .i64 k1, .string n1, .string t1, .slice A1 l1.len c1, .int .i64 k2, .string n2, .string t2, .slice A2 l2.len c2] 63)) := (Below.refl _ _).alloc (Nat.le_refl _) _
  obtain ⟨L1, a1, b1⟩ := (h1.below hal hS).mono (S' := fun g => S g ∨ g = W.heap.size) (fun g hg => .inl hg)
  obtain ⟨L2, a2, b2⟩ := (h2.below hal hS).mono (S' := fun g => S g ∨ g = W.heap.size) (fun g hg => .inl hg)
  refine ⟨[.int .i64 k1, .string n1, .string t1, .slice A1 l1.len c1, .int .i64 k2, .string n2, .string t2, .slice A2 l2.len c2], fun _ => ⟨_, 0, rfl, .inr rfl, fun j u hj => ?_⟩, A1, c1, L1, _, rfl, a1, b1, A2, c2, L2, _, rfl, a2, b2, rfl⟩
  rw [Nat.zero_add, cell_of_row _ _ j _ _ _ (heap_alloc_new W _), ← hj]
  simp
end Go.Proofs.YtjhlddlocpkhkaaGreat
