/- Wallet: the law file's do; printed by genVbf.py. Wallet: the law WalletEntries; printed by genVbg.py. Wallet: words that open the arguments of a row: a wallet, a change; each string within the form's reach. -/
import Derived.Test.YtlheedcnmfekoaaWeJ41
import Derived.Test.YtlheedcnmfekoaaWeVba
import Derived.Test.YtlheedcnmfekoaaWeJ00
import Derived.SizedLaws
namespace Go.Proofs.Ytlheedcnmfekoaa
open Go.RowKit
set_option maxRecDepth 100000
set_option linter.unusedVariables false
set_option maxHeartbeats 16000000
/-- The boxes of do: the wallet, the change, the result. -/
structure DoB (w : World) (bc cs : Array Value) (W : World) : Prop where
  one : W.heap[w.heap.size]? = some (.cells bc 28 (0, 0))
  two : W.heap[w.heap.size + 1]? = some (.cells cs 46 (0, 0))
  res : W.heap[w.heap.size + 1 + 1]? = some (.cells #[.string ⟨#[]⟩, .slice none 0 0, .slice none 0 0, .slice none 0 0] 28 (0, 0))
  bel : Below w.heap.size w W
  size : w.heap.size + 3 ≤ W.heap.size
theorem DoB.next {w W w' : World} {bc cs : Array Value} (h : DoB w bc cs W) (hb : Below W.heap.size W w') : DoB w bc cs w' :=
  ⟨(hb.block _ (by have := h.size; omega)).trans h.one, (hb.block _ (by have := h.size; omega)).trans h.two, (hb.block _ (by have := h.size; omega)).trans h.res, below2 h.bel hb, Nat.le_trans h.size hb.size⟩
theorem DoB.start {w : World} {bc cs : Array Value} : DoB w bc cs (((w.alloc (.cells bc 28)).alloc (.cells cs 46)).alloc (.cells #[.string ⟨#[]⟩, .slice none 0 0, .slice none 0 0, .slice none 0 0] 28)) :=
  ⟨(Below.heap_alloc _ _ _ (by simp; omega)).trans (two_boxes w _ _).1, (Below.heap_alloc _ _ _ (by simp)).trans (two_boxes w _ _).2, by have := heap_alloc_new ((w.alloc (.cells bc 28)).alloc (.cells cs 46)) (.cells #[.string ⟨#[]⟩, .slice none 0 0, .slice none 0 0, .slice none 0 0] 28); rwa [World.size_alloc, World.size_alloc] at this, (((Below.refl _ _).alloc (Nat.le_refl _) _).alloc (by simp) _).alloc (by simp; omega) _, by simp⟩
/-- The end of do: the result is laid into its box. -/
theorem DoB.fin {w W0 w1 w2 : World} {bc cs : Array Value} {sec sec' s : ByteArray} {qs : List Az} {hs : List Hz} {us : List Uz} {Aa Ah Au A1 A2 A3 : Option Addr} {na ca nh ch nu cu n1 c1 n2 c2 n3 c3 : Nat} {z : Int} (h0 : DoB w bc cs W0) (h2 : DoB w bc cs w2) (ho : OutF W0 sec qs hs us Aa na ca Ah nh ch Au nu cu sec' A1 n1 c1 A2 n2 c2 A3 n3 c3 s z w1) (hb : Below w1.heap.size w1 w2) (v0 v1 v2 v3 : Value) :
    OutF w sec qs hs us Aa na ca Ah nh ch Au nu cu sec' A1 n1 c1 A2 n2 c2 A3 n3 c3 s z ((((w2.setCell ⟨w.heap.size + 1 + 1, 0, none⟩ v0).setCell ⟨w.heap.size + 1 + 1, 1, none⟩ v1).setCell ⟨w.heap.size + 1 + 1, 2, none⟩ v2).setCell ⟨w.heap.size + 1 + 1, 3, none⟩ v3) ∧
    Below w.heap.size w ((((w2.setCell ⟨w.heap.size + 1 + 1, 0, none⟩ v0).setCell ⟨w.heap.size + 1 + 1, 1, none⟩ v1).setCell ⟨w.heap.size + 1 + 1, 2, none⟩ v2).setCell ⟨w.heap.size + 1 + 1, 3, none⟩ v3) := by
  have hl : w.heap.size ≤ w.heap.size + 1 + 1 := by omega
  refine ⟨ho.keep (by have := h0.size; omega) (fun p hp hp2 => ?_) (by simpa using hb.size), (((h2.bel.setCell (p := ⟨w.heap.size + 1 + 1, 0, none⟩) hl _).setCell (p := ⟨w.heap.size + 1 + 1, 1, none⟩) hl _).setCell (p := ⟨w.heap.size + 1 + 1, 2, none⟩) hl _).setCell (p := ⟨w.heap.size + 1 + 1, 3, none⟩) hl _⟩
  have hne : ∀ (V : World) (i : Nat) (u : Value), (V.setCell ⟨w.heap.size + 1 + 1, i, none⟩ u).cell? p = V.cell? p := fun V i u => World.cell?_setCell_other _ _ _ _ (fun e => by have := congrArg Addr.block e; have := h0.size; simp at *; omega)
  rw [hne, hne, hne, hne]
  exact hb.cell hp2
theorem law56_do (sec : ByteArray) (qs : List Az) (hs : List Hz) (us : List Uz) (Aa Ah Au : Option Addr) (na ca nh ch nu cu : Nat) (kd : Int) (qi qc qn qx qb nc : ByteArray) (ix : Int) (x : Hz) (A : Option Addr) (n c : Nat) (sc : ByteArray) (pd lm : Int) (S : Nat → Prop) (w : World) (hf : FewW qs hs us) (hq : qs.length = na) (hn : hs.length = nh) (hu : us.length = nu) (h : WalM w S qs hs us Aa Ah Au) (hS : ∀ g, S g → g < w.heap.size) (hkd : 0 ≤ kd ∧ kd ≤ 255) (hsz : qi.size + qc.size + qn.size + qx.size + qb.size ≤ 100000) (hnc : nc.size ≤ 1000) (hsc : sc.size ≤ 1000) (hx10 : x.att.length ≤ 10) (hxs : sizeH x ≤ 600) (hnx : x.att.length = n) (hix : -9223372036854775808 ≤ ix ∧ ix ≤ 9223372036854775807) (hxv : -9223372036854775808 ≤ x.ver ∧ x.ver ≤ 9223372036854775807) (hxe : -9223372036854775808 ≤ x.ep ∧ x.ep ≤ 9223372036854775807) (hpd : -9223372036854775808 ≤ pd ∧ pd ≤ 9223372036854775807) (hlm : lm ≤ 9223372036854775807) (hrow : RowC w S A n (cellsN x.att)) :
    Calls Try.prog 10 #[.agg #[.string sec, .slice Aa na ca, .slice Ah nh ch, .slice Au nu cu], .agg #[.int .u8 kd, .string qi, .string qc, .string qn, .string qx, .string qb, .string nc, .int .i64 ix, .string x.iss, .string x.sch, .int .i64 x.ver, .slice A n c, .string x.a, .string x.e, .string x.v, .int .i64 x.ep, .string x.wit, .string sc, .int .i64 pd, .int .i64 lm]] w (Got4 w sec qs hs us Aa na ca Ah nh ch Au nu cu) := by
  have HB0 := Lib.hid (DoB.start (w := w) (bc := #[.string sec, .slice Aa na ca, .slice Ah nh ch, .slice Au nu cu]) (cs := #[.int .u8 kd, .string qi, .string qc, .string qn, .string qx, .string qb, .string nc, .int .i64 ix, .string x.iss, .string x.sch, .int .i64 x.ver, .slice A n c, .string x.a, .string x.e, .string x.v, .int .i64 x.ep, .string x.wit, .string sc, .int .i64 pd, .int .i64 lm]))
  have HCC : Hid (∀ W, DoB w #[.string sec, .slice Aa na ca, .slice Ah nh ch, .slice Au nu cu] #[.int .u8 kd, .string qi, .string qc, .string qn, .string qx, .string qb, .string nc, .int .i64 ix, .string x.iss, .string x.sch, .int .i64 x.ver, .slice A n c, .string x.a, .string x.e, .string x.v, .int .i64 x.ep, .string x.wit, .string sc, .int .i64 pd, .int .i64 lm] W → W.cell? ⟨w.heap.size, 0, none⟩ = some (.string sec) ∧ W.cell? ⟨w.heap.size, 1, none⟩ = some (.slice Aa na ca) ∧ W.cell? ⟨w.heap.size, 2, none⟩ = some (.slice Ah nh ch) ∧ W.cell? ⟨w.heap.size, 3, none⟩ = some (.slice Au nu cu) ∧ W.cell? ⟨w.heap.size + 1, 0, none⟩ = some (.int .u8 kd) ∧ W.cell? ⟨w.heap.size + 1, 1, none⟩ = some (.string qi) ∧ W.cell? ⟨w.heap.size + 1, 2, none⟩ = some (.string qc) ∧ W.cell? ⟨w.heap.size + 1, 3, none⟩ = some (.string qn) ∧ W.cell? ⟨w.heap.size + 1, 4, none⟩ = some (.string qx) ∧ W.cell? ⟨w.heap.size + 1, 5, none⟩ = some (.string qb) ∧ W.cell? ⟨w.heap.size + 1, 6, none⟩ = some (.string nc) ∧ W.cell? ⟨w.heap.size + 1, 7, none⟩ = some (.int .i64 ix) ∧ W.cell? ⟨w.heap.size + 1, 8, none⟩ = some (.string x.iss) ∧ W.cell? ⟨w.heap.size + 1, 9, none⟩ = some (.string x.sch) ∧ W.cell? ⟨w.heap.size + 1, 10, none⟩ = some (.int .i64 x.ver) ∧ W.cell? ⟨w.heap.size + 1, 11, none⟩ = some (.slice A n c) ∧ W.cell? ⟨w.heap.size + 1, 12, none⟩ = some (.string x.a) ∧ W.cell? ⟨w.heap.size + 1, 13, none⟩ = some (.string x.e) ∧ W.cell? ⟨w.heap.size + 1, 14, none⟩ = some (.string x.v) ∧ W.cell? ⟨w.heap.size + 1, 15, none⟩ = some (.int .i64 x.ep) ∧ W.cell? ⟨w.heap.size + 1, 16, none⟩ = some (.string x.wit) ∧ W.cell? ⟨w.heap.size + 1, 17, none⟩ = some (.string sc) ∧ W.cell? ⟨w.heap.size + 1, 18, none⟩ = some (.int .i64 pd) ∧ W.cell? ⟨w.heap.size + 1, 19, none⟩ = some (.int .i64 lm)) := Lib.hid (fun W h => ⟨cell_of_row _ _ 0 _ _ _ h.one, cell_of_row _ _ 1 _ _ _ h.one, cell_of_row _ _ 2 _ _ _ h.one, cell_of_row _ _ 3 _ _ _ h.one, cell_of_row _ _ 0 _ _ _ h.two, cell_of_row _ _ 1 _ _ _ h.two, cell_of_row _ _ 2 _ _ _ h.two, cell_of_row _ _ 3 _ _ _ h.two, cell_of_row _ _ 4 _ _ _ h.two, cell_of_row _ _ 5 _ _ _ h.two, cell_of_row _ _ 6 _ _ _ h.two, cell_of_row _ _ 7 _ _ _ h.two, cell_of_row _ _ 8 _ _ _ h.two, cell_of_row _ _ 9 _ _ _ h.two, cell_of_row _ _ 10 _ _ _ h.two, cell_of_row _ _ 11 _ _ _ h.two, cell_of_row _ _ 12 _ _ _ h.two, cell_of_row _ _ 13 _ _ _ h.two, cell_of_row _ _ 14 _ _ _ h.two, cell_of_row _ _ 15 _ _ _ h.two, cell_of_row _ _ 16 _ _ _ h.two, cell_of_row _ _ 17 _ _ _ h.two, cell_of_row _ _ 18 _ _ _ h.two, cell_of_row _ _ 19 _ _ _ h.two⟩)
  have HRC : Hid (∀ W, DoB w #[.string sec, .slice Aa na ca, .slice Ah nh ch, .slice Au nu cu] #[.int .u8 kd, .string qi, .string qc, .string qn, .string qx, .string qb, .string nc, .int .i64 ix, .string x.iss, .string x.sch, .int .i64 x.ver, .slice A n c, .string x.a, .string x.e, .string x.v, .int .i64 x.ep, .string x.wit, .string sc, .int .i64 pd, .int .i64 lm] W → W.cell? ⟨w.heap.size + 1 + 1, 0, none⟩ = some (.string ⟨#[]⟩) ∧ W.cell? ⟨w.heap.size + 1 + 1, 1, none⟩ = some (.slice none 0 0) ∧ W.cell? ⟨w.heap.size + 1 + 1, 2, none⟩ = some (.slice none 0 0) ∧ W.cell? ⟨w.heap.size + 1 + 1, 3, none⟩ = some (.slice none 0 0) ∧ W.frozen? ⟨w.heap.size + 1 + 1, 0, none⟩ = false ∧ W.frozen? ⟨w.heap.size + 1 + 1, 1, none⟩ = false ∧ W.frozen? ⟨w.heap.size + 1 + 1, 2, none⟩ = false ∧ W.frozen? ⟨w.heap.size + 1 + 1, 3, none⟩ = false) := Lib.hid (fun W h => ⟨cell_of_row _ _ 0 _ _ _ h.res, cell_of_row _ _ 1 _ _ _ h.res, cell_of_row _ _ 2 _ _ _ h.res, cell_of_row _ _ 3 _ _ _ h.res, frozen_of_row _ _ 0 _ _ h.res, frozen_of_row _ _ 1 _ _ h.res, frozen_of_row _ _ 2 _ _ h.res, frozen_of_row _ _ 3 _ _ h.res⟩)
  have hrem : kd.tmod 4 = 0 ∨ kd.tmod 4 = 1 ∨ kd.tmod 4 = 2 ∨ kd.tmod 4 = 3 := by
    rw [Int.tmod_eq_emod_of_nonneg hkd.1]
    omega
  rcases hrem with hrem | hrem | hrem | hrem
  · have HK := Lib.hid (fun W (hb : Below w.heap.size w W) => ask_got sec qs hs us Aa Ah Au na ca nh ch nu cu S W hf hq hn hu (h.keep (fun q hq => hb.cell (hS _ hq))) (fun g hg => Nat.lt_of_lt_of_le (hS g hg) hb.size) qi qc qn qx qb hsz)
    unfold Got3 at HK
    clear hf hq hn hu h hS hkd hsz hnc hsc hx10 hxs hnx hix hxv hxe hpd hlm hrow
    go_enter Try.func10, Try.ntmps10
    go_upto_region 1 with fail
    obtain ⟨W0, hW0⟩ : ∃ W0, (((w.alloc (.cells #[.string sec, .slice Aa na ca, .slice Ah nh ch, .slice Au nu cu] 28)).alloc (.cells #[.int .u8 kd, .string qi, .string qc, .string qn, .string qx, .string qb, .string nc, .int .i64 ix, .string x.iss, .string x.sch, .int .i64 x.ver, .slice A n c, .string x.a, .string x.e, .string x.v, .int .i64 x.ep, .string x.wit, .string sc, .int .i64 pd, .int .i64 lm] 46)).alloc (.cells #[.string ⟨#[]⟩, .slice none 0 0, .slice none 0 0, .slice none 0 0] 28)) = W0 := ⟨_, rfl⟩
    rw [hW0] at HB0 ⊢
    clear hW0
    obtain ⟨x0, x1, x2, x3, z0, z1, z2, z3, z4, z5, z6, z7, z8, z9, z10, z11, z12, z13, z14, z15, z16, z17, z18, z19⟩ := HCC.out _ HB0.out
    go_upto_region 4 with (go_at_call 21; (with_reducible refine (HK.out _ HB0.out.bel).mono ?_); rintro e w1 ⟨sec', A1, n1, c1, A2, n2, c2, A3, n3, c3, s, z, rfl, hout, hb1⟩; have HOUT := Lib.hid hout; have HB1 := Lib.hid (HB0.out.next hb1); clear hb1 hout x0 x1 x2 x3 z0 z1 z2 z3 z4 z5 z6 z7 z8 z9 z10 z11 z12 z13 z14 z15 z16 z17 z18 z19)
    have hal := (Below.refl w1.heap.size w1).alloc (Nat.le_refl _) (.cells #[.string sec', .slice A1 n1 c1, .slice A2 n2 c2, .slice A3 n3 c3] 28)
    have HAL := Lib.hid hal
    have HB2 := Lib.hid (HB1.out.next hal)
    have hbx := heap_alloc_new w1 (.cells #[.string sec', .slice A1 n1 c1, .slice A2 n2 c2, .slice A3 n3 c3] 28)
    obtain ⟨w2, hw2⟩ : ∃ w2, w1.alloc (.cells #[.string sec', .slice A1 n1 c1, .slice A2 n2 c2, .slice A3 n3 c3] 28) = w2 := ⟨_, rfl⟩
    rw [hw2] at HB2 HAL hbx ⊢
    obtain ⟨b7, hb7⟩ : ∃ b, w1.heap.size = b := ⟨_, rfl⟩
    rw [hb7] at hbx ⊢
    clear hw2 hb7 hal
    have y0 := cell_of_row _ _ 0 _ _ _ hbx
    have y1 := cell_of_row _ _ 1 _ _ _ hbx
    have y2 := cell_of_row _ _ 2 _ _ _ hbx
    have y3 := cell_of_row _ _ 3 _ _ _ hbx
    obtain ⟨r0, r1, r2, r3, g0, g1, g2, g3⟩ := HRC.out _ HB2.out
    clear hbx
    go_wp2_with fail
    refine bodyPost_ret (v := .tuple #[.agg #[.string sec', .slice A1 n1 c1, .slice A2 n2 c2, .slice A3 n3 c3], .int .i64 0, .string s, .int .i64 z]) (by simp [results, Try.results10, go_sem, r0, r1, r2, r3]) rfl ?_
    have hF := HB0.out.fin HB2.out HOUT.out HAL.out (.string sec') (.slice A1 n1 c1) (.slice A2 n2 c2) (.slice A3 n3 c3)
    exact ⟨sec', A1, n1, c1, A2, n2, c2, A3, n3, c3, s, z, 0, rfl, hF.1, hF.2⟩
  · have HK := Lib.hid (fun W (hb : Below w.heap.size w W) => store_got sec qs hs us Aa Ah Au na ca nh ch nu cu S W hf hq hn hu (h.keep (fun q hq => hb.cell (hS _ hq))) (fun g hg => Nat.lt_of_lt_of_le (hS g hg) hb.size) nc x A n c hnc hx10 hxs hnx hxv hxe (hrow.keep (fun q hq => hb.cell (hS _ hq))))
    unfold Got3 valH at HK
    clear hf hq hn hu h hS hkd hsz hnc hsc hx10 hxs hnx hix hxv hxe hpd hlm hrow
    go_enter Try.func10, Try.ntmps10
    go_upto_region 1 with fail
    obtain ⟨W0, hW0⟩ : ∃ W0, (((w.alloc (.cells #[.string sec, .slice Aa na ca, .slice Ah nh ch, .slice Au nu cu] 28)).alloc (.cells #[.int .u8 kd, .string qi, .string qc, .string qn, .string qx, .string qb, .string nc, .int .i64 ix, .string x.iss, .string x.sch, .int .i64 x.ver, .slice A n c, .string x.a, .string x.e, .string x.v, .int .i64 x.ep, .string x.wit, .string sc, .int .i64 pd, .int .i64 lm] 46)).alloc (.cells #[.string ⟨#[]⟩, .slice none 0 0, .slice none 0 0, .slice none 0 0] 28)) = W0 := ⟨_, rfl⟩
    rw [hW0] at HB0 ⊢
    clear hW0
    obtain ⟨x0, x1, x2, x3, z0, z1, z2, z3, z4, z5, z6, z7, z8, z9, z10, z11, z12, z13, z14, z15, z16, z17, z18, z19⟩ := HCC.out _ HB0.out
    go_upto_region 7 with (go_at_call 22; (with_reducible refine (HK.out _ HB0.out.bel).mono ?_); rintro e w1 ⟨sec', A1, n1, c1, A2, n2, c2, A3, n3, c3, s, z, rfl, hout, hb1⟩; have HOUT := Lib.hid hout; have HB1 := Lib.hid (HB0.out.next hb1); clear hb1 hout x0 x1 x2 x3 z0 z1 z2 z3 z4 z5 z6 z7 z8 z9 z10 z11 z12 z13 z14 z15 z16 z17 z18 z19)
    have hal := (Below.refl w1.heap.size w1).alloc (Nat.le_refl _) (.cells #[.string sec', .slice A1 n1 c1, .slice A2 n2 c2, .slice A3 n3 c3] 28)
    have HAL := Lib.hid hal
    have HB2 := Lib.hid (HB1.out.next hal)
    have hbx := heap_alloc_new w1 (.cells #[.string sec', .slice A1 n1 c1, .slice A2 n2 c2, .slice A3 n3 c3] 28)
    obtain ⟨w2, hw2⟩ : ∃ w2, w1.alloc (.cells #[.string sec', .slice A1 n1 c1, .slice A2 n2 c2, .slice A3 n3 c3] 28) = w2 := ⟨_, rfl⟩
    rw [hw2] at HB2 HAL hbx ⊢
    obtain ⟨b7, hb7⟩ : ∃ b, w1.heap.size = b := ⟨_, rfl⟩
    rw [hb7] at hbx ⊢
    clear hw2 hb7 hal
    have y0 := cell_of_row _ _ 0 _ _ _ hbx
    have y1 := cell_of_row _ _ 1 _ _ _ hbx
    have y2 := cell_of_row _ _ 2 _ _ _ hbx
    have y3 := cell_of_row _ _ 3 _ _ _ hbx
    obtain ⟨r0, r1, r2, r3, g0, g1, g2, g3⟩ := HRC.out _ HB2.out
    clear hbx
    go_wp2_with fail
    refine bodyPost_ret (v := .tuple #[.agg #[.string sec', .slice A1 n1 c1, .slice A2 n2 c2, .slice A3 n3 c3], .int .i64 0, .string s, .int .i64 z]) (by simp [results, Try.results10, go_sem, r0, r1, r2, r3]) rfl ?_
    have hF := HB0.out.fin HB2.out HOUT.out HAL.out (.string sec') (.slice A1 n1 c1) (.slice A2 n2 c2) (.slice A3 n3 c3)
    exact ⟨sec', A1, n1, c1, A2, n2, c2, A3, n3, c3, s, z, 0, rfl, hF.1, hF.2⟩
  · have HK := Lib.hid (fun W (hb : Below w.heap.size w W) => renew_got sec qs hs us Aa Ah Au na ca nh ch nu cu S W hf hq hn hu (h.keep (fun q hq => hb.cell (hS _ hq))) (fun g hg => Nat.lt_of_lt_of_le (hS g hg) hb.size) ix x A n c hx10 hxs hnx hix hxv hxe (hrow.keep (fun q hq => hb.cell (hS _ hq))))
    unfold Got3 valH at HK
    clear hf hq hn hu h hS hkd hsz hnc hsc hx10 hxs hnx hix hxv hxe hpd hlm hrow
    go_enter Try.func10, Try.ntmps10
    go_upto_region 1 with fail
    obtain ⟨W0, hW0⟩ : ∃ W0, (((w.alloc (.cells #[.string sec, .slice Aa na ca, .slice Ah nh ch, .slice Au nu cu] 28)).alloc (.cells #[.int .u8 kd, .string qi, .string qc, .string qn, .string qx, .string qb, .string nc, .int .i64 ix, .string x.iss, .string x.sch, .int .i64 x.ver, .slice A n c, .string x.a, .string x.e, .string x.v, .int .i64 x.ep, .string x.wit, .string sc, .int .i64 pd, .int .i64 lm] 46)).alloc (.cells #[.string ⟨#[]⟩, .slice none 0 0, .slice none 0 0, .slice none 0 0] 28)) = W0 := ⟨_, rfl⟩
    rw [hW0] at HB0 ⊢
    clear hW0
    obtain ⟨x0, x1, x2, x3, z0, z1, z2, z3, z4, z5, z6, z7, z8, z9, z10, z11, z12, z13, z14, z15, z16, z17, z18, z19⟩ := HCC.out _ HB0.out
    go_upto_region 10 with (go_at_call 23; (with_reducible refine (HK.out _ HB0.out.bel).mono ?_); rintro e w1 ⟨sec', A1, n1, c1, A2, n2, c2, A3, n3, c3, s, z, rfl, hout, hb1⟩; have HOUT := Lib.hid hout; have HB1 := Lib.hid (HB0.out.next hb1); clear hb1 hout x0 x1 x2 x3 z0 z1 z2 z3 z4 z5 z6 z7 z8 z9 z10 z11 z12 z13 z14 z15 z16 z17 z18 z19)
    have hal := (Below.refl w1.heap.size w1).alloc (Nat.le_refl _) (.cells #[.string sec', .slice A1 n1 c1, .slice A2 n2 c2, .slice A3 n3 c3] 28)
    have HAL := Lib.hid hal
    have HB2 := Lib.hid (HB1.out.next hal)
    have hbx := heap_alloc_new w1 (.cells #[.string sec', .slice A1 n1 c1, .slice A2 n2 c2, .slice A3 n3 c3] 28)
    obtain ⟨w2, hw2⟩ : ∃ w2, w1.alloc (.cells #[.string sec', .slice A1 n1 c1, .slice A2 n2 c2, .slice A3 n3 c3] 28) = w2 := ⟨_, rfl⟩
    rw [hw2] at HB2 HAL hbx ⊢
    obtain ⟨b7, hb7⟩ : ∃ b, w1.heap.size = b := ⟨_, rfl⟩
    rw [hb7] at hbx ⊢
    clear hw2 hb7 hal
    have y0 := cell_of_row _ _ 0 _ _ _ hbx
    have y1 := cell_of_row _ _ 1 _ _ _ hbx
    have y2 := cell_of_row _ _ 2 _ _ _ hbx
    have y3 := cell_of_row _ _ 3 _ _ _ hbx
    obtain ⟨r0, r1, r2, r3, g0, g1, g2, g3⟩ := HRC.out _ HB2.out
    clear hbx
    go_wp2_with fail
    refine bodyPost_ret (v := .tuple #[.agg #[.string sec', .slice A1 n1 c1, .slice A2 n2 c2, .slice A3 n3 c3], .int .i64 0, .string s, .int .i64 z]) (by simp [results, Try.results10, go_sem, r0, r1, r2, r3]) rfl ?_
    have hF := HB0.out.fin HB2.out HOUT.out HAL.out (.string sec') (.slice A1 n1 c1) (.slice A2 n2 c2) (.slice A3 n3 c3)
    exact ⟨sec', A1, n1, c1, A2, n2, c2, A3, n3, c3, s, z, 0, rfl, hF.1, hF.2⟩
  · have HK := Lib.hid (fun W (hb : Below w.heap.size w W) => use_got sec qs hs us Aa Ah Au na ca nh ch nu cu S W hf hq hn hu (h.keep (fun q hq => hb.cell (hS _ hq))) (fun g hg => Nat.lt_of_lt_of_le (hS g hg) hb.size) sc pd lm hsc hpd hlm)
    unfold Got4 at HK
    clear hf hq hn hu h hS hkd hsz hnc hsc hx10 hxs hnx hix hxv hxe hpd hlm hrow
    go_enter Try.func10, Try.ntmps10
    go_upto_region 1 with fail
    obtain ⟨W0, hW0⟩ : ∃ W0, (((w.alloc (.cells #[.string sec, .slice Aa na ca, .slice Ah nh ch, .slice Au nu cu] 28)).alloc (.cells #[.int .u8 kd, .string qi, .string qc, .string qn, .string qx, .string qb, .string nc, .int .i64 ix, .string x.iss, .string x.sch, .int .i64 x.ver, .slice A n c, .string x.a, .string x.e, .string x.v, .int .i64 x.ep, .string x.wit, .string sc, .int .i64 pd, .int .i64 lm] 46)).alloc (.cells #[.string ⟨#[]⟩, .slice none 0 0, .slice none 0 0, .slice none 0 0] 28)) = W0 := ⟨_, rfl⟩
    rw [hW0] at HB0 ⊢
    clear hW0
    obtain ⟨x0, x1, x2, x3, z0, z1, z2, z3, z4, z5, z6, z7, z8, z9, z10, z11, z12, z13, z14, z15, z16, z17, z18, z19⟩ := HCC.out _ HB0.out
    go_wp2_with (go_at_call 7; (with_reducible refine (HK.out _ HB0.out.bel).mono ?_); rintro e w1 ⟨sec', A1, n1, c1, A2, n2, c2, A3, n3, c3, s, z, k, rfl, hout, hb1⟩; have HOUT := Lib.hid hout; have HB1 := Lib.hid (HB0.out.next hb1); obtain ⟨r0, r1, r2, r3, g0, g1, g2, g3⟩ := HRC.out _ HB1.out; clear hb1 hout x0 x1 x2 x3 z0 z1 z2 z3 z4 z5 z6 z7 z8 z9 z10 z11 z12 z13 z14 z15 z16 z17 z18 z19)
    refine bodyPost_ret (v := .tuple #[.agg #[.string sec', .slice A1 n1 c1, .slice A2 n2 c2, .slice A3 n3 c3], .int .i64 k, .string s, .int .i64 z]) (by simp [results, Try.results10, go_sem, r0, r1, r2, r3]) rfl ?_
    have hF := HB0.out.fin HB1.out HOUT.out (Below.refl _ _) (.string sec') (.slice A1 n1 c1) (.slice A2 n2 c2) (.slice A3 n3 c3)
    exact ⟨sec', A1, n1, c1, A2, n2, c2, A3, n3, c3, s, z, k, rfl, hF.1, hF.2⟩
theorem sumA_mem {l : List Az} {y : Az} (h : y ∈ l) : sizeA y ≤ sumA l := by
  induction l with
  | nil => cases h
  | cons z r ih =>
    rcases List.mem_cons.1 h with rfl | h
    · simp only [sumA]; omega
    · have := ih h; simp only [sumA]; omega
theorem sumU_mem {l : List Uz} {y : Uz} (h : y ∈ l) : y.1.size ≤ sumU l := by
  induction l with
  | nil => cases h
  | cons z r ih =>
    rcases List.mem_cons.1 h with rfl | h
    · simp only [sumU]; omega
    · have := ih h; simp only [sumU]; omega
theorem few_all {sec : ByteArray} {qs : List Az} {hs : List Hz} {us : List Uz} (h : fewB sec qs hs us = true) : (qs.length ≤ 8 ∧ hs.length ≤ 8 ∧ us.length ≤ 8 ∧ sec.size ≤ 200 ∧ sumA qs + sumU us ≤ 1200) ∧ ∀ x ∈ hs, x.att.length ≤ 10 ∧ sizeH x ≤ 600 := by
  unfold fewB at h
  rw [Bool.and_eq_true] at h
  refine ⟨of_decide_eq_true h.1, fun x hx => ?_⟩
  have := List.all_eq_true.1 h.2 x hx
  exact of_decide_eq_true this
theorem few_ok {sec : ByteArray} {qs : List Az} {hs : List Hz} {us : List Uz} (h : fewB sec qs hs us = true) (hwf : ∀ x ∈ us, (Lit.int .i64 x.2.1).wf = true) : FewW qs hs us := by
  obtain ⟨⟨h1, h2, h3, h4, h5⟩, h6⟩ := few_all h
  refine ⟨h1, h2, h3, fun x hx => (h6 x hx).1, ⟨by omega, by omega, by omega, fun x hx => ?_, fun x hx => by have := (h6 x hx).1; omega, fun x hx => ⟨?_, hwf x hx⟩⟩⟩
  · have := sumA_mem hx; unfold sizeA at this; omega
  · have := sumU_mem hx; omega
theorem short_all {y : Az} {x : Hz} {nc sc : ByteArray} (h : shortB y x nc sc = true) : sizeA y ≤ 1200 ∧ (x.att.length ≤ 10 ∧ sizeH x ≤ 600) ∧ nc.size + sc.size ≤ 400 := by
  unfold shortB at h
  simp only [Bool.and_eq_true] at h
  have h1 := (few_all h.1).1.2.2.2.2
  simp only [sumA, sumU] at h1
  exact ⟨by omega, of_decide_eq_true h.2.1, of_decide_eq_true h.2.2⟩
/-- The boxes of the law: the wallet and the change. -/
structure LwB (w : World) (bc cs : Array Value) (W : World) : Prop where
  one : W.heap[w.heap.size]? = some (.cells bc 28 (0, 0))
  two : W.heap[w.heap.size + 1]? = some (.cells cs 46 (0, 0))
  bel : Below w.heap.size w W
  size : w.heap.size + 2 ≤ W.heap.size
theorem LwB.next {w W w' : World} {bc cs : Array Value} (h : LwB w bc cs W) (hb : Below W.heap.size W w') : LwB w bc cs w' :=
  ⟨(hb.block _ (by have := h.size; omega)).trans h.one, (hb.block _ (by have := h.size; omega)).trans h.two, below2 h.bel hb, Nat.le_trans h.size hb.size⟩
theorem LwB.start {w : World} {bc cs : Array Value} : LwB w bc cs ((w.alloc (.cells bc 28)).alloc (.cells cs 46)) :=
  ⟨(two_boxes w _ _).1, (two_boxes w _ _).2, ((Below.refl _ _).alloc (Nat.le_refl _) _).alloc (by simp) _, by simp⟩
theorem wpList_look {P : Program} {ops : Array Oper} {rest : List Oper} {o : Oper} {a : Act} {w : World} {Q : Exit → Act → World → Prop} (h : wpList P ops Q (o :: rest) a w) : wpList P ops Q (o :: rest) a w := h
theorem wpList_load_row_g {P : Program} {ops : Array Oper} {rest : List Oper} {o : Oper} {a : Act} {w : World} {Q : Exit → Act → World → Prop} (hw : Region.wanted o (yielded ops a.tmps) = true) (ty : TypeId) (x : Operand) (ho : o.op = .load ty x)
    (g : Nat) (hx : a.eval x = .pointer (some ⟨g, 0, none⟩)) (t : TypeId) (cs : Array Value) (fr : Nat × Nat) (d : TypeDesc) (hg : w.heap[g]? = some (.cells cs t fr))
    (hu : P.underlying ty = some d) (hd : (match d with | .struct _ | .array _ _ => true | _ => false) = true) (hi : (P.info? ty).map (·.size) = some cs.size)
    (h : wpList P ops Q rest (a.put o.dst (.agg cs)) w) : wpList P ops Q (o :: rest) a w :=
  wpList_step fun K hK => by rw [if_pos hw]; exact wp_load_row ty x ho g hx t cs fr d hg hu hd hi (hK _ _ h)
theorem info20 : (Try.prog.info? 46).map (·.size) = some 20 := by kernel_rfl
theorem entries_many (sec : ByteArray) (qs : List Az) (hs : List Hz) (us : List Uz) (Aa Ah Au : Option Addr) (na ca nh ch nu cu : Nat) (kd : Int) (qi qc qn qx qb nc : ByteArray) (ix : Int) (x : Hz) (A : Option Addr) (n c : Nat) (sc : ByteArray) (pd lm : Int) (S : Nat → Prop) (w : World) (r : Nat) (hr : r ≤ 140737488355328) (hba : ∀ x ∈ qs, BndA r x) (hbh : ∀ x ∈ hs, BndH r x) (hbu : ∀ x ∈ us, x.1.size ≤ r) (hwf : ∀ x ∈ us, (Lit.int .i64 x.2.1).wf = true) (hbc : BndA r (qi, qc, qn, qx, qb)) (hbx : BndH r x) (hbn : nc.size ≤ r) (hbs : sc.size ≤ r) (hq : qs.length = na) (hn : hs.length = nh) (hu : us.length = nu) (h : WalM w S qs hs us Aa Ah Au) (hS : ∀ g, S g → g < w.heap.size) (hkd : 0 ≤ kd ∧ kd ≤ 255) (hnx : x.att.length = n) (hix : -9223372036854775808 ≤ ix ∧ ix ≤ 9223372036854775807) (hxv : -9223372036854775808 ≤ x.ver ∧ x.ver ≤ 9223372036854775807) (hxe : -9223372036854775808 ≤ x.ep ∧ x.ep ≤ 9223372036854775807) (hpd : -9223372036854775808 ≤ pd ∧ pd ≤ 9223372036854775807) (hlm : lm ≤ 9223372036854775807) (hrow : RowC w S A n (cellsN x.att)) (hfw : fewB sec qs hs us = false) :
    Calls Try.prog 4 #[.agg #[.string sec, .slice Aa na ca, .slice Ah nh ch, .slice Au nu cu], .agg #[.int .u8 kd, .string qi, .string qc, .string qn, .string qx, .string qb, .string nc, .int .i64 ix, .string x.iss, .string x.sch, .int .i64 x.ver, .slice A n c, .string x.a, .string x.e, .string x.v, .int .i64 x.ep, .string x.wit, .string sc, .int .i64 pd, .int .i64 lm]] w fun e w' => e = .returned (.bool true) ∧ Below w.heap.size w w' := by
  have HAW := Lib.hid (fun W => law56_awake W)
  have HB0 := Lib.hid (LwB.start (w := w) (bc := #[.string sec, .slice Aa na ca, .slice Ah nh ch, .slice Au nu cu]) (cs := #[.int .u8 kd, .string qi, .string qc, .string qn, .string qx, .string qb, .string nc, .int .i64 ix, .string x.iss, .string x.sch, .int .i64 x.ver, .slice A n c, .string x.a, .string x.e, .string x.v, .int .i64 x.ep, .string x.wit, .string sc, .int .i64 pd, .int .i64 lm]))
  have HCC : Hid (∀ W, LwB w #[.string sec, .slice Aa na ca, .slice Ah nh ch, .slice Au nu cu] #[.int .u8 kd, .string qi, .string qc, .string qn, .string qx, .string qb, .string nc, .int .i64 ix, .string x.iss, .string x.sch, .int .i64 x.ver, .slice A n c, .string x.a, .string x.e, .string x.v, .int .i64 x.ep, .string x.wit, .string sc, .int .i64 pd, .int .i64 lm] W → W.cell? ⟨w.heap.size, 0, none⟩ = some (.string sec) ∧ W.cell? ⟨w.heap.size, 1, none⟩ = some (.slice Aa na ca) ∧ W.cell? ⟨w.heap.size, 2, none⟩ = some (.slice Ah nh ch) ∧ W.cell? ⟨w.heap.size, 3, none⟩ = some (.slice Au nu cu) ∧ W.cell? ⟨w.heap.size + 1, 0, none⟩ = some (.int .u8 kd) ∧ W.cell? ⟨w.heap.size + 1, 1, none⟩ = some (.string qi) ∧ W.cell? ⟨w.heap.size + 1, 2, none⟩ = some (.string qc) ∧ W.cell? ⟨w.heap.size + 1, 3, none⟩ = some (.string qn) ∧ W.cell? ⟨w.heap.size + 1, 4, none⟩ = some (.string qx) ∧ W.cell? ⟨w.heap.size + 1, 5, none⟩ = some (.string qb) ∧ W.cell? ⟨w.heap.size + 1, 6, none⟩ = some (.string nc) ∧ W.cell? ⟨w.heap.size + 1, 7, none⟩ = some (.int .i64 ix) ∧ W.cell? ⟨w.heap.size + 1, 8, none⟩ = some (.string x.iss) ∧ W.cell? ⟨w.heap.size + 1, 9, none⟩ = some (.string x.sch) ∧ W.cell? ⟨w.heap.size + 1, 10, none⟩ = some (.int .i64 x.ver) ∧ W.cell? ⟨w.heap.size + 1, 11, none⟩ = some (.slice A n c) ∧ W.cell? ⟨w.heap.size + 1, 12, none⟩ = some (.string x.a) ∧ W.cell? ⟨w.heap.size + 1, 13, none⟩ = some (.string x.e) ∧ W.cell? ⟨w.heap.size + 1, 14, none⟩ = some (.string x.v) ∧ W.cell? ⟨w.heap.size + 1, 15, none⟩ = some (.int .i64 x.ep) ∧ W.cell? ⟨w.heap.size + 1, 16, none⟩ = some (.string x.wit) ∧ W.cell? ⟨w.heap.size + 1, 17, none⟩ = some (.string sc) ∧ W.cell? ⟨w.heap.size + 1, 18, none⟩ = some (.int .i64 pd) ∧ W.cell? ⟨w.heap.size + 1, 19, none⟩ = some (.int .i64 lm)) := Lib.hid (fun W h => ⟨cell_of_row _ _ 0 _ _ _ h.one, cell_of_row _ _ 1 _ _ _ h.one, cell_of_row _ _ 2 _ _ _ h.one, cell_of_row _ _ 3 _ _ _ h.one, cell_of_row _ _ 0 _ _ _ h.two, cell_of_row _ _ 1 _ _ _ h.two, cell_of_row _ _ 2 _ _ _ h.two, cell_of_row _ _ 3 _ _ _ h.two, cell_of_row _ _ 4 _ _ _ h.two, cell_of_row _ _ 5 _ _ _ h.two, cell_of_row _ _ 6 _ _ _ h.two, cell_of_row _ _ 7 _ _ _ h.two, cell_of_row _ _ 8 _ _ _ h.two, cell_of_row _ _ 9 _ _ _ h.two, cell_of_row _ _ 10 _ _ _ h.two, cell_of_row _ _ 11 _ _ _ h.two, cell_of_row _ _ 12 _ _ _ h.two, cell_of_row _ _ 13 _ _ _ h.two, cell_of_row _ _ 14 _ _ _ h.two, cell_of_row _ _ 15 _ _ _ h.two, cell_of_row _ _ 16 _ _ _ h.two, cell_of_row _ _ 17 _ _ _ h.two, cell_of_row _ _ 18 _ _ _ h.two, cell_of_row _ _ 19 _ _ _ h.two⟩)
  have hk : ∀ W, Below w.heap.size w W → WalM W S qs hs us Aa Ah Au := fun W hb => h.keep (fun q hq => hb.cell (hS _ hq))
  have hr' : ∀ W, Below w.heap.size w W → RowC W S A n (cellsN x.att) := fun W hb => hrow.keep (fun q hq => hb.cell (hS _ hq))
  have hs' : ∀ W, Below w.heap.size w W → ∀ g, S g → g < W.heap.size := fun W hb g hg => Nat.lt_of_lt_of_le (hS g hg) hb.size
  have HMEM := Lib.hid (And.intro hk hs')
  have HF := Lib.hid (fun W (hb : Below w.heap.size w W) => law56_few sec qs hs us Aa Ah Au na ca nh ch nu cu S W r hr hba hbh hbu hq hn hu (hk W hb) (hs' W hb))
  have HSH := Lib.hid (fun W (hb : Below w.heap.size w W) => law56_short kd qi qc qn qx qb nc ix x A n c sc pd lm S W r hr hbc hbx hbn hbs hnx (hr' W hb) (hs' W hb))
  rw [hfw] at HF
  clear hr hba hbh hbu hwf hbc hbx hbn hbs hq hn hu h hS hkd hnx hix hxv hxe hpd hlm hrow hk hr' hs' hfw
  go_enter Try.func4, Try.ntmps4
  go_upto_region 1 with fail
  obtain ⟨W0, hW0⟩ : ∃ W0, ((w.alloc (.cells #[.string sec, .slice Aa na ca, .slice Ah nh ch, .slice Au nu cu] 28)).alloc (.cells #[.int .u8 kd, .string qi, .string qc, .string qn, .string qx, .string qb, .string nc, .int .i64 ix, .string x.iss, .string x.sch, .int .i64 x.ver, .slice A n c, .string x.a, .string x.e, .string x.v, .int .i64 x.ep, .string x.wit, .string sc, .int .i64 pd, .int .i64 lm] 46)) = W0 := ⟨_, rfl⟩
  rw [hW0] at HB0 ⊢
  clear hW0
  obtain ⟨x0, x1, x2, x3, z0, z1, z2, z3, z4, z5, z6, z7, z8, z9, z10, z11, z12, z13, z14, z15, z16, z17, z18, z19⟩ := HCC.out _ HB0.out
  go_wp2_with (first
    | ((with_reducible refine wpList_look ?_); refine wpList_load_row_g (by rfl) 46 (.tmp 3) rfl (w.heap.size + 1) rfl 46 #[.int .u8 kd, .string qi, .string qc, .string qn, .string qx, .string qb, .string nc, .int .i64 ix, .string x.iss, .string x.sch, .int .i64 x.ver, .slice A n c, .string x.a, .string x.e, .string x.v, .int .i64 x.ep, .string x.wit, .string sc, .int .i64 pd, .int .i64 lm] (0, 0) _ HB2.out.two Try.underlying46 rfl (info20.trans rfl) ?_)
    | ((with_reducible refine wpList_look ?_); refine wpList_load_row_g (by rfl) 46 (.tmp 3) rfl (w.heap.size + 1) rfl 46 #[.int .u8 kd, .string qi, .string qc, .string qn, .string qx, .string qb, .string nc, .int .i64 ix, .string x.iss, .string x.sch, .int .i64 x.ver, .slice A n c, .string x.a, .string x.e, .string x.v, .int .i64 x.ep, .string x.wit, .string sc, .int .i64 pd, .int .i64 lm] (0, 0) _ HB1.out.two Try.underlying46 rfl (info20.trans rfl) ?_)
    | ((with_reducible refine wpList_look ?_); refine wpList_load_row_g (by rfl) 46 (.tmp 3) rfl (w.heap.size + 1) rfl 46 #[.int .u8 kd, .string qi, .string qc, .string qn, .string qx, .string qb, .string nc, .int .i64 ix, .string x.iss, .string x.sch, .int .i64 x.ver, .slice A n c, .string x.a, .string x.e, .string x.v, .int .i64 x.ep, .string x.wit, .string sc, .int .i64 pd, .int .i64 lm] (0, 0) _ HB0.out.two Try.underlying46 rfl (info20.trans rfl) ?_)
    | (go_at_call 8; (with_reducible refine (HF.out _ HB0.out.bel).mono ?_); rintro e w1 ⟨rfl, hb1⟩; have HB1 := Lib.hid (HB0.out.next hb1); clear hb1)
    | (go_at_call 5; (with_reducible refine (HAW.out _).mono ?_); rintro e w2 ⟨rfl, hb2⟩; have HB2 := Lib.hid (HB1.out.next hb2); clear hb2))
  go_ret
  exact ⟨rfl, HB2.out.bel⟩
theorem entries_long (sec : ByteArray) (qs : List Az) (hs : List Hz) (us : List Uz) (Aa Ah Au : Option Addr) (na ca nh ch nu cu : Nat) (kd : Int) (qi qc qn qx qb nc : ByteArray) (ix : Int) (x : Hz) (A : Option Addr) (n c : Nat) (sc : ByteArray) (pd lm : Int) (S : Nat → Prop) (w : World) (r : Nat) (hr : r ≤ 140737488355328) (hba : ∀ x ∈ qs, BndA r x) (hbh : ∀ x ∈ hs, BndH r x) (hbu : ∀ x ∈ us, x.1.size ≤ r) (hwf : ∀ x ∈ us, (Lit.int .i64 x.2.1).wf = true) (hbc : BndA r (qi, qc, qn, qx, qb)) (hbx : BndH r x) (hbn : nc.size ≤ r) (hbs : sc.size ≤ r) (hq : qs.length = na) (hn : hs.length = nh) (hu : us.length = nu) (h : WalM w S qs hs us Aa Ah Au) (hS : ∀ g, S g → g < w.heap.size) (hkd : 0 ≤ kd ∧ kd ≤ 255) (hnx : x.att.length = n) (hix : -9223372036854775808 ≤ ix ∧ ix ≤ 9223372036854775807) (hxv : -9223372036854775808 ≤ x.ver ∧ x.ver ≤ 9223372036854775807) (hxe : -9223372036854775808 ≤ x.ep ∧ x.ep ≤ 9223372036854775807) (hpd : -9223372036854775808 ≤ pd ∧ pd ≤ 9223372036854775807) (hlm : lm ≤ 9223372036854775807) (hrow : RowC w S A n (cellsN x.att)) (hfw : fewB sec qs hs us = true) (hsw : shortB (qi, qc, qn, qx, qb) x nc sc = false) :
    Calls Try.prog 4 #[.agg #[.string sec, .slice Aa na ca, .slice Ah nh ch, .slice Au nu cu], .agg #[.int .u8 kd, .string qi, .string qc, .string qn, .string qx, .string qb, .string nc, .int .i64 ix, .string x.iss, .string x.sch, .int .i64 x.ver, .slice A n c, .string x.a, .string x.e, .string x.v, .int .i64 x.ep, .string x.wit, .string sc, .int .i64 pd, .int .i64 lm]] w fun e w' => e = .returned (.bool true) ∧ Below w.heap.size w w' := by
  have HAW := Lib.hid (fun W => law56_awake W)
  have HB0 := Lib.hid (LwB.start (w := w) (bc := #[.string sec, .slice Aa na ca, .slice Ah nh ch, .slice Au nu cu]) (cs := #[.int .u8 kd, .string qi, .string qc, .string qn, .string qx, .string qb, .string nc, .int .i64 ix, .string x.iss, .string x.sch, .int .i64 x.ver, .slice A n c, .string x.a, .string x.e, .string x.v, .int .i64 x.ep, .string x.wit, .string sc, .int .i64 pd, .int .i64 lm]))
  have HCC : Hid (∀ W, LwB w #[.string sec, .slice Aa na ca, .slice Ah nh ch, .slice Au nu cu] #[.int .u8 kd, .string qi, .string qc, .string qn, .string qx, .string qb, .string nc, .int .i64 ix, .string x.iss, .string x.sch, .int .i64 x.ver, .slice A n c, .string x.a, .string x.e, .string x.v, .int .i64 x.ep, .string x.wit, .string sc, .int .i64 pd, .int .i64 lm] W → W.cell? ⟨w.heap.size, 0, none⟩ = some (.string sec) ∧ W.cell? ⟨w.heap.size, 1, none⟩ = some (.slice Aa na ca) ∧ W.cell? ⟨w.heap.size, 2, none⟩ = some (.slice Ah nh ch) ∧ W.cell? ⟨w.heap.size, 3, none⟩ = some (.slice Au nu cu) ∧ W.cell? ⟨w.heap.size + 1, 0, none⟩ = some (.int .u8 kd) ∧ W.cell? ⟨w.heap.size + 1, 1, none⟩ = some (.string qi) ∧ W.cell? ⟨w.heap.size + 1, 2, none⟩ = some (.string qc) ∧ W.cell? ⟨w.heap.size + 1, 3, none⟩ = some (.string qn) ∧ W.cell? ⟨w.heap.size + 1, 4, none⟩ = some (.string qx) ∧ W.cell? ⟨w.heap.size + 1, 5, none⟩ = some (.string qb) ∧ W.cell? ⟨w.heap.size + 1, 6, none⟩ = some (.string nc) ∧ W.cell? ⟨w.heap.size + 1, 7, none⟩ = some (.int .i64 ix) ∧ W.cell? ⟨w.heap.size + 1, 8, none⟩ = some (.string x.iss) ∧ W.cell? ⟨w.heap.size + 1, 9, none⟩ = some (.string x.sch) ∧ W.cell? ⟨w.heap.size + 1, 10, none⟩ = some (.int .i64 x.ver) ∧ W.cell? ⟨w.heap.size + 1, 11, none⟩ = some (.slice A n c) ∧ W.cell? ⟨w.heap.size + 1, 12, none⟩ = some (.string x.a) ∧ W.cell? ⟨w.heap.size + 1, 13, none⟩ = some (.string x.e) ∧ W.cell? ⟨w.heap.size + 1, 14, none⟩ = some (.string x.v) ∧ W.cell? ⟨w.heap.size + 1, 15, none⟩ = some (.int .i64 x.ep) ∧ W.cell? ⟨w.heap.size + 1, 16, none⟩ = some (.string x.wit) ∧ W.cell? ⟨w.heap.size + 1, 17, none⟩ = some (.string sc) ∧ W.cell? ⟨w.heap.size + 1, 18, none⟩ = some (.int .i64 pd) ∧ W.cell? ⟨w.heap.size + 1, 19, none⟩ = some (.int .i64 lm)) := Lib.hid (fun W h => ⟨cell_of_row _ _ 0 _ _ _ h.one, cell_of_row _ _ 1 _ _ _ h.one, cell_of_row _ _ 2 _ _ _ h.one, cell_of_row _ _ 3 _ _ _ h.one, cell_of_row _ _ 0 _ _ _ h.two, cell_of_row _ _ 1 _ _ _ h.two, cell_of_row _ _ 2 _ _ _ h.two, cell_of_row _ _ 3 _ _ _ h.two, cell_of_row _ _ 4 _ _ _ h.two, cell_of_row _ _ 5 _ _ _ h.two, cell_of_row _ _ 6 _ _ _ h.two, cell_of_row _ _ 7 _ _ _ h.two, cell_of_row _ _ 8 _ _ _ h.two, cell_of_row _ _ 9 _ _ _ h.two, cell_of_row _ _ 10 _ _ _ h.two, cell_of_row _ _ 11 _ _ _ h.two, cell_of_row _ _ 12 _ _ _ h.two, cell_of_row _ _ 13 _ _ _ h.two, cell_of_row _ _ 14 _ _ _ h.two, cell_of_row _ _ 15 _ _ _ h.two, cell_of_row _ _ 16 _ _ _ h.two, cell_of_row _ _ 17 _ _ _ h.two, cell_of_row _ _ 18 _ _ _ h.two, cell_of_row _ _ 19 _ _ _ h.two⟩)
  have hk : ∀ W, Below w.heap.size w W → WalM W S qs hs us Aa Ah Au := fun W hb => h.keep (fun q hq => hb.cell (hS _ hq))
  have hr' : ∀ W, Below w.heap.size w W → RowC W S A n (cellsN x.att) := fun W hb => hrow.keep (fun q hq => hb.cell (hS _ hq))
  have hs' : ∀ W, Below w.heap.size w W → ∀ g, S g → g < W.heap.size := fun W hb g hg => Nat.lt_of_lt_of_le (hS g hg) hb.size
  have HMEM := Lib.hid (And.intro hk hs')
  have HF := Lib.hid (fun W (hb : Below w.heap.size w W) => law56_few sec qs hs us Aa Ah Au na ca nh ch nu cu S W r hr hba hbh hbu hq hn hu (hk W hb) (hs' W hb))
  have HSH := Lib.hid (fun W (hb : Below w.heap.size w W) => law56_short kd qi qc qn qx qb nc ix x A n c sc pd lm S W r hr hbc hbx hbn hbs hnx (hr' W hb) (hs' W hb))
  rw [hfw] at HF
  rw [hsw] at HSH
  clear hr hba hbh hbu hwf hbc hbx hbn hbs hq hn hu h hS hkd hnx hix hxv hxe hpd hlm hrow hk hr' hs' hfw hsw
  go_enter Try.func4, Try.ntmps4
  go_upto_region 1 with fail
  obtain ⟨W0, hW0⟩ : ∃ W0, ((w.alloc (.cells #[.string sec, .slice Aa na ca, .slice Ah nh ch, .slice Au nu cu] 28)).alloc (.cells #[.int .u8 kd, .string qi, .string qc, .string qn, .string qx, .string qb, .string nc, .int .i64 ix, .string x.iss, .string x.sch, .int .i64 x.ver, .slice A n c, .string x.a, .string x.e, .string x.v, .int .i64 x.ep, .string x.wit, .string sc, .int .i64 pd, .int .i64 lm] 46)) = W0 := ⟨_, rfl⟩
  rw [hW0] at HB0 ⊢
  clear hW0
  obtain ⟨x0, x1, x2, x3, z0, z1, z2, z3, z4, z5, z6, z7, z8, z9, z10, z11, z12, z13, z14, z15, z16, z17, z18, z19⟩ := HCC.out _ HB0.out
  go_wp2_with (first
    | ((with_reducible refine wpList_look ?_); refine wpList_load_row_g (by rfl) 46 (.tmp 3) rfl (w.heap.size + 1) rfl 46 #[.int .u8 kd, .string qi, .string qc, .string qn, .string qx, .string qb, .string nc, .int .i64 ix, .string x.iss, .string x.sch, .int .i64 x.ver, .slice A n c, .string x.a, .string x.e, .string x.v, .int .i64 x.ep, .string x.wit, .string sc, .int .i64 pd, .int .i64 lm] (0, 0) _ HB2.out.two Try.underlying46 rfl (info20.trans rfl) ?_)
    | ((with_reducible refine wpList_look ?_); refine wpList_load_row_g (by rfl) 46 (.tmp 3) rfl (w.heap.size + 1) rfl 46 #[.int .u8 kd, .string qi, .string qc, .string qn, .string qx, .string qb, .string nc, .int .i64 ix, .string x.iss, .string x.sch, .int .i64 x.ver, .slice A n c, .string x.a, .string x.e, .string x.v, .int .i64 x.ep, .string x.wit, .string sc, .int .i64 pd, .int .i64 lm] (0, 0) _ HB1.out.two Try.underlying46 rfl (info20.trans rfl) ?_)
    | ((with_reducible refine wpList_look ?_); refine wpList_load_row_g (by rfl) 46 (.tmp 3) rfl (w.heap.size + 1) rfl 46 #[.int .u8 kd, .string qi, .string qc, .string qn, .string qx, .string qb, .string nc, .int .i64 ix, .string x.iss, .string x.sch, .int .i64 x.ver, .slice A n c, .string x.a, .string x.e, .string x.v, .int .i64 x.ep, .string x.wit, .string sc, .int .i64 pd, .int .i64 lm] (0, 0) _ HB0.out.two Try.underlying46 rfl (info20.trans rfl) ?_)
    | (go_at_call 8; (with_reducible refine (HF.out _ HB0.out.bel).mono ?_); rintro e w1 ⟨rfl, hb1⟩; have HB1 := Lib.hid (HB0.out.next hb1); clear hb1 x0 x1 x2 x3 z0 z1 z2 z3 z4 z5 z6 z7 z8 z9 z10 z11 z12 z13 z14 z15 z16 z17 z18 z19; obtain ⟨x0, x1, x2, x3, z0, z1, z2, z3, z4, z5, z6, z7, z8, z9, z10, z11, z12, z13, z14, z15, z16, z17, z18, z19⟩ := HCC.out _ HB1.out)
    | (go_at_call 9; (with_reducible refine (HSH.out _ HB1.out.bel).mono ?_); rintro e w2 ⟨rfl, hb2⟩; have HB2 := Lib.hid (HB1.out.next hb2); clear hb2)
    | (go_at_call 5; (with_reducible refine (HAW.out _).mono ?_); rintro e w3 ⟨rfl, hb3⟩; have HB3 := Lib.hid (HB2.out.next hb3); clear hb3))
  go_ret
  exact ⟨rfl, HB3.out.bel⟩
theorem entries_short (sec : ByteArray) (qs : List Az) (hs : List Hz) (us : List Uz) (Aa Ah Au : Option Addr) (na ca nh ch nu cu : Nat) (kd : Int) (qi qc qn qx qb nc : ByteArray) (ix : Int) (x : Hz) (A : Option Addr) (n c : Nat) (sc : ByteArray) (pd lm : Int) (S : Nat → Prop) (w : World) (r : Nat) (hr : r ≤ 140737488355328) (hba : ∀ x ∈ qs, BndA r x) (hbh : ∀ x ∈ hs, BndH r x) (hbu : ∀ x ∈ us, x.1.size ≤ r) (hwf : ∀ x ∈ us, (Lit.int .i64 x.2.1).wf = true) (hbc : BndA r (qi, qc, qn, qx, qb)) (hbx : BndH r x) (hbn : nc.size ≤ r) (hbs : sc.size ≤ r) (hq : qs.length = na) (hn : hs.length = nh) (hu : us.length = nu) (h : WalM w S qs hs us Aa Ah Au) (hS : ∀ g, S g → g < w.heap.size) (hkd : 0 ≤ kd ∧ kd ≤ 255) (hnx : x.att.length = n) (hix : -9223372036854775808 ≤ ix ∧ ix ≤ 9223372036854775807) (hxv : -9223372036854775808 ≤ x.ver ∧ x.ver ≤ 9223372036854775807) (hxe : -9223372036854775808 ≤ x.ep ∧ x.ep ≤ 9223372036854775807) (hpd : -9223372036854775808 ≤ pd ∧ pd ≤ 9223372036854775807) (hlm : lm ≤ 9223372036854775807) (hrow : RowC w S A n (cellsN x.att)) (hfw : fewB sec qs hs us = true) (hsw : shortB (qi, qc, qn, qx, qb) x nc sc = true) :
    Calls Try.prog 4 #[.agg #[.string sec, .slice Aa na ca, .slice Ah nh ch, .slice Au nu cu], .agg #[.int .u8 kd, .string qi, .string qc, .string qn, .string qx, .string qb, .string nc, .int .i64 ix, .string x.iss, .string x.sch, .int .i64 x.ver, .slice A n c, .string x.a, .string x.e, .string x.v, .int .i64 x.ep, .string x.wit, .string sc, .int .i64 pd, .int .i64 lm]] w fun e w' => e = .returned (.bool true) ∧ Below w.heap.size w w' := by
  have HAW := Lib.hid (fun W => law56_awake W)
  have HB0 := Lib.hid (LwB.start (w := w) (bc := #[.string sec, .slice Aa na ca, .slice Ah nh ch, .slice Au nu cu]) (cs := #[.int .u8 kd, .string qi, .string qc, .string qn, .string qx, .string qb, .string nc, .int .i64 ix, .string x.iss, .string x.sch, .int .i64 x.ver, .slice A n c, .string x.a, .string x.e, .string x.v, .int .i64 x.ep, .string x.wit, .string sc, .int .i64 pd, .int .i64 lm]))
  have HCC : Hid (∀ W, LwB w #[.string sec, .slice Aa na ca, .slice Ah nh ch, .slice Au nu cu] #[.int .u8 kd, .string qi, .string qc, .string qn, .string qx, .string qb, .string nc, .int .i64 ix, .string x.iss, .string x.sch, .int .i64 x.ver, .slice A n c, .string x.a, .string x.e, .string x.v, .int .i64 x.ep, .string x.wit, .string sc, .int .i64 pd, .int .i64 lm] W → W.cell? ⟨w.heap.size, 0, none⟩ = some (.string sec) ∧ W.cell? ⟨w.heap.size, 1, none⟩ = some (.slice Aa na ca) ∧ W.cell? ⟨w.heap.size, 2, none⟩ = some (.slice Ah nh ch) ∧ W.cell? ⟨w.heap.size, 3, none⟩ = some (.slice Au nu cu) ∧ W.cell? ⟨w.heap.size + 1, 0, none⟩ = some (.int .u8 kd) ∧ W.cell? ⟨w.heap.size + 1, 1, none⟩ = some (.string qi) ∧ W.cell? ⟨w.heap.size + 1, 2, none⟩ = some (.string qc) ∧ W.cell? ⟨w.heap.size + 1, 3, none⟩ = some (.string qn) ∧ W.cell? ⟨w.heap.size + 1, 4, none⟩ = some (.string qx) ∧ W.cell? ⟨w.heap.size + 1, 5, none⟩ = some (.string qb) ∧ W.cell? ⟨w.heap.size + 1, 6, none⟩ = some (.string nc) ∧ W.cell? ⟨w.heap.size + 1, 7, none⟩ = some (.int .i64 ix) ∧ W.cell? ⟨w.heap.size + 1, 8, none⟩ = some (.string x.iss) ∧ W.cell? ⟨w.heap.size + 1, 9, none⟩ = some (.string x.sch) ∧ W.cell? ⟨w.heap.size + 1, 10, none⟩ = some (.int .i64 x.ver) ∧ W.cell? ⟨w.heap.size + 1, 11, none⟩ = some (.slice A n c) ∧ W.cell? ⟨w.heap.size + 1, 12, none⟩ = some (.string x.a) ∧ W.cell? ⟨w.heap.size + 1, 13, none⟩ = some (.string x.e) ∧ W.cell? ⟨w.heap.size + 1, 14, none⟩ = some (.string x.v) ∧ W.cell? ⟨w.heap.size + 1, 15, none⟩ = some (.int .i64 x.ep) ∧ W.cell? ⟨w.heap.size + 1, 16, none⟩ = some (.string x.wit) ∧ W.cell? ⟨w.heap.size + 1, 17, none⟩ = some (.string sc) ∧ W.cell? ⟨w.heap.size + 1, 18, none⟩ = some (.int .i64 pd) ∧ W.cell? ⟨w.heap.size + 1, 19, none⟩ = some (.int .i64 lm)) := Lib.hid (fun W h => ⟨cell_of_row _ _ 0 _ _ _ h.one, cell_of_row _ _ 1 _ _ _ h.one, cell_of_row _ _ 2 _ _ _ h.one, cell_of_row _ _ 3 _ _ _ h.one, cell_of_row _ _ 0 _ _ _ h.two, cell_of_row _ _ 1 _ _ _ h.two, cell_of_row _ _ 2 _ _ _ h.two, cell_of_row _ _ 3 _ _ _ h.two, cell_of_row _ _ 4 _ _ _ h.two, cell_of_row _ _ 5 _ _ _ h.two, cell_of_row _ _ 6 _ _ _ h.two, cell_of_row _ _ 7 _ _ _ h.two, cell_of_row _ _ 8 _ _ _ h.two, cell_of_row _ _ 9 _ _ _ h.two, cell_of_row _ _ 10 _ _ _ h.two, cell_of_row _ _ 11 _ _ _ h.two, cell_of_row _ _ 12 _ _ _ h.two, cell_of_row _ _ 13 _ _ _ h.two, cell_of_row _ _ 14 _ _ _ h.two, cell_of_row _ _ 15 _ _ _ h.two, cell_of_row _ _ 16 _ _ _ h.two, cell_of_row _ _ 17 _ _ _ h.two, cell_of_row _ _ 18 _ _ _ h.two, cell_of_row _ _ 19 _ _ _ h.two⟩)
  have hk : ∀ W, Below w.heap.size w W → WalM W S qs hs us Aa Ah Au := fun W hb => h.keep (fun q hq => hb.cell (hS _ hq))
  have hr' : ∀ W, Below w.heap.size w W → RowC W S A n (cellsN x.att) := fun W hb => hrow.keep (fun q hq => hb.cell (hS _ hq))
  have hs' : ∀ W, Below w.heap.size w W → ∀ g, S g → g < W.heap.size := fun W hb g hg => Nat.lt_of_lt_of_le (hS g hg) hb.size
  have HMEM := Lib.hid (And.intro hk hs')
  have HF := Lib.hid (fun W (hb : Below w.heap.size w W) => law56_few sec qs hs us Aa Ah Au na ca nh ch nu cu S W r hr hba hbh hbu hq hn hu (hk W hb) (hs' W hb))
  have HSH := Lib.hid (fun W (hb : Below w.heap.size w W) => law56_short kd qi qc qn qx qb nc ix x A n c sc pd lm S W r hr hbc hbx hbn hbs hnx (hr' W hb) (hs' W hb))
  rw [hfw] at HF
  rw [hsw] at HSH
  have hfo := few_ok hfw hwf
  obtain ⟨t1, ⟨t2, t3⟩, t4⟩ := short_all hsw
  have HDO := Lib.hid (fun W (hb : Below w.heap.size w W) => law56_do sec qs hs us Aa Ah Au na ca nh ch nu cu kd qi qc qn qx qb nc ix x A n c sc pd lm S W hfo hq hn hu (hk W hb) (hs' W hb) hkd (by unfold sizeA at t1; dsimp only at t1; omega) (by omega) (by omega) t2 t3 hnx hix hxv hxe hpd hlm (hr' W hb))
  unfold Got4 at HDO
  clear hr hba hbh hbu hwf hbc hbx hbn hbs hq hn hu h hS hkd hnx hix hxv hxe hpd hlm hrow hk hr' hs' hfw hsw hfo t1 t2 t3 t4
  go_enter Try.func4, Try.ntmps4
  go_upto_region 1 with fail
  obtain ⟨W0, hW0⟩ : ∃ W0, ((w.alloc (.cells #[.string sec, .slice Aa na ca, .slice Ah nh ch, .slice Au nu cu] 28)).alloc (.cells #[.int .u8 kd, .string qi, .string qc, .string qn, .string qx, .string qb, .string nc, .int .i64 ix, .string x.iss, .string x.sch, .int .i64 x.ver, .slice A n c, .string x.a, .string x.e, .string x.v, .int .i64 x.ep, .string x.wit, .string sc, .int .i64 pd, .int .i64 lm] 46)) = W0 := ⟨_, rfl⟩
  rw [hW0] at HB0 ⊢
  clear hW0
  obtain ⟨x0, x1, x2, x3, z0, z1, z2, z3, z4, z5, z6, z7, z8, z9, z10, z11, z12, z13, z14, z15, z16, z17, z18, z19⟩ := HCC.out _ HB0.out
  go_upto_region 3 with (first
    | ((with_reducible refine wpList_look ?_); refine wpList_load_row_g (by rfl) 46 (.tmp 3) rfl (w.heap.size + 1) rfl 46 #[.int .u8 kd, .string qi, .string qc, .string qn, .string qx, .string qb, .string nc, .int .i64 ix, .string x.iss, .string x.sch, .int .i64 x.ver, .slice A n c, .string x.a, .string x.e, .string x.v, .int .i64 x.ep, .string x.wit, .string sc, .int .i64 pd, .int .i64 lm] (0, 0) _ HB2.out.two Try.underlying46 rfl (info20.trans rfl) ?_)
    | ((with_reducible refine wpList_look ?_); refine wpList_load_row_g (by rfl) 46 (.tmp 3) rfl (w.heap.size + 1) rfl 46 #[.int .u8 kd, .string qi, .string qc, .string qn, .string qx, .string qb, .string nc, .int .i64 ix, .string x.iss, .string x.sch, .int .i64 x.ver, .slice A n c, .string x.a, .string x.e, .string x.v, .int .i64 x.ep, .string x.wit, .string sc, .int .i64 pd, .int .i64 lm] (0, 0) _ HB1.out.two Try.underlying46 rfl (info20.trans rfl) ?_)
    | ((with_reducible refine wpList_look ?_); refine wpList_load_row_g (by rfl) 46 (.tmp 3) rfl (w.heap.size + 1) rfl 46 #[.int .u8 kd, .string qi, .string qc, .string qn, .string qx, .string qb, .string nc, .int .i64 ix, .string x.iss, .string x.sch, .int .i64 x.ver, .slice A n c, .string x.a, .string x.e, .string x.v, .int .i64 x.ep, .string x.wit, .string sc, .int .i64 pd, .int .i64 lm] (0, 0) _ HB0.out.two Try.underlying46 rfl (info20.trans rfl) ?_)
    | (go_at_call 8; (with_reducible refine (HF.out _ HB0.out.bel).mono ?_); rintro e w1 ⟨rfl, hb1⟩; have HB1 := Lib.hid (HB0.out.next hb1); clear hb1 x0 x1 x2 x3 z0 z1 z2 z3 z4 z5 z6 z7 z8 z9 z10 z11 z12 z13 z14 z15 z16 z17 z18 z19; obtain ⟨x0, x1, x2, x3, z0, z1, z2, z3, z4, z5, z6, z7, z8, z9, z10, z11, z12, z13, z14, z15, z16, z17, z18, z19⟩ := HCC.out _ HB1.out)
    | (go_at_call 9; (with_reducible refine (HSH.out _ HB1.out.bel).mono ?_); rintro e w2 ⟨rfl, hb2⟩; have HB2 := Lib.hid (HB1.out.next hb2); clear hb2 x0 x1 x2 x3 z0 z1 z2 z3 z4 z5 z6 z7 z8 z9 z10 z11 z12 z13 z14 z15 z16 z17 z18 z19; obtain ⟨x0, x1, x2, x3, z0, z1, z2, z3, z4, z5, z6, z7, z8, z9, z10, z11, z12, z13, z14, z15, z16, z17, z18, z19⟩ := HCC.out _ HB2.out))
  go_upto_region 4 with (first | ((with_reducible refine wpList_look ?_); refine wpList_load_row_g (by rfl) 46 (.tmp 3) rfl (w.heap.size + 1) rfl 46 #[.int .u8 kd, .string qi, .string qc, .string qn, .string qx, .string qb, .string nc, .int .i64 ix, .string x.iss, .string x.sch, .int .i64 x.ver, .slice A n c, .string x.a, .string x.e, .string x.v, .int .i64 x.ep, .string x.wit, .string sc, .int .i64 pd, .int .i64 lm] (0, 0) _ HB2.out.two Try.underlying46 rfl (info20.trans rfl) ?_) | (go_at_call 10; (with_reducible refine (HDO.out _ HB2.out.bel).mono ?_); rintro e w3 ⟨sec', A1, n1, c1, A2, n2, c2, A3, n3, c3, s, z, k, rfl, hout, hb3⟩; have HOUT := Lib.hid hout; have HB3 := Lib.hid (HB2.out.next hb3); have HSZ := Lib.hid hb3.size; clear hb3 hout x0 x1 x2 x3 z0 z1 z2 z3 z4 z5 z6 z7 z8 z9 z10 z11 z12 z13 z14 z15 z16 z17 z18 z19))
  have hal := (Below.refl w3.heap.size w3).alloc (Nat.le_refl _) (.cells #[.string sec', .slice A1 n1 c1, .slice A2 n2 c2, .slice A3 n3 c3] 28)
  have HAL := Lib.hid hal
  have HB4 := Lib.hid (HB3.out.next hal)
  have hbx := heap_alloc_new w3 (.cells #[.string sec', .slice A1 n1 c1, .slice A2 n2 c2, .slice A3 n3 c3] 28)
  obtain ⟨w4, hw4⟩ : ∃ w4, w3.alloc (.cells #[.string sec', .slice A1 n1 c1, .slice A2 n2 c2, .slice A3 n3 c3] 28) = w4 := ⟨_, rfl⟩
  have hlt : w3.heap.size < w4.heap.size := by rw [← hw4]; simp
  have HLT := Lib.hid hlt
  rw [hw4] at HB4 HAL hbx ⊢
  obtain ⟨b7, hb7⟩ : ∃ b, w3.heap.size = b := ⟨_, rfl⟩
  rw [hb7] at hbx ⊢
  have HB7 := Lib.hid hb7
  have HBX := Lib.hid hbx
  clear hw4 hb7 hal hlt
  have y0 := cell_of_row _ _ 0 _ _ _ hbx
  have y1 := cell_of_row _ _ 1 _ _ _ hbx
  have y2 := cell_of_row _ _ 2 _ _ _ hbx
  have y3 := cell_of_row _ _ 3 _ _ _ hbx
  clear hbx
  have hcases := HOUT.out
  unfold OutF at hcases
  rcases hcases with ⟨hz, rfl, ⟨rfl, rfl, rfl⟩, ⟨rfl, rfl, rfl⟩, ⟨rfl, rfl, rfl⟩, rfl⟩ | ⟨rfl, rfl, qs', hs', us', l1, l2, l3, hm, ⟨m1, m2, m3, m4⟩, hap⟩
  · have d1 : (z == 0) = false := by simp [hz]
    have HSM := Lib.hid (fun W => r56_Same ⟨#[]⟩ [] [] [] none none none none none none 0 0 0 0 0 0 0 0 0 (fun _ => False) W rfl rfl rfl (by decide) (by decide) (by decide) (by simp) WalM.nil_ WalM.nil_ (fun g hg => hg.elim))
    go_wp2_with (first
      | (go_at_call 11; (with_reducible refine (HSM.out _).mono ?_); rintro e w5 ⟨rfl, hb5⟩; have HB5 := Lib.hid (HB4.out.next hb5); clear hb5)
      | (go_at_call 5; (with_reducible refine (HAW.out _).mono ?_); rintro e w6 ⟨rfl, hb6⟩; have HB6 := Lib.hid (HB5.out.next hb6); clear hb6))
    go_ret
    exact ⟨rfl, HB6.out.bel⟩
  · have HM4 : Hid (WalM w4 (fun g => g < w3.heap.size) qs' hs' us' A1 A2 A3) := Lib.hid ((hm.keep (fun p hp => HAL.out.cell hp.2)).mono (fun g hg => hg.2))
    have HAP := Lib.hid (hap w4 S (HMEM.out.1 _ HB4.out.bel) (HMEM.out.2 _ HB4.out.bel))
    unfold ApGot at HAP
    have HLIM := Lib.hid (And.intro l1 (And.intro l2 (And.intro l3 (And.intro m1 (And.intro m2 (And.intro m3 m4))))))
    clear hm hap l1 l2 l3 m1 m2 m3 m4
    obtain ⟨x0, x1, x2, x3, z0, z1, z2, z3, z4, z5, z6, z7, z8, z9, z10, z11, z12, z13, z14, z15, z16, z17, z18, z19⟩ := HCC.out _ HB4.out
    go_upto_region 7 with (go_at_call 12; (with_reducible refine HAP.out.mono ?_); rintro e w5 ⟨D1, q1, f1, D2, q2, f2, D3, q3, f3, rfl, o1, o2, o3, hm5, hb5⟩; have HB5 := Lib.hid (HB4.out.next hb5); have HM5 := Lib.hid hm5; have HL5 := Lib.hid (And.intro o1 (And.intro o2 o3)); have HBB := Lib.hid hb5; clear hm5 hb5 o1 o2 o3 x0 x1 x2 x3 z0 z1 z2 z3 z4 z5 z6 z7 z8 z9 z10 z11 z12 z13 z14 z15 z16 z17 z18 z19)
    have hal5 := (Below.refl w5.heap.size w5).alloc (Nat.le_refl _) (.cells #[.string sec', .slice D1 q1 f1, .slice D2 q2 f2, .slice D3 q3 f3] 28)
    have HB6 := Lib.hid (HB5.out.next hal5)
    have hbx6 := heap_alloc_new w5 (.cells #[.string sec', .slice D1 q1 f1, .slice D2 q2 f2, .slice D3 q3 f3] 28)
    have HLT6 : Hid (w5.heap.size < (w5.alloc (.cells #[.string sec', .slice D1 q1 f1, .slice D2 q2 f2, .slice D3 q3 f3] 28)).heap.size) := Lib.hid (by simp)
    have HMa := Lib.hid (HM4.out.keep (w' := w5.alloc (.cells #[.string sec', .slice D1 q1 f1, .slice D2 q2 f2, .slice D3 q3 f3] 28)) (fun p hp => (hal5.cell (Nat.lt_of_lt_of_le (Nat.lt_trans hp HLT.out) HBB.out.size)).trans (HBB.out.cell (Nat.lt_trans hp HLT.out))))
    have HMb := Lib.hid (HM5.out.keep (w' := w5.alloc (.cells #[.string sec', .slice D1 q1 f1, .slice D2 q2 f2, .slice D3 q3 f3] 28)) (fun p hp => hal5.cell hp.2))
    have hbx4 : (w5.alloc (.cells #[.string sec', .slice D1 q1 f1, .slice D2 q2 f2, .slice D3 q3 f3] 28)).heap[b7]? = some (.cells #[.string sec', .slice A1 n1 c1, .slice A2 n2 c2, .slice A3 n3 c3] 28 (0, 0)) := (hal5.block _ (by rw [← HB7.out]; exact Nat.lt_of_lt_of_le HLT.out HBB.out.size)).trans ((HBB.out.block _ (by rw [← HB7.out]; exact HLT.out)).trans HBX.out)
    obtain ⟨w6, hw6⟩ : ∃ w6, w5.alloc (.cells #[.string sec', .slice D1 q1 f1, .slice D2 q2 f2, .slice D3 q3 f3] 28) = w6 := ⟨_, rfl⟩
    rw [hw6] at HB6 hbx6 HMa HMb hbx4 HLT6 ⊢
    obtain ⟨b8, hb8⟩ : ∃ b, w5.heap.size = b := ⟨_, rfl⟩
    rw [hb8] at hbx6 ⊢
    clear hw6 hb8 hal5 y0 y1 y2 y3
    have y0 := cell_of_row _ _ 0 _ _ _ hbx4
    have y1 := cell_of_row _ _ 1 _ _ _ hbx4
    have y2 := cell_of_row _ _ 2 _ _ _ hbx4
    have y3 := cell_of_row _ _ 3 _ _ _ hbx4
    have v0 := cell_of_row _ _ 0 _ _ _ hbx6
    have v1 := cell_of_row _ _ 1 _ _ _ hbx6
    have v2 := cell_of_row _ _ 2 _ _ _ hbx6
    have v3 := cell_of_row _ _ 3 _ _ _ hbx6
    clear hbx4 hbx6
    obtain rfl := HL5.out.1
    obtain rfl := HL5.out.2.1
    obtain rfl := HL5.out.2.2
    obtain rfl := HLIM.out.1
    obtain rfl := HLIM.out.2.1
    obtain rfl := HLIM.out.2.2.1
    have HSM := Lib.hid (r56_Same sec' qs' hs' us' A1 A2 A3 D1 D2 D3 qs'.length c1 hs'.length c2 us'.length c3 f1 f2 f3 (fun g => g < w6.heap.size) w6 rfl rfl rfl (by have := HLIM.out.2.2.2.1; omega) (by have := HLIM.out.2.2.2.2.1; omega) (by have := HLIM.out.2.2.2.2.2.1; omega) (fun x hx => by have := HLIM.out.2.2.2.2.2.2 x hx; omega) (HMa.out.mono (fun g hg => Nat.lt_trans (Nat.lt_of_lt_of_le (Nat.lt_trans hg HLT.out) HBB.out.size) HLT6.out)) (HMb.out.mono (fun g hg => Nat.lt_trans hg.2 HLT6.out)) (fun g hg => hg))
    go_wp2_with (first
      | (go_at_call 11; (with_reducible refine HSM.out.mono ?_); rintro e w7 ⟨rfl, hb7⟩; have HB8 := Lib.hid (HB6.out.next hb7); clear hb7)
      | (go_at_call 5; (with_reducible refine (HAW.out _).mono ?_); rintro e w8 ⟨rfl, hb8⟩; have HB9 := Lib.hid (HB8.out.next hb8); clear hb8))
    go_ret
    exact ⟨rfl, HB9.out.bel⟩
theorem law56_Entries (sec : ByteArray) (qs : List Az) (hs : List Hz) (us : List Uz) (Aa Ah Au : Option Addr) (na ca nh ch nu cu : Nat) (kd : Int) (qi qc qn qx qb nc : ByteArray) (ix : Int) (x : Hz) (A : Option Addr) (n c : Nat) (sc : ByteArray) (pd lm : Int) (S : Nat → Prop) (w : World) (r : Nat) (hr : r ≤ 140737488355328) (hba : ∀ x ∈ qs, BndA r x) (hbh : ∀ x ∈ hs, BndH r x) (hbu : ∀ x ∈ us, x.1.size ≤ r) (hwf : ∀ x ∈ us, (Lit.int .i64 x.2.1).wf = true) (hbc : BndA r (qi, qc, qn, qx, qb)) (hbx : BndH r x) (hbn : nc.size ≤ r) (hbs : sc.size ≤ r) (hq : qs.length = na) (hn : hs.length = nh) (hu : us.length = nu) (h : WalM w S qs hs us Aa Ah Au) (hS : ∀ g, S g → g < w.heap.size) (hkd : 0 ≤ kd ∧ kd ≤ 255) (hnx : x.att.length = n) (hix : -9223372036854775808 ≤ ix ∧ ix ≤ 9223372036854775807) (hxv : -9223372036854775808 ≤ x.ver ∧ x.ver ≤ 9223372036854775807) (hxe : -9223372036854775808 ≤ x.ep ∧ x.ep ≤ 9223372036854775807) (hpd : -9223372036854775808 ≤ pd ∧ pd ≤ 9223372036854775807) (hlm : lm ≤ 9223372036854775807) (hrow : RowC w S A n (cellsN x.att)) :
    Calls Try.prog 4 #[.agg #[.string sec, .slice Aa na ca, .slice Ah nh ch, .slice Au nu cu], .agg #[.int .u8 kd, .string qi, .string qc, .string qn, .string qx, .string qb, .string nc, .int .i64 ix, .string x.iss, .string x.sch, .int .i64 x.ver, .slice A n c, .string x.a, .string x.e, .string x.v, .int .i64 x.ep, .string x.wit, .string sc, .int .i64 pd, .int .i64 lm]] w fun e w' => e = .returned (.bool true) ∧ Below w.heap.size w w' := by
  cases hfw : fewB sec qs hs us with
  | false => exact entries_many sec qs hs us Aa Ah Au na ca nh ch nu cu kd qi qc qn qx qb nc ix x A n c sc pd lm S w r hr hba hbh hbu hwf hbc hbx hbn hbs hq hn hu h hS hkd hnx hix hxv hxe hpd hlm hrow hfw
  | true =>
    cases hsw : shortB (qi, qc, qn, qx, qb) x nc sc with
    | false => exact entries_long sec qs hs us Aa Ah Au na ca nh ch nu cu kd qi qc qn qx qb nc ix x A n c sc pd lm S w r hr hba hbh hbu hwf hbc hbx hbn hbs hq hn hu h hS hkd hnx hix hxv hxe hpd hlm hrow hfw hsw
    | true => exact entries_short sec qs hs us Aa Ah Au na ca nh ch nu cu kd qi qc qn qx qb nc ix x A n c sc pd lm S w r hr hba hbh hbu hwf hbc hbx hbn hbs hq hn hu h hS hkd hnx hix hxv hxe hpd hlm hrow hfw hsw
end Go.Proofs.Ytlheedcnmfekoaa

namespace Go.Proofs.Ytlheedcnmfekoaa
open Go.ChangeShapes Go.WideShapes Go.ChangeAt Go.WideElems Go.RowKit
set_option maxRecDepth 100000
set_option linter.unusedVariables false
set_option maxHeartbeats 4000000
theorem ceAz : Try.prog.cellsOf 37 = 5 := by kernel_rfl
theorem ceIs : Try.prog.cellsOf 35 = 2 := by kernel_rfl
theorem ceHz : Try.prog.cellsOf 44 = 9 := by kernel_rfl
theorem ceCr : Try.prog.cellsOf 42 = 7 := by kernel_rfl
theorem ceSg : Try.prog.cellsOf 40 = 3 := by kernel_rfl
theorem ceUz : Try.prog.cellsOf 56 = 3 := by kernel_rfl
theorem ceWa : Try.prog.cellsOf 28 = 4 := by kernel_rfl
theorem ceCh : Try.prog.cellsOf 46 = 20 := by kernel_rfl
theorem ceStr : Try.prog.cellsOf 9 = 1 := by kernel_rfl
theorem ceNat : Try.prog.cellsOf 23 = 1 := by kernel_rfl
theorem ceInt : Try.prog.cellsOf 3 = 1 := by kernel_rfl
theorem ceByte : Try.prog.cellsOf 5 = 1 := by kernel_rfl
theorem ceNats : Try.prog.cellsOf 38 = 1 := by kernel_rfl
theorem ceAzs : Try.prog.cellsOf 24 = 1 := by kernel_rfl
theorem ceHzs : Try.prog.cellsOf 25 = 1 := by kernel_rfl
theorem ceUzs : Try.prog.cellsOf 26 = 1 := by kernel_rfl
section
variable {H : Type}
/-- What is read lies within the form's reach. -/
def LeR (P : Program) (t : TypeId) (d : DataW H) : Prop := ∀ k ∈ d.weights P t, k ≤ reachBytes
theorem weightsEach_mem {P : Program} : ∀ (ts : List TypeId) (ds : List (DataW H)) (i : Nat) (t : TypeId) (d : DataW H), ts[i]? = some t → ds[i]? = some d → ∀ k ∈ d.weights P t, k ∈ DataW.weightsEach P ts ds
  | [], _, i, _, _, h, _, _, _ => by simp at h
  | _ :: _, [], i, _, _, _, h, _, _ => by simp at h
  | t0 :: ts, d0 :: ds, 0, t, d, h1, h2, k, hk => by
    simp at h1 h2
    subst h1 h2
    rw [DataW.weightsEach]
    exact List.mem_append_left _ hk
  | t0 :: ts, d0 :: ds, i + 1, t, d, h1, h2, k, hk => by
    simp at h1 h2
    rw [DataW.weightsEach]
    exact List.mem_append_right _ (weightsEach_mem ts ds i t d h1 h2 k hk)
theorem weightsAll_mem {P : Program} {e : TypeId} : ∀ (ds : List (DataW H)) (i : Nat) (d : DataW H), ds[i]? = some d → ∀ k ∈ d.weights P e, k ∈ DataW.weightsAll P e ds
  | [], i, _, h, _, _ => by simp at h
  | d0 :: ds, 0, d, h, k, hk => by
    simp at h
    subst h
    rw [DataW.weightsAll]
    exact List.mem_append_left _ hk
  | d0 :: ds, i + 1, d, h, k, hk => by
    simp at h
    rw [DataW.weightsAll]
    exact List.mem_append_right _ (weightsAll_mem ds i d h k hk)
variable {enc : TypeId × Value → H} {P : Program} {w : World} {base fuel : Nat} {spare : Nat → Bool} {held : Bool} {t e : TypeId} {cs : List Value} {x : DataW H × List MemPlace}
theorem tl_string (ht : P.underlying t = some .string) (hl : LeR P t x.1) (h : DataW.trod enc P w base spare held fuel t cs = some x) : ∃ s : ByteArray, cs = [.string s] ∧ s.size ≤ 140737488351232 := by
  obtain ⟨s, h1, h2, _⟩ := DataW.trod_string ht h
  refine ⟨s, h1, ?_⟩
  have := hl s.data.toList.length (by rw [h2, DataW.weights]; simp)
  have e1 : reachBytes = 140737488351232 := rfl
  rw [e1] at this
  simpa using this
theorem tl_struct {fs : Array Field} (ht : P.underlying t = some (.struct fs)) (hl : LeR P t x.1) (h : DataW.trod enc P w base spare held fuel t cs = some x) :
    cs.length = P.cellsOf t ∧ ∃ n, ∀ (i : Nat) (f : Field), fs[i]? = some f → ∃ y, DataW.trod enc P w base spare held n f.type ((cs.drop f.offset).take (P.cellsOf f.type)) = some y ∧ LeR P f.type y.1 := by
  obtain ⟨xs, n, _, hx, hlen, hxs, hfs⟩ := DataW.trod_struct ht h
  refine ⟨hlen, n, fun i f hf => ?_⟩
  have hi : i < xs.length := by rw [hxs]; exact (Array.getElem?_eq_some_iff.1 hf).1
  refine ⟨xs[i], by rw [hfs i f hf, List.getElem?_eq_getElem hi], fun k hk => hl k ?_⟩
  rw [hx, DataW.weights.eq_6] <;> first | skip | exact ht
  simp only [ht]
  exact weightsEach_mem _ _ i f.type _ (by rw [List.getElem?_map, Array.getElem?_toList, hf]; rfl) (by rw [List.getElem?_map, List.getElem?_eq_getElem hi]; rfl) k hk
theorem tl_slice (ht : P.underlying t = some (.slice e)) (hl : LeR P t x.1) (h : DataW.trod enc P w base spare held fuel t cs = some x) :
    cs = [.slice none 0 0] ∨ ∃ (a : Addr) (len cap n : Nat), cs = [.slice (some a) len cap] ∧ len ≤ cap ∧ cap ≤ maxLen ∧ ∀ i, i < len → ∃ cs' y, cs'.length = P.cellsOf e ∧ (∀ j, j < P.cellsOf e → w.cell? ((a.add (i * P.cellsOf e)).add j) = cs'[j]?) ∧ DataW.trod enc P w base spare held n e cs' = some y ∧ LeR P e y.1 := by
  rcases DataW.trod_slice ht h with h0 | ⟨a, len, cap, elems, rest, n, _, h1, hx, _, h2, h3, h4, h5, _⟩
  · exact .inl h0.1
  · refine .inr ⟨a, len, cap, n, h1, h2, h3, fun i hi => ?_⟩
    have hi' : i < elems.length := by omega
    have h6 := h5 i hi
    rw [List.getElem?_eq_getElem hi'] at h6
    obtain ⟨cs', h7, h8⟩ := Option.bind_eq_some_iff.1 h6
    obtain ⟨_, h9, h10⟩ := World.cells?_some h7
    refine ⟨cs', elems[i], h9, h10, h8, fun k hk => hl k ?_⟩
    rw [hx, DataW.weights.eq_5] <;> first | skip | exact ht
    simp only [ht]
    exact List.mem_cons_of_mem _ (List.mem_append_left _ (weightsAll_mem _ i _ (by rw [List.getElem?_map, List.getElem?_eq_getElem hi']; rfl) k hk))
end
theorem choose_list {X : Type} {p : Nat → X → Prop} : ∀ n : Nat, (∀ i, i < n → ∃ v, p i v) → ∃ L : List X, L.length = n ∧ ∀ (i : Nat) v, L[i]? = some v → p i v
  | 0, _ => ⟨[], rfl, fun i v h => by simp at h⟩
  | n + 1, h => by
    obtain ⟨L, h1, h2⟩ := choose_list n (fun i hi => h i (Nat.lt_succ_of_lt hi))
    obtain ⟨v, hv⟩ := h n (Nat.lt_succ_self n)
    refine ⟨L ++ [v], by simp [h1], fun i u hu => ?_⟩
    by_cases hi : i < L.length
    · rw [List.getElem?_append_left hi] at hu
      exact h2 i u hu
    · rw [List.getElem?_append_right (by omega)] at hu
      have h0 : i - L.length = 0 := by
        have := (List.getElem?_eq_some_iff.1 hu).1
        simp at this
        omega
      rw [h0] at hu
      simp at hu
      subst hu
      have e1 : i = n := by omega
      rw [e1]
      exact hv
theorem flat_get {X : Type} (f : X → List Value) (sz : Nat) (hf : ∀ v, (f v).length = sz) : ∀ (L : List X) (j : Nat) (u : Value), (L.flatMap f)[j]? = some u → ∃ i v r, L[i]? = some v ∧ j = i * sz + r ∧ r < sz ∧ (f v)[r]? = some u
  | [], j, u, h => by simp at h
  | v :: L, j, u, h => by
    rw [List.flatMap_cons] at h
    by_cases hj : j < (f v).length
    · rw [List.getElem?_append_left hj] at h
      exact ⟨0, v, j, rfl, by simp, by rw [← hf v]; exact hj, h⟩
    · rw [List.getElem?_append_right (by omega)] at h
      obtain ⟨i, v', r, h1, h2, h3, h4⟩ := flat_get f sz hf L _ u h
      have := hf v
      exact ⟨i + 1, v', r, h1, by rw [Nat.add_mul]; omega, h3, h4⟩
/-- A row out of what is read of its elements. -/
theorem row_of {X : Type} {W : World} {a : Addr} {len sz : Nat} (f : X → List Value) (hf : ∀ v, (f v).length = sz) (hsz : 0 < sz) (L : List X) (hL : L.length = len) (h : ∀ (i : Nat) v, L[i]? = some v → ∀ j, j < sz → W.cell? ((a.add (i * sz)).add j) = (f v)[j]?) : RowC W (fun g => g < W.heap.size) (some a) len (L.flatMap f) := by
  intro h0
  obtain ⟨v, hv⟩ : ∃ v, L[0]? = some v := ⟨L[0]'(by omega), List.getElem?_eq_getElem _⟩
  have h1 := h 0 v hv 0 hsz
  have e0 : (a.add (0 * sz)).add 0 = a := by simp [Addr.add]
  rw [e0, List.getElem?_eq_getElem (by rw [hf]; exact hsz)] at h1
  have hsp : a.spot = none := by
    unfold World.cell? at h1
    split at h1
    · split at h1
      · cases h1
      · rename_i hs
        simpa using hs
    · cases h1
  obtain ⟨g, off, sp⟩ := a
  dsimp only at hsp
  subst hsp
  refine ⟨g, off, rfl, World.block_lt_of_cell? W _ h1, fun j u hu => ?_⟩
  obtain ⟨i, v', r, h2, h3, h4, h5⟩ := flat_get f sz hf L j u hu
  have h6 := h i v' h2 r h4
  rw [addr_add, addr_add, h5] at h6
  rw [h3, ← h6]
  congr 2
  omega
def oneA (x : Az) : List Value := [.string x.1, .string x.2.1, .string x.2.2.1, .string x.2.2.2.1, .string x.2.2.2.2]
def oneU (x : Uz) : List Value := [.string x.1, .int .i64 x.2.1, .int .i64 x.2.2]
theorem flat_A : ∀ L : List Az, L.flatMap oneA = cellsA L
  | [] => rfl
  | (i, s, n, x, b) :: r => by rw [List.flatMap_cons, flat_A r]; rfl
theorem flat_U : ∀ L : List Uz, L.flatMap oneU = cellsU L
  | [] => rfl
  | (s, p, c) :: r => by rw [List.flatMap_cons, flat_U r]; rfl
theorem flat_N : ∀ L : List ByteArray, L.flatMap (fun s => [Value.string s]) = cellsN L
  | [] => rfl
  | s :: r => by rw [List.flatMap_cons, flat_N r]; rfl
section
variable {H : Type} {enc : TypeId × Value → H} {W : World} {base fuel : Nat} {sp : Nat → Bool} {held : Bool} {x : DataW H × List MemPlace}
theorem open_nat1 {c : Value} (hl : LeR Try.prog 23 x.1) (hf : DataW.trod enc Try.prog W base sp held fuel 23 [c] = some x) : ∃ s : ByteArray, c = .string s ∧ s.size ≤ 140737488351232 := by
  obtain ⟨s, e, h⟩ := tl_string Try.underlying23 hl hf
  exact ⟨s, by simpa using e, h⟩
theorem open_str1 {c : Value} (hl : LeR Try.prog 9 x.1) (hf : DataW.trod enc Try.prog W base sp held fuel 9 [c] = some x) : ∃ s : ByteArray, c = .string s ∧ s.size ≤ 140737488351232 := by
  obtain ⟨s, e, h⟩ := tl_string Try.underlying9 hl hf
  exact ⟨s, by simpa using e, h⟩
theorem open_int1 {c : Value} (hf : DataW.trod enc Try.prog W base sp held fuel 3 [c] = some x) : ∃ z : Int, c = .int .i64 z ∧ (Lit.int .i64 z).wf = true := by
  obtain ⟨z, e, _, h⟩ := DataW.trod_int Try.underlying3 hf
  exact ⟨z, by simpa using e, h⟩
theorem open_natsR {c : Value} (hl : LeR Try.prog 38 x.1) (hf : DataW.trod enc Try.prog W base sp held fuel 38 [c] = some x) :
    ∃ (A : Option Addr) (n cp : Nat) (ls : List ByteArray), c = .slice A n cp ∧ ls.length = n ∧ RowC W (fun g => g < W.heap.size) A n (cellsN ls) ∧ ∀ y ∈ ls, y.size ≤ 140737488351232 := by
  rcases tl_slice Try.underlying38 hl hf with h0 | ⟨a, len, cap, n, h1, _, _, hi⟩
  · exact ⟨none, 0, 0, [], by simpa using h0, rfl, fun h => absurd h (by simp), by simp⟩
  · rw [ceNat] at hi
    obtain ⟨L, hL, hp⟩ := choose_list (p := fun i (s : ByteArray) => (∀ j, j < 1 → W.cell? ((a.add (i * 1)).add j) = [Value.string s][j]?) ∧ s.size ≤ 140737488351232) len (fun i hil => by
      obtain ⟨cs', y, h2, h3, h4, h5⟩ := hi i hil
      match cs', h2 with
      | [c0], _ =>
      obtain ⟨s, rfl, h6⟩ := open_nat1 h5 h4
      exact ⟨s, h3, h6⟩)
    refine ⟨some a, len, cap, L, by simpa using h1, hL, ?_, fun y hy => ?_⟩
    · have := row_of (W := W) (a := a) (fun s : ByteArray => [Value.string s]) (sz := 1) (fun _ => rfl) (by decide) L hL (fun i v hv => (hp i v hv).1)
      rwa [flat_N] at this
    · obtain ⟨i, hi⟩ := List.mem_iff_getElem?.1 hy
      exact (hp i y hi).2
theorem open_askedR {c0 c1 c2 c3 c4 : Value} (hl : LeR Try.prog 37 x.1) (hf : DataW.trod enc Try.prog W base sp held fuel 37 [c0, c1, c2, c3, c4] = some x) :
    ∃ y : Az, [c0, c1, c2, c3, c4] = oneA y ∧ BndA 140737488351232 y := by
  obtain ⟨_, n, hfs⟩ := tl_struct Try.underlying37 hl hf
  obtain ⟨y0, f0, l0⟩ := hfs 0 _ rfl
  obtain ⟨y1, f1, l1⟩ := hfs 1 _ rfl
  obtain ⟨y2, f2, l2⟩ := hfs 2 _ rfl
  obtain ⟨y3, f3, l3⟩ := hfs 3 _ rfl
  simp [ceStr, ceIs] at f0 f1 f2 f3
  obtain ⟨i, rfl, b0⟩ := open_str1 l0 f0
  obtain ⟨s, rfl, b1⟩ := open_str1 l1 f1
  obtain ⟨nn, rfl, b2⟩ := open_str1 l2 f2
  obtain ⟨_, m, hgs⟩ := tl_struct Try.underlying35 l3 f3
  obtain ⟨z0, g0, k0⟩ := hgs 0 _ rfl
  obtain ⟨z1, g1, k1⟩ := hgs 1 _ rfl
  simp [ceNat] at g0 g1
  obtain ⟨xx, rfl, b3⟩ := open_nat1 k0 g0
  obtain ⟨b, rfl, b4⟩ := open_nat1 k1 g1
  exact ⟨(i, s, nn, xx, b), rfl, b0, b1, b2, b3, b4⟩
theorem open_usedR {c0 c1 c2 : Value} (hl : LeR Try.prog 56 x.1) (hf : DataW.trod enc Try.prog W base sp held fuel 56 [c0, c1, c2] = some x) :
    ∃ y : Uz, [c0, c1, c2] = oneU y ∧ y.1.size ≤ 140737488351232 ∧ (Lit.int .i64 y.2.1).wf = true := by
  obtain ⟨_, n, hfs⟩ := tl_struct Try.underlying56 hl hf
  obtain ⟨y0, f0, l0⟩ := hfs 0 _ rfl
  obtain ⟨y1, f1, l1⟩ := hfs 1 _ rfl
  obtain ⟨y2, f2, l2⟩ := hfs 2 _ rfl
  simp [ceStr, ceInt] at f0 f1 f2
  obtain ⟨s, rfl, b0⟩ := open_str1 l0 f0
  obtain ⟨p, rfl, w1⟩ := open_int1 f1
  obtain ⟨q, rfl, w2⟩ := open_int1 f2
  exact ⟨(s, p, q), rfl, b0, w1⟩
theorem open_heldR {c0 c1 c2 c3 c4 c5 c6 c7 c8 : Value} (hl : LeR Try.prog 44 x.1) (hf : DataW.trod enc Try.prog W base sp held fuel 44 [c0, c1, c2, c3, c4, c5, c6, c7, c8] = some x) :
    ∃ (y : Hz) (A : Option Addr) (c : Nat), [c0, c1, c2, c3, c4, c5, c6, c7, c8] = cellsH y A c ∧ BndH 140737488351232 y ∧ RowC W (fun g => g < W.heap.size) A y.att.length (cellsN y.att) ∧ (Lit.int .i64 y.ver).wf = true ∧ (Lit.int .i64 y.ep).wf = true := by
  obtain ⟨_, n, hfs⟩ := tl_struct Try.underlying44 hl hf
  obtain ⟨y0, f0, l0⟩ := hfs 0 _ rfl
  obtain ⟨y1, f1, l1⟩ := hfs 1 _ rfl
  obtain ⟨y2, f2, l2⟩ := hfs 2 _ rfl
  simp [ceCr, ceInt, ceNat] at f0 f1 f2
  obtain ⟨ep, rfl, w1⟩ := open_int1 f1
  obtain ⟨wit, rfl, b6⟩ := open_nat1 l2 f2
  obtain ⟨_, m, hgs⟩ := tl_struct Try.underlying42 l0 f0
  obtain ⟨z0, g0, k0⟩ := hgs 0 _ rfl
  obtain ⟨z1, g1, k1⟩ := hgs 1 _ rfl
  obtain ⟨z2, g2, k2⟩ := hgs 2 _ rfl
  obtain ⟨z3, g3, k3⟩ := hgs 3 _ rfl
  obtain ⟨z4, g4, k4⟩ := hgs 4 _ rfl
  simp [ceStr, ceInt, ceNats, ceSg] at g0 g1 g2 g3 g4
  obtain ⟨iss, rfl, b0⟩ := open_str1 k0 g0
  obtain ⟨sch, rfl, b1⟩ := open_str1 k1 g1
  obtain ⟨ver, rfl, w2⟩ := open_int1 g2
  obtain ⟨A, na, cp, ls, rfl, hln, hrow, hb⟩ := open_natsR k3 g3
  obtain ⟨_, q, hqs⟩ := tl_struct Try.underlying40 k4 g4
  obtain ⟨v0, e0, m0⟩ := hqs 0 _ rfl
  obtain ⟨v1, e1, m1⟩ := hqs 1 _ rfl
  obtain ⟨v2, e2, m2⟩ := hqs 2 _ rfl
  simp [ceNat] at e0 e1 e2
  obtain ⟨sa, rfl, b3⟩ := open_nat1 m0 e0
  obtain ⟨se, rfl, b4⟩ := open_nat1 m1 e1
  obtain ⟨sv, rfl, b5⟩ := open_nat1 m2 e2
  subst hln
  exact ⟨⟨iss, sch, ver, ls, sa, se, sv, ep, wit⟩, A, cp, rfl, ⟨b0, b1, b3, b4, b5, b6, hb⟩, hrow, w2, w1⟩
end
end Go.Proofs.Ytlheedcnmfekoaa
