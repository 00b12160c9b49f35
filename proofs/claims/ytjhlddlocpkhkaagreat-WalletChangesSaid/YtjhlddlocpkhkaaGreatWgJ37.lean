/- Wallet: the law file's do and should, for the law of the changes; printed by genNx.py. Wallet: the law file's small. -/
import Derived.Test.YtjhlddlocpkhkaaGreatWgJ32
import Derived.Test.YtjhlddlocpkhkaaGreatWgJ34
import Derived.Test.YtjhlddlocpkhkaaGreatWgNw
import Derived.Test.YtjhlddlocpkhkaaGreatWgVba
import Derived.Test.YtjhlddlocpkhkaaGreatWgJ27
namespace Go.Proofs.YtjhlddlocpkhkaaGreat
open Go.RowKit
set_option maxRecDepth 100000
set_option linter.unusedVariables false
set_option maxHeartbeats 16000000
/-- What do and should compute. -/
noncomputable def doR (sec : ByteArray) (qs : List Az) (hs : List Hz) (us : List Uz) (kd : Int) (qi qc qn qx qb nc : ByteArray) (ix : Int) (x : Hz) (sc : ByteArray) (pd lm : Int) : Rs :=
  if kd.tmod 4 = 0 then askR sec qs hs us qi qc qn qx qb else if kd.tmod 4 = 1 then storeR sec qs hs us nc x else if kd.tmod 4 = 2 then renewR sec qs hs us ix x else useR sec qs hs us sc pd lm
theorem askR_k {sec : ByteArray} {qs : List Az} {hs : List Hz} {us : List Uz} {i s n x b : ByteArray} : (askR sec qs hs us i s n x b).k = 0 := by unfold askR; split <;> rfl
theorem storeR_k {sec : ByteArray} {qs : List Az} {hs : List Hz} {us : List Uz} {nc : ByteArray} {x : Hz} : (storeR sec qs hs us nc x).k = 0 := by unfold storeR; split <;> rfl
theorem renewR_k {sec : ByteArray} {qs : List Az} {hs : List Hz} {us : List Uz} {k : Int} {x : Hz} : (renewR sec qs hs us k x).k = 0 := by unfold renewR; split <;> rfl
/-- The boxes of do: the wallet, the change, the result. -/
structure DsB (w : World) (bc cs : Array Value) (W : World) : Prop where
  one : W.heap[w.heap.size]? = some (.cells bc 27 (0, 0))
  two : W.heap[w.heap.size + 1]? = some (.cells cs 49 (0, 0))
  res : W.heap[w.heap.size + 1 + 1]? = some (.cells #[.string ⟨#[]⟩, .slice none 0 0, .slice none 0 0, .slice none 0 0] 27 (0, 0))
  bel : Below w.heap.size w W
  size : w.heap.size + 3 ≤ W.heap.size
theorem DsB.next {w W w' : World} {bc cs : Array Value} (h : DsB w bc cs W) (hb : Below W.heap.size W w') : DsB w bc cs w' :=
  ⟨(hb.block _ (by have := h.size; omega)).trans h.one, (hb.block _ (by have := h.size; omega)).trans h.two, (hb.block _ (by have := h.size; omega)).trans h.res, below2 h.bel hb, Nat.le_trans h.size hb.size⟩
theorem DsB.start {w : World} {bc cs : Array Value} : DsB w bc cs (((w.alloc (.cells bc 27)).alloc (.cells cs 49)).alloc (.cells #[.string ⟨#[]⟩, .slice none 0 0, .slice none 0 0, .slice none 0 0] 27)) :=
  ⟨(Below.heap_alloc _ _ _ (by simp; omega)).trans (two_boxes w _ _).1, (Below.heap_alloc _ _ _ (by simp)).trans (two_boxes w _ _).2, by have := heap_alloc_new ((w.alloc (.cells bc 27)).alloc (.cells cs 49)) (.cells #[.string ⟨#[]⟩, .slice none 0 0, .slice none 0 0, .slice none 0 0] 27); rwa [World.size_alloc, World.size_alloc] at this, (((Below.refl _ _).alloc (Nat.le_refl _) _).alloc (by simp) _).alloc (by simp; omega) _, by simp⟩
/-- The end: the result is laid into its box. -/
theorem DsB.fin {S : Nat → Prop} {w W0 w1 w2 : World} {bc cs : Array Value} {R : Rs} {A1 A2 A3 : Option Addr} (hS : ∀ g, S g → g < w.heap.size) (h0 : DsB w bc cs W0) (h2 : DsB w bc cs w2) (hm : WalM w1 (fun g => S g ∨ (W0.heap.size ≤ g ∧ g < w1.heap.size)) R.qs R.hs R.us A1 A2 A3) (h01 : Below W0.heap.size W0 w1) (hb : Below w1.heap.size w1 w2) (v0 v1 v2 v3 : Value) :
    WalM ((((w2.setCell ⟨w.heap.size + 1 + 1, 0, none⟩ v0).setCell ⟨w.heap.size + 1 + 1, 1, none⟩ v1).setCell ⟨w.heap.size + 1 + 1, 2, none⟩ v2).setCell ⟨w.heap.size + 1 + 1, 3, none⟩ v3) (fun g => S g ∨ (w.heap.size ≤ g ∧ g < ((((w2.setCell ⟨w.heap.size + 1 + 1, 0, none⟩ v0).setCell ⟨w.heap.size + 1 + 1, 1, none⟩ v1).setCell ⟨w.heap.size + 1 + 1, 2, none⟩ v2).setCell ⟨w.heap.size + 1 + 1, 3, none⟩ v3).heap.size)) R.qs R.hs R.us A1 A2 A3 ∧
    Below w.heap.size w ((((w2.setCell ⟨w.heap.size + 1 + 1, 0, none⟩ v0).setCell ⟨w.heap.size + 1 + 1, 1, none⟩ v1).setCell ⟨w.heap.size + 1 + 1, 2, none⟩ v2).setCell ⟨w.heap.size + 1 + 1, 3, none⟩ v3) := by
  have hl : w.heap.size ≤ w.heap.size + 1 + 1 := by omega
  have hz := h0.size
  have hz1 := h01.size
  have hz2 := hb.size
  refine ⟨(hm.keep fun p hp => ?_).mono fun g hg => hg.imp id (fun h3 => ⟨by omega, by have := h3.2; simp; omega⟩), (((h2.bel.setCell (p := ⟨w.heap.size + 1 + 1, 0, none⟩) hl _).setCell (p := ⟨w.heap.size + 1 + 1, 1, none⟩) hl _).setCell (p := ⟨w.heap.size + 1 + 1, 2, none⟩) hl _).setCell (p := ⟨w.heap.size + 1 + 1, 3, none⟩) hl _⟩
  have hp1 : (p.block < w.heap.size ∨ w.heap.size + 3 ≤ p.block) ∧ p.block < w1.heap.size := by
    rcases hp with hp | hp
    · have := hS _ hp; exact ⟨.inl this, by omega⟩
    · exact ⟨.inr (by omega), hp.2⟩
  have hne : ∀ (V : World) (i : Nat) (u : Value), (V.setCell ⟨w.heap.size + 1 + 1, i, none⟩ u).cell? p = V.cell? p := fun V i u => World.cell?_setCell_other _ _ _ _ (fun e => by have := congrArg Addr.block e; have := hp1.1; simp at *; omega)
  rw [hne, hne, hne, hne]
  exact hb.cell hp1.2
theorem law56_doR (sec : ByteArray) (qs : List Az) (hs : List Hz) (us : List Uz) (Aa Ah Au : Option Addr) (na ca nh ch nu cu : Nat) (kd : Int) (qi qc qn qx qb nc : ByteArray) (ix : Int) (x : Hz) (A : Option Addr) (n c : Nat) (sc : ByteArray) (pd lm : Int) (S : Nat → Prop) (w : World) (ho : WalOk qs hs us) (hq : qs.length = na) (hn : hs.length = nh) (hu : us.length = nu) (h : WalM w S qs hs us Aa Ah Au) (hS : ∀ g, S g → g < w.heap.size) (hkd : 0 ≤ kd ∧ kd ≤ 255) (hsz : qi.size + qc.size + qn.size + qx.size + qb.size ≤ 100000) (hnc : nc.size ≤ 1000) (hsc : sc.size ≤ 1000) (hx10 : x.att.length ≤ 10) (hxs : sizeH x ≤ 600) (hnx : x.att.length = n) (hix : -9223372036854775808 ≤ ix ∧ ix ≤ 9223372036854775807) (hxv : -9223372036854775808 ≤ x.ver ∧ x.ver ≤ 9223372036854775807) (hxe : -9223372036854775808 ≤ x.ep ∧ x.ep ≤ 9223372036854775807) (hpd : -9223372036854775808 ≤ pd ∧ pd ≤ 9223372036854775807) (hlm : lm ≤ 9223372036854775807) (hrow : RowC w S A n (cellsN x.att)) (hpos : validW sec qs hs us = true → 0 ≤ cntU (isU sc pd) us) :
    Calls Tryz.prog 11 #[.agg #[.string sec, .slice Aa na ca, .slice Ah nh ch, .slice Au nu cu], .agg #[.int .u8 kd, .string qi, .string qc, .string qn, .string qx, .string qb, .string nc, .int .i64 ix, .string x.iss, .string x.sch, .int .i64 x.ver, .slice A n c, .string x.a, .string x.e, .string x.v, .int .i64 x.ep, .string x.wit, .string sc, .int .i64 pd, .int .i64 lm]] w (GotR4 S w (doR sec qs hs us kd qi qc qn qx qb nc ix x sc pd lm)) := by
  have HB0 := Lib.hid (DsB.start (w := w) (bc := #[.string sec, .slice Aa na ca, .slice Ah nh ch, .slice Au nu cu]) (cs := #[.int .u8 kd, .string qi, .string qc, .string qn, .string qx, .string qb, .string nc, .int .i64 ix, .string x.iss, .string x.sch, .int .i64 x.ver, .slice A n c, .string x.a, .string x.e, .string x.v, .int .i64 x.ep, .string x.wit, .string sc, .int .i64 pd, .int .i64 lm]))
  have HSS := Lib.hid hS
  have HCC : Hid (∀ W, DsB w #[.string sec, .slice Aa na ca, .slice Ah nh ch, .slice Au nu cu] #[.int .u8 kd, .string qi, .string qc, .string qn, .string qx, .string qb, .string nc, .int .i64 ix, .string x.iss, .string x.sch, .int .i64 x.ver, .slice A n c, .string x.a, .string x.e, .string x.v, .int .i64 x.ep, .string x.wit, .string sc, .int .i64 pd, .int .i64 lm] W → W.cell? ⟨w.heap.size, 0, none⟩ = some (.string sec) ∧ W.cell? ⟨w.heap.size, 1, none⟩ = some (.slice Aa na ca) ∧ W.cell? ⟨w.heap.size, 2, none⟩ = some (.slice Ah nh ch) ∧ W.cell? ⟨w.heap.size, 3, none⟩ = some (.slice Au nu cu) ∧ W.cell? ⟨w.heap.size + 1, 0, none⟩ = some (.int .u8 kd) ∧ W.cell? ⟨w.heap.size + 1, 1, none⟩ = some (.string qi) ∧ W.cell? ⟨w.heap.size + 1, 2, none⟩ = some (.string qc) ∧ W.cell? ⟨w.heap.size + 1, 3, none⟩ = some (.string qn) ∧ W.cell? ⟨w.heap.size + 1, 4, none⟩ = some (.string qx) ∧ W.cell? ⟨w.heap.size + 1, 5, none⟩ = some (.string qb) ∧ W.cell? ⟨w.heap.size + 1, 6, none⟩ = some (.string nc) ∧ W.cell? ⟨w.heap.size + 1, 7, none⟩ = some (.int .i64 ix) ∧ W.cell? ⟨w.heap.size + 1, 8, none⟩ = some (.string x.iss) ∧ W.cell? ⟨w.heap.size + 1, 9, none⟩ = some (.string x.sch) ∧ W.cell? ⟨w.heap.size + 1, 10, none⟩ = some (.int .i64 x.ver) ∧ W.cell? ⟨w.heap.size + 1, 11, none⟩ = some (.slice A n c) ∧ W.cell? ⟨w.heap.size + 1, 12, none⟩ = some (.string x.a) ∧ W.cell? ⟨w.heap.size + 1, 13, none⟩ = some (.string x.e) ∧ W.cell? ⟨w.heap.size + 1, 14, none⟩ = some (.string x.v) ∧ W.cell? ⟨w.heap.size + 1, 15, none⟩ = some (.int .i64 x.ep) ∧ W.cell? ⟨w.heap.size + 1, 16, none⟩ = some (.string x.wit) ∧ W.cell? ⟨w.heap.size + 1, 17, none⟩ = some (.string sc) ∧ W.cell? ⟨w.heap.size + 1, 18, none⟩ = some (.int .i64 pd) ∧ W.cell? ⟨w.heap.size + 1, 19, none⟩ = some (.int .i64 lm)) := Lib.hid (fun W h => ⟨cell_of_row _ _ 0 _ _ _ h.one, cell_of_row _ _ 1 _ _ _ h.one, cell_of_row _ _ 2 _ _ _ h.one, cell_of_row _ _ 3 _ _ _ h.one, cell_of_row _ _ 0 _ _ _ h.two, cell_of_row _ _ 1 _ _ _ h.two, cell_of_row _ _ 2 _ _ _ h.two, cell_of_row _ _ 3 _ _ _ h.two, cell_of_row _ _ 4 _ _ _ h.two, cell_of_row _ _ 5 _ _ _ h.two, cell_of_row _ _ 6 _ _ _ h.two, cell_of_row _ _ 7 _ _ _ h.two, cell_of_row _ _ 8 _ _ _ h.two, cell_of_row _ _ 9 _ _ _ h.two, cell_of_row _ _ 10 _ _ _ h.two, cell_of_row _ _ 11 _ _ _ h.two, cell_of_row _ _ 12 _ _ _ h.two, cell_of_row _ _ 13 _ _ _ h.two, cell_of_row _ _ 14 _ _ _ h.two, cell_of_row _ _ 15 _ _ _ h.two, cell_of_row _ _ 16 _ _ _ h.two, cell_of_row _ _ 17 _ _ _ h.two, cell_of_row _ _ 18 _ _ _ h.two, cell_of_row _ _ 19 _ _ _ h.two⟩)
  have HRC : Hid (∀ W, DsB w #[.string sec, .slice Aa na ca, .slice Ah nh ch, .slice Au nu cu] #[.int .u8 kd, .string qi, .string qc, .string qn, .string qx, .string qb, .string nc, .int .i64 ix, .string x.iss, .string x.sch, .int .i64 x.ver, .slice A n c, .string x.a, .string x.e, .string x.v, .int .i64 x.ep, .string x.wit, .string sc, .int .i64 pd, .int .i64 lm] W → W.cell? ⟨w.heap.size + 1 + 1, 0, none⟩ = some (.string ⟨#[]⟩) ∧ W.cell? ⟨w.heap.size + 1 + 1, 1, none⟩ = some (.slice none 0 0) ∧ W.cell? ⟨w.heap.size + 1 + 1, 2, none⟩ = some (.slice none 0 0) ∧ W.cell? ⟨w.heap.size + 1 + 1, 3, none⟩ = some (.slice none 0 0) ∧ W.frozen? ⟨w.heap.size + 1 + 1, 0, none⟩ = false ∧ W.frozen? ⟨w.heap.size + 1 + 1, 1, none⟩ = false ∧ W.frozen? ⟨w.heap.size + 1 + 1, 2, none⟩ = false ∧ W.frozen? ⟨w.heap.size + 1 + 1, 3, none⟩ = false) := Lib.hid (fun W h => ⟨cell_of_row _ _ 0 _ _ _ h.res, cell_of_row _ _ 1 _ _ _ h.res, cell_of_row _ _ 2 _ _ _ h.res, cell_of_row _ _ 3 _ _ _ h.res, frozen_of_row _ _ 0 _ _ h.res, frozen_of_row _ _ 1 _ _ h.res, frozen_of_row _ _ 2 _ _ h.res, frozen_of_row _ _ 3 _ _ h.res⟩)
  have hrem : kd.tmod 4 = 0 ∨ kd.tmod 4 = 1 ∨ kd.tmod 4 = 2 ∨ kd.tmod 4 = 3 := by
    rw [Int.tmod_eq_emod_of_nonneg hkd.1]
    omega
  unfold doR
  rcases hrem with hrem | hrem | hrem | hrem
  · rw [if_pos hrem]
    have HK := Lib.hid (fun W (hb : Below w.heap.size w W) => ask_gotR sec qs hs us Aa Ah Au na ca nh ch nu cu S W ho hq hn hu (h.keep (fun q hq => hb.cell (hS _ hq))) (fun g hg => Nat.lt_of_lt_of_le (hS g hg) hb.size) qi qc qn qx qb hsz)
    obtain ⟨R, hR⟩ : ∃ R, askR sec qs hs us qi qc qn qx qb = R := ⟨_, rfl⟩
    rw [hR] at HK ⊢
    have HK0 : Hid (R.k = 0) := Lib.hid (by rw [← hR]; exact askR_k)
    unfold GotR3 at HK
    clear ho hq hn hu h hS hkd hsz hnc hsc hx10 hxs hnx hix hxv hxe hpd hlm hrow hpos hR
    go_enter Tryz.func11, Tryz.ntmps11
    go_upto_region 1 with fail
    obtain ⟨W0, hW0⟩ : ∃ W0, (((w.alloc (.cells #[.string sec, .slice Aa na ca, .slice Ah nh ch, .slice Au nu cu] 27)).alloc (.cells #[.int .u8 kd, .string qi, .string qc, .string qn, .string qx, .string qb, .string nc, .int .i64 ix, .string x.iss, .string x.sch, .int .i64 x.ver, .slice A n c, .string x.a, .string x.e, .string x.v, .int .i64 x.ep, .string x.wit, .string sc, .int .i64 pd, .int .i64 lm] 49)).alloc (.cells #[.string ⟨#[]⟩, .slice none 0 0, .slice none 0 0, .slice none 0 0] 27)) = W0 := ⟨_, rfl⟩
    rw [hW0] at HB0 ⊢
    clear hW0
    obtain ⟨x0, x1, x2, x3, z0, z1, z2, z3, z4, z5, z6, z7, z8, z9, z10, z11, z12, z13, z14, z15, z16, z17, z18, z19⟩ := HCC.out _ HB0.out
    go_upto_region 4 with (go_at_call 43; (with_reducible refine (HK.out _ HB0.out.bel).mono ?_); rintro e w1 ⟨A1, c1, A2, c2, A3, c3, rfl, hm1, hb1⟩; have HM1 := Lib.hid hm1; have HBB := Lib.hid hb1; have HB1 := Lib.hid (HB0.out.next hb1); clear hb1 hm1 x0 x1 x2 x3 z0 z1 z2 z3 z4 z5 z6 z7 z8 z9 z10 z11 z12 z13 z14 z15 z16 z17 z18 z19)
    have hal := (Below.refl w1.heap.size w1).alloc (Nat.le_refl _) (.cells #[.string R.sec, .slice A1 R.qs.length c1, .slice A2 R.hs.length c2, .slice A3 R.us.length c3] 27)
    have HAL := Lib.hid hal
    have HB2 := Lib.hid (HB1.out.next hal)
    have hbx := heap_alloc_new w1 (.cells #[.string R.sec, .slice A1 R.qs.length c1, .slice A2 R.hs.length c2, .slice A3 R.us.length c3] 27)
    obtain ⟨w2, hw2⟩ : ∃ w2, w1.alloc (.cells #[.string R.sec, .slice A1 R.qs.length c1, .slice A2 R.hs.length c2, .slice A3 R.us.length c3] 27) = w2 := ⟨_, rfl⟩
    rw [hw2] at HB2 HAL hbx ⊢
    obtain ⟨b7, hb7⟩ : ∃ b, w1.heap.size = b := ⟨_, rfl⟩
    rw [hb7] at hbx ⊢
    clear hw2 hb7 hal
    have y0 := cell_of_row _ _ 0 _ _ _ hbx
    have y1 := cell_of_row _ _ 1 _ _ _ hbx
    have y2 := cell_of_row _ _ 2 _ _ _ hbx
    have y3 := cell_of_row _ _ 3 _ _ _ hbx
    obtain ⟨r0, r1, r2, r3, g0, g1, g2, g3⟩ := HRC.out _ HB2.out
    clear hbx
    go_wp2_with fail
    refine bodyPost_ret (v := .tuple #[.agg #[.string R.sec, .slice A1 R.qs.length c1, .slice A2 R.hs.length c2, .slice A3 R.us.length c3], .int .i64 0, .string R.s, .int .i64 R.z]) (by simp [results, Tryz.results11, go_sem, r0, r1, r2, r3]) rfl ?_
    have hF := DsB.fin HSS.out HB0.out HB2.out HM1.out HBB.out HAL.out (.string R.sec) (.slice A1 R.qs.length c1) (.slice A2 R.hs.length c2) (.slice A3 R.us.length c3)
    exact ⟨A1, c1, A2, c2, A3, c3, by rw [HK0.out], hF.1, hF.2⟩
  · rw [if_neg (by rw [hrem]; decide), if_pos hrem]
    have HK := Lib.hid (fun W (hb : Below w.heap.size w W) => store_gotR sec qs hs us Aa Ah Au na ca nh ch nu cu S W ho hq hn hu (h.keep (fun q hq => hb.cell (hS _ hq))) (fun g hg => Nat.lt_of_lt_of_le (hS g hg) hb.size) nc x A n c hnc hx10 hxs hnx hxv hxe (hrow.keep (fun q hq => hb.cell (hS _ hq))))
    obtain ⟨R, hR⟩ : ∃ R, storeR sec qs hs us nc x = R := ⟨_, rfl⟩
    rw [hR] at HK ⊢
    have HK0 : Hid (R.k = 0) := Lib.hid (by rw [← hR]; exact storeR_k)
    unfold GotR3 valH at HK
    clear ho hq hn hu h hS hkd hsz hnc hsc hx10 hxs hnx hix hxv hxe hpd hlm hrow hpos hR
    go_enter Tryz.func11, Tryz.ntmps11
    go_upto_region 1 with fail
    obtain ⟨W0, hW0⟩ : ∃ W0, (((w.alloc (.cells #[.string sec, .slice Aa na ca, .slice Ah nh ch, .slice Au nu cu] 27)).alloc (.cells #[.int .u8 kd, .string qi, .string qc, .string qn, .string qx, .string qb, .string nc, .int .i64 ix, .string x.iss, .string x.sch, .int .i64 x.ver, .slice A n c, .string x.a, .string x.e, .string x.v, .int .i64 x.ep, .string x.wit, .string sc, .int .i64 pd, .int .i64 lm] 49)).alloc (.cells #[.string ⟨#[]⟩, .slice none 0 0, .slice none 0 0, .slice none 0 0] 27)) = W0 := ⟨_, rfl⟩
    rw [hW0] at HB0 ⊢
    clear hW0
    obtain ⟨x0, x1, x2, x3, z0, z1, z2, z3, z4, z5, z6, z7, z8, z9, z10, z11, z12, z13, z14, z15, z16, z17, z18, z19⟩ := HCC.out _ HB0.out
    go_upto_region 7 with (go_at_call 44; (with_reducible refine (HK.out _ HB0.out.bel).mono ?_); rintro e w1 ⟨A1, c1, A2, c2, A3, c3, rfl, hm1, hb1⟩; have HM1 := Lib.hid hm1; have HBB := Lib.hid hb1; have HB1 := Lib.hid (HB0.out.next hb1); clear hb1 hm1 x0 x1 x2 x3 z0 z1 z2 z3 z4 z5 z6 z7 z8 z9 z10 z11 z12 z13 z14 z15 z16 z17 z18 z19)
    have hal := (Below.refl w1.heap.size w1).alloc (Nat.le_refl _) (.cells #[.string R.sec, .slice A1 R.qs.length c1, .slice A2 R.hs.length c2, .slice A3 R.us.length c3] 27)
    have HAL := Lib.hid hal
    have HB2 := Lib.hid (HB1.out.next hal)
    have hbx := heap_alloc_new w1 (.cells #[.string R.sec, .slice A1 R.qs.length c1, .slice A2 R.hs.length c2, .slice A3 R.us.length c3] 27)
    obtain ⟨w2, hw2⟩ : ∃ w2, w1.alloc (.cells #[.string R.sec, .slice A1 R.qs.length c1, .slice A2 R.hs.length c2, .slice A3 R.us.length c3] 27) = w2 := ⟨_, rfl⟩
    rw [hw2] at HB2 HAL hbx ⊢
    obtain ⟨b7, hb7⟩ : ∃ b, w1.heap.size = b := ⟨_, rfl⟩
    rw [hb7] at hbx ⊢
    clear hw2 hb7 hal
    have y0 := cell_of_row _ _ 0 _ _ _ hbx
    have y1 := cell_of_row _ _ 1 _ _ _ hbx
    have y2 := cell_of_row _ _ 2 _ _ _ hbx
    have y3 := cell_of_row _ _ 3 _ _ _ hbx
    obtain ⟨r0, r1, r2, r3, g0, g1, g2, g3⟩ := HRC.out _ HB2.out
    clear hbx
    go_wp2_with fail
    refine bodyPost_ret (v := .tuple #[.agg #[.string R.sec, .slice A1 R.qs.length c1, .slice A2 R.hs.length c2, .slice A3 R.us.length c3], .int .i64 0, .string R.s, .int .i64 R.z]) (by simp [results, Tryz.results11, go_sem, r0, r1, r2, r3]) rfl ?_
    have hF := DsB.fin HSS.out HB0.out HB2.out HM1.out HBB.out HAL.out (.string R.sec) (.slice A1 R.qs.length c1) (.slice A2 R.hs.length c2) (.slice A3 R.us.length c3)
    exact ⟨A1, c1, A2, c2, A3, c3, by rw [HK0.out], hF.1, hF.2⟩
  · rw [if_neg (by rw [hrem]; decide), if_neg (by rw [hrem]; decide), if_pos hrem]
    have HK := Lib.hid (fun W (hb : Below w.heap.size w W) => renew_gotR sec qs hs us Aa Ah Au na ca nh ch nu cu S W ho hq hn hu (h.keep (fun q hq => hb.cell (hS _ hq))) (fun g hg => Nat.lt_of_lt_of_le (hS g hg) hb.size) ix x A n c hx10 hxs hnx hix hxv hxe (hrow.keep (fun q hq => hb.cell (hS _ hq))))
    obtain ⟨R, hR⟩ : ∃ R, renewR sec qs hs us ix x = R := ⟨_, rfl⟩
    rw [hR] at HK ⊢
    have HK0 : Hid (R.k = 0) := Lib.hid (by rw [← hR]; exact renewR_k)
    unfold GotR3 valH at HK
    clear ho hq hn hu h hS hkd hsz hnc hsc hx10 hxs hnx hix hxv hxe hpd hlm hrow hpos hR
    go_enter Tryz.func11, Tryz.ntmps11
    go_upto_region 1 with fail
    obtain ⟨W0, hW0⟩ : ∃ W0, (((w.alloc (.cells #[.string sec, .slice Aa na ca, .slice Ah nh ch, .slice Au nu cu] 27)).alloc (.cells #[.int .u8 kd, .string qi, .string qc, .string qn, .string qx, .string qb, .string nc, .int .i64 ix, .string x.iss, .string x.sch, .int .i64 x.ver, .slice A n c, .string x.a, .string x.e, .string x.v, .int .i64 x.ep, .string x.wit, .string sc, .int .i64 pd, .int .i64 lm] 49)).alloc (.cells #[.string ⟨#[]⟩, .slice none 0 0, .slice none 0 0, .slice none 0 0] 27)) = W0 := ⟨_, rfl⟩
    rw [hW0] at HB0 ⊢
    clear hW0
    obtain ⟨x0, x1, x2, x3, z0, z1, z2, z3, z4, z5, z6, z7, z8, z9, z10, z11, z12, z13, z14, z15, z16, z17, z18, z19⟩ := HCC.out _ HB0.out
    go_upto_region 10 with (go_at_call 45; (with_reducible refine (HK.out _ HB0.out.bel).mono ?_); rintro e w1 ⟨A1, c1, A2, c2, A3, c3, rfl, hm1, hb1⟩; have HM1 := Lib.hid hm1; have HBB := Lib.hid hb1; have HB1 := Lib.hid (HB0.out.next hb1); clear hb1 hm1 x0 x1 x2 x3 z0 z1 z2 z3 z4 z5 z6 z7 z8 z9 z10 z11 z12 z13 z14 z15 z16 z17 z18 z19)
    have hal := (Below.refl w1.heap.size w1).alloc (Nat.le_refl _) (.cells #[.string R.sec, .slice A1 R.qs.length c1, .slice A2 R.hs.length c2, .slice A3 R.us.length c3] 27)
    have HAL := Lib.hid hal
    have HB2 := Lib.hid (HB1.out.next hal)
    have hbx := heap_alloc_new w1 (.cells #[.string R.sec, .slice A1 R.qs.length c1, .slice A2 R.hs.length c2, .slice A3 R.us.length c3] 27)
    obtain ⟨w2, hw2⟩ : ∃ w2, w1.alloc (.cells #[.string R.sec, .slice A1 R.qs.length c1, .slice A2 R.hs.length c2, .slice A3 R.us.length c3] 27) = w2 := ⟨_, rfl⟩
    rw [hw2] at HB2 HAL hbx ⊢
    obtain ⟨b7, hb7⟩ : ∃ b, w1.heap.size = b := ⟨_, rfl⟩
    rw [hb7] at hbx ⊢
    clear hw2 hb7 hal
    have y0 := cell_of_row _ _ 0 _ _ _ hbx
    have y1 := cell_of_row _ _ 1 _ _ _ hbx
    have y2 := cell_of_row _ _ 2 _ _ _ hbx
    have y3 := cell_of_row _ _ 3 _ _ _ hbx
    obtain ⟨r0, r1, r2, r3, g0, g1, g2, g3⟩ := HRC.out _ HB2.out
    clear hbx
    go_wp2_with fail
    refine bodyPost_ret (v := .tuple #[.agg #[.string R.sec, .slice A1 R.qs.length c1, .slice A2 R.hs.length c2, .slice A3 R.us.length c3], .int .i64 0, .string R.s, .int .i64 R.z]) (by simp [results, Tryz.results11, go_sem, r0, r1, r2, r3]) rfl ?_
    have hF := DsB.fin HSS.out HB0.out HB2.out HM1.out HBB.out HAL.out (.string R.sec) (.slice A1 R.qs.length c1) (.slice A2 R.hs.length c2) (.slice A3 R.us.length c3)
    exact ⟨A1, c1, A2, c2, A3, c3, by rw [HK0.out], hF.1, hF.2⟩
  · rw [if_neg (by rw [hrem]; decide), if_neg (by rw [hrem]; decide), if_neg (by rw [hrem]; decide)]
    have HK := Lib.hid (fun W (hb : Below w.heap.size w W) => use_gotR sec qs hs us Aa Ah Au na ca nh ch nu cu S W ho hq hn hu (h.keep (fun q hq => hb.cell (hS _ hq))) (fun g hg => Nat.lt_of_lt_of_le (hS g hg) hb.size) sc pd lm hsc hpd hlm hpos)
    obtain ⟨R, hR⟩ : ∃ R, useR sec qs hs us sc pd lm = R := ⟨_, rfl⟩
    rw [hR] at HK ⊢
    unfold GotR4 at HK
    clear ho hq hn hu h hS hkd hsz hnc hsc hx10 hxs hnx hix hxv hxe hpd hlm hrow hpos hR
    go_enter Tryz.func11, Tryz.ntmps11
    go_upto_region 1 with fail
    obtain ⟨W0, hW0⟩ : ∃ W0, (((w.alloc (.cells #[.string sec, .slice Aa na ca, .slice Ah nh ch, .slice Au nu cu] 27)).alloc (.cells #[.int .u8 kd, .string qi, .string qc, .string qn, .string qx, .string qb, .string nc, .int .i64 ix, .string x.iss, .string x.sch, .int .i64 x.ver, .slice A n c, .string x.a, .string x.e, .string x.v, .int .i64 x.ep, .string x.wit, .string sc, .int .i64 pd, .int .i64 lm] 49)).alloc (.cells #[.string ⟨#[]⟩, .slice none 0 0, .slice none 0 0, .slice none 0 0] 27)) = W0 := ⟨_, rfl⟩
    rw [hW0] at HB0 ⊢
    clear hW0
    obtain ⟨x0, x1, x2, x3, z0, z1, z2, z3, z4, z5, z6, z7, z8, z9, z10, z11, z12, z13, z14, z15, z16, z17, z18, z19⟩ := HCC.out _ HB0.out
    go_wp2_with (go_at_call 16; (with_reducible refine (HK.out _ HB0.out.bel).mono ?_); rintro e w1 ⟨A1, c1, A2, c2, A3, c3, rfl, hm1, hb1⟩; have HM1 := Lib.hid hm1; have HBB := Lib.hid hb1; have HB1 := Lib.hid (HB0.out.next hb1); obtain ⟨r0, r1, r2, r3, g0, g1, g2, g3⟩ := HRC.out _ HB1.out; clear hb1 hm1 x0 x1 x2 x3 z0 z1 z2 z3 z4 z5 z6 z7 z8 z9 z10 z11 z12 z13 z14 z15 z16 z17 z18 z19)
    refine bodyPost_ret (v := .tuple #[.agg #[.string R.sec, .slice A1 R.qs.length c1, .slice A2 R.hs.length c2, .slice A3 R.us.length c3], .int .i64 R.k, .string R.s, .int .i64 R.z]) (by simp [results, Tryz.results11, go_sem, r0, r1, r2, r3]) rfl ?_
    have hF := DsB.fin HSS.out HB0.out HB1.out HM1.out HBB.out (Below.refl _ _) (.string R.sec) (.slice A1 R.qs.length c1) (.slice A2 R.hs.length c2) (.slice A3 R.us.length c3)
    exact ⟨A1, c1, A2, c2, A3, c3, rfl, hF.1, hF.2⟩
theorem law56_shouldR (sec : ByteArray) (qs : List Az) (hs : List Hz) (us : List Uz) (Aa Ah Au : Option Addr) (na ca nh ch nu cu : Nat) (kd : Int) (qi qc qn qx qb nc : ByteArray) (ix : Int) (x : Hz) (A : Option Addr) (n c : Nat) (sc : ByteArray) (pd lm : Int) (S : Nat → Prop) (w : World) (ho : WalOk qs hs us) (hq : qs.length = na) (hn : hs.length = nh) (hu : us.length = nu) (h : WalM w S qs hs us Aa Ah Au) (hS : ∀ g, S g → g < w.heap.size) (hkd : 0 ≤ kd ∧ kd ≤ 255) (hsz : qi.size + qc.size + qn.size + qx.size + qb.size ≤ 100000) (hnc : nc.size ≤ 1000) (hsc : sc.size ≤ 1000) (hx10 : x.att.length ≤ 10) (hxs : sizeH x ≤ 600) (hnx : x.att.length = n) (hix : -9223372036854775808 ≤ ix ∧ ix ≤ 9223372036854775807) (hxv : -9223372036854775808 ≤ x.ver ∧ x.ver ≤ 9223372036854775807) (hxe : -9223372036854775808 ≤ x.ep ∧ x.ep ≤ 9223372036854775807) (hpd : -9223372036854775808 ≤ pd ∧ pd ≤ 9223372036854775807) (hlm : lm ≤ 9223372036854775807) (hrow : RowC w S A n (cellsN x.att)) (hpos : validW sec qs hs us = true → 0 ≤ cntU (isU sc pd) us) :
    Calls Tryz.prog 12 #[.agg #[.string sec, .slice Aa na ca, .slice Ah nh ch, .slice Au nu cu], .agg #[.int .u8 kd, .string qi, .string qc, .string qn, .string qx, .string qb, .string nc, .int .i64 ix, .string x.iss, .string x.sch, .int .i64 x.ver, .slice A n c, .string x.a, .string x.e, .string x.v, .int .i64 x.ep, .string x.wit, .string sc, .int .i64 pd, .int .i64 lm]] w (GotR4 S w (doR sec qs hs us kd qi qc qn qx qb nc ix x sc pd lm)) := by
  have HB0 := Lib.hid (DsB.start (w := w) (bc := #[.string sec, .slice Aa na ca, .slice Ah nh ch, .slice Au nu cu]) (cs := #[.int .u8 kd, .string qi, .string qc, .string qn, .string qx, .string qb, .string nc, .int .i64 ix, .string x.iss, .string x.sch, .int .i64 x.ver, .slice A n c, .string x.a, .string x.e, .string x.v, .int .i64 x.ep, .string x.wit, .string sc, .int .i64 pd, .int .i64 lm]))
  have HSS := Lib.hid hS
  have HCC : Hid (∀ W, DsB w #[.string sec, .slice Aa na ca, .slice Ah nh ch, .slice Au nu cu] #[.int .u8 kd, .string qi, .string qc, .string qn, .string qx, .string qb, .string nc, .int .i64 ix, .string x.iss, .string x.sch, .int .i64 x.ver, .slice A n c, .string x.a, .string x.e, .string x.v, .int .i64 x.ep, .string x.wit, .string sc, .int .i64 pd, .int .i64 lm] W → W.cell? ⟨w.heap.size, 0, none⟩ = some (.string sec) ∧ W.cell? ⟨w.heap.size, 1, none⟩ = some (.slice Aa na ca) ∧ W.cell? ⟨w.heap.size, 2, none⟩ = some (.slice Ah nh ch) ∧ W.cell? ⟨w.heap.size, 3, none⟩ = some (.slice Au nu cu) ∧ W.cell? ⟨w.heap.size + 1, 0, none⟩ = some (.int .u8 kd) ∧ W.cell? ⟨w.heap.size + 1, 1, none⟩ = some (.string qi) ∧ W.cell? ⟨w.heap.size + 1, 2, none⟩ = some (.string qc) ∧ W.cell? ⟨w.heap.size + 1, 3, none⟩ = some (.string qn) ∧ W.cell? ⟨w.heap.size + 1, 4, none⟩ = some (.string qx) ∧ W.cell? ⟨w.heap.size + 1, 5, none⟩ = some (.string qb) ∧ W.cell? ⟨w.heap.size + 1, 6, none⟩ = some (.string nc) ∧ W.cell? ⟨w.heap.size + 1, 7, none⟩ = some (.int .i64 ix) ∧ W.cell? ⟨w.heap.size + 1, 8, none⟩ = some (.string x.iss) ∧ W.cell? ⟨w.heap.size + 1, 9, none⟩ = some (.string x.sch) ∧ W.cell? ⟨w.heap.size + 1, 10, none⟩ = some (.int .i64 x.ver) ∧ W.cell? ⟨w.heap.size + 1, 11, none⟩ = some (.slice A n c) ∧ W.cell? ⟨w.heap.size + 1, 12, none⟩ = some (.string x.a) ∧ W.cell? ⟨w.heap.size + 1, 13, none⟩ = some (.string x.e) ∧ W.cell? ⟨w.heap.size + 1, 14, none⟩ = some (.string x.v) ∧ W.cell? ⟨w.heap.size + 1, 15, none⟩ = some (.int .i64 x.ep) ∧ W.cell? ⟨w.heap.size + 1, 16, none⟩ = some (.string x.wit) ∧ W.cell? ⟨w.heap.size + 1, 17, none⟩ = some (.string sc) ∧ W.cell? ⟨w.heap.size + 1, 18, none⟩ = some (.int .i64 pd) ∧ W.cell? ⟨w.heap.size + 1, 19, none⟩ = some (.int .i64 lm)) := Lib.hid (fun W h => ⟨cell_of_row _ _ 0 _ _ _ h.one, cell_of_row _ _ 1 _ _ _ h.one, cell_of_row _ _ 2 _ _ _ h.one, cell_of_row _ _ 3 _ _ _ h.one, cell_of_row _ _ 0 _ _ _ h.two, cell_of_row _ _ 1 _ _ _ h.two, cell_of_row _ _ 2 _ _ _ h.two, cell_of_row _ _ 3 _ _ _ h.two, cell_of_row _ _ 4 _ _ _ h.two, cell_of_row _ _ 5 _ _ _ h.two, cell_of_row _ _ 6 _ _ _ h.two, cell_of_row _ _ 7 _ _ _ h.two, cell_of_row _ _ 8 _ _ _ h.two, cell_of_row _ _ 9 _ _ _ h.two, cell_of_row _ _ 10 _ _ _ h.two, cell_of_row _ _ 11 _ _ _ h.two, cell_of_row _ _ 12 _ _ _ h.two, cell_of_row _ _ 13 _ _ _ h.two, cell_of_row _ _ 14 _ _ _ h.two, cell_of_row _ _ 15 _ _ _ h.two, cell_of_row _ _ 16 _ _ _ h.two, cell_of_row _ _ 17 _ _ _ h.two, cell_of_row _ _ 18 _ _ _ h.two, cell_of_row _ _ 19 _ _ _ h.two⟩)
  have HRC : Hid (∀ W, DsB w #[.string sec, .slice Aa na ca, .slice Ah nh ch, .slice Au nu cu] #[.int .u8 kd, .string qi, .string qc, .string qn, .string qx, .string qb, .string nc, .int .i64 ix, .string x.iss, .string x.sch, .int .i64 x.ver, .slice A n c, .string x.a, .string x.e, .string x.v, .int .i64 x.ep, .string x.wit, .string sc, .int .i64 pd, .int .i64 lm] W → W.cell? ⟨w.heap.size + 1 + 1, 0, none⟩ = some (.string ⟨#[]⟩) ∧ W.cell? ⟨w.heap.size + 1 + 1, 1, none⟩ = some (.slice none 0 0) ∧ W.cell? ⟨w.heap.size + 1 + 1, 2, none⟩ = some (.slice none 0 0) ∧ W.cell? ⟨w.heap.size + 1 + 1, 3, none⟩ = some (.slice none 0 0) ∧ W.frozen? ⟨w.heap.size + 1 + 1, 0, none⟩ = false ∧ W.frozen? ⟨w.heap.size + 1 + 1, 1, none⟩ = false ∧ W.frozen? ⟨w.heap.size + 1 + 1, 2, none⟩ = false ∧ W.frozen? ⟨w.heap.size + 1 + 1, 3, none⟩ = false) := Lib.hid (fun W h => ⟨cell_of_row _ _ 0 _ _ _ h.res, cell_of_row _ _ 1 _ _ _ h.res, cell_of_row _ _ 2 _ _ _ h.res, cell_of_row _ _ 3 _ _ _ h.res, frozen_of_row _ _ 0 _ _ h.res, frozen_of_row _ _ 1 _ _ h.res, frozen_of_row _ _ 2 _ _ h.res, frozen_of_row _ _ 3 _ _ h.res⟩)
  have hrem : kd.tmod 4 = 0 ∨ kd.tmod 4 = 1 ∨ kd.tmod 4 = 2 ∨ kd.tmod 4 = 3 := by
    rw [Int.tmod_eq_emod_of_nonneg hkd.1]
    omega
  unfold doR
  rcases hrem with hrem | hrem | hrem | hrem
  · rw [if_pos hrem]
    have HK := Lib.hid (fun W (hb : Below w.heap.size w W) => r56_ask_gotR sec qs hs us Aa Ah Au na ca nh ch nu cu S W ho hq hn hu (h.keep (fun q hq => hb.cell (hS _ hq))) (fun g hg => Nat.lt_of_lt_of_le (hS g hg) hb.size) qi qc qn qx qb hsz)
    obtain ⟨R, hR⟩ : ∃ R, askR sec qs hs us qi qc qn qx qb = R := ⟨_, rfl⟩
    rw [hR] at HK ⊢
    have HK0 : Hid (R.k = 0) := Lib.hid (by rw [← hR]; exact askR_k)
    unfold GotR3 at HK
    clear ho hq hn hu h hS hkd hsz hnc hsc hx10 hxs hnx hix hxv hxe hpd hlm hrow hpos hR
    go_enter Tryz.func12, Tryz.ntmps12
    go_upto_region 1 with fail
    obtain ⟨W0, hW0⟩ : ∃ W0, (((w.alloc (.cells #[.string sec, .slice Aa na ca, .slice Ah nh ch, .slice Au nu cu] 27)).alloc (.cells #[.int .u8 kd, .string qi, .string qc, .string qn, .string qx, .string qb, .string nc, .int .i64 ix, .string x.iss, .string x.sch, .int .i64 x.ver, .slice A n c, .string x.a, .string x.e, .string x.v, .int .i64 x.ep, .string x.wit, .string sc, .int .i64 pd, .int .i64 lm] 49)).alloc (.cells #[.string ⟨#[]⟩, .slice none 0 0, .slice none 0 0, .slice none 0 0] 27)) = W0 := ⟨_, rfl⟩
    rw [hW0] at HB0 ⊢
    clear hW0
    obtain ⟨x0, x1, x2, x3, z0, z1, z2, z3, z4, z5, z6, z7, z8, z9, z10, z11, z12, z13, z14, z15, z16, z17, z18, z19⟩ := HCC.out _ HB0.out
    go_upto_region 4 with (go_at_call 46; (with_reducible refine (HK.out _ HB0.out.bel).mono ?_); rintro e w1 ⟨A1, c1, A2, c2, A3, c3, rfl, hm1, hb1⟩; have HM1 := Lib.hid hm1; have HBB := Lib.hid hb1; have HB1 := Lib.hid (HB0.out.next hb1); clear hb1 hm1 x0 x1 x2 x3 z0 z1 z2 z3 z4 z5 z6 z7 z8 z9 z10 z11 z12 z13 z14 z15 z16 z17 z18 z19)
    have hal := (Below.refl w1.heap.size w1).alloc (Nat.le_refl _) (.cells #[.string R.sec, .slice A1 R.qs.length c1, .slice A2 R.hs.length c2, .slice A3 R.us.length c3] 27)
    have HAL := Lib.hid hal
    have HB2 := Lib.hid (HB1.out.next hal)
    have hbx := heap_alloc_new w1 (.cells #[.string R.sec, .slice A1 R.qs.length c1, .slice A2 R.hs.length c2, .slice A3 R.us.length c3] 27)
    obtain ⟨w2, hw2⟩ : ∃ w2, w1.alloc (.cells #[.string R.sec, .slice A1 R.qs.length c1, .slice A2 R.hs.length c2, .slice A3 R.us.length c3] 27) = w2 := ⟨_, rfl⟩
    rw [hw2] at HB2 HAL hbx ⊢
    obtain ⟨b7, hb7⟩ : ∃ b, w1.heap.size = b := ⟨_, rfl⟩
    rw [hb7] at hbx ⊢
    clear hw2 hb7 hal
    have y0 := cell_of_row _ _ 0 _ _ _ hbx
    have y1 := cell_of_row _ _ 1 _ _ _ hbx
    have y2 := cell_of_row _ _ 2 _ _ _ hbx
    have y3 := cell_of_row _ _ 3 _ _ _ hbx
    obtain ⟨r0, r1, r2, r3, g0, g1, g2, g3⟩ := HRC.out _ HB2.out
    clear hbx
    go_wp2_with fail
    refine bodyPost_ret (v := .tuple #[.agg #[.string R.sec, .slice A1 R.qs.length c1, .slice A2 R.hs.length c2, .slice A3 R.us.length c3], .int .i64 0, .string R.s, .int .i64 R.z]) (by simp [results, Tryz.results12, go_sem, r0, r1, r2, r3]) rfl ?_
    have hF := DsB.fin HSS.out HB0.out HB2.out HM1.out HBB.out HAL.out (.string R.sec) (.slice A1 R.qs.length c1) (.slice A2 R.hs.length c2) (.slice A3 R.us.length c3)
    exact ⟨A1, c1, A2, c2, A3, c3, by rw [HK0.out], hF.1, hF.2⟩
  · rw [if_neg (by rw [hrem]; decide), if_pos hrem]
    have HK := Lib.hid (fun W (hb : Below w.heap.size w W) => r56_store_gotR sec qs hs us Aa Ah Au na ca nh ch nu cu S W ho hq hn hu (h.keep (fun q hq => hb.cell (hS _ hq))) (fun g hg => Nat.lt_of_lt_of_le (hS g hg) hb.size) nc x A n c hnc hx10 hxs hnx hxv hxe (hrow.keep (fun q hq => hb.cell (hS _ hq))))
    obtain ⟨R, hR⟩ : ∃ R, storeR sec qs hs us nc x = R := ⟨_, rfl⟩
    rw [hR] at HK ⊢
    have HK0 : Hid (R.k = 0) := Lib.hid (by rw [← hR]; exact storeR_k)
    unfold GotR3 valH at HK
    clear ho hq hn hu h hS hkd hsz hnc hsc hx10 hxs hnx hix hxv hxe hpd hlm hrow hpos hR
    go_enter Tryz.func12, Tryz.ntmps12
    go_upto_region 1 with fail
    obtain ⟨W0, hW0⟩ : ∃ W0, (((w.alloc (.cells #[.string sec, .slice Aa na ca, .slice Ah nh ch, .slice Au nu cu] 27)).alloc (.cells #[.int .u8 kd, .string qi, .string qc, .string qn, .string qx, .string qb, .string nc, .int .i64 ix, .string x.iss, .string x.sch, .int .i64 x.ver, .slice A n c, .string x.a, .string x.e, .string x.v, .int .i64 x.ep, .string x.wit, .string sc, .int .i64 pd, .int .i64 lm] 49)).alloc (.cells #[.string ⟨#[]⟩, .slice none 0 0, .slice none 0 0, .slice none 0 0] 27)) = W0 := ⟨_, rfl⟩
    rw [hW0] at HB0 ⊢
    clear hW0
    obtain ⟨x0, x1, x2, x3, z0, z1, z2, z3, z4, z5, z6, z7, z8, z9, z10, z11, z12, z13, z14, z15, z16, z17, z18, z19⟩ := HCC.out _ HB0.out
    go_upto_region 7 with (go_at_call 47; (with_reducible refine (HK.out _ HB0.out.bel).mono ?_); rintro e w1 ⟨A1, c1, A2, c2, A3, c3, rfl, hm1, hb1⟩; have HM1 := Lib.hid hm1; have HBB := Lib.hid hb1; have HB1 := Lib.hid (HB0.out.next hb1); clear hb1 hm1 x0 x1 x2 x3 z0 z1 z2 z3 z4 z5 z6 z7 z8 z9 z10 z11 z12 z13 z14 z15 z16 z17 z18 z19)
    have hal := (Below.refl w1.heap.size w1).alloc (Nat.le_refl _) (.cells #[.string R.sec, .slice A1 R.qs.length c1, .slice A2 R.hs.length c2, .slice A3 R.us.length c3] 27)
    have HAL := Lib.hid hal
    have HB2 := Lib.hid (HB1.out.next hal)
    have hbx := heap_alloc_new w1 (.cells #[.string R.sec, .slice A1 R.qs.length c1, .slice A2 R.hs.length c2, .slice A3 R.us.length c3] 27)
    obtain ⟨w2, hw2⟩ : ∃ w2, w1.alloc (.cells #[.string R.sec, .slice A1 R.qs.length c1, .slice A2 R.hs.length c2, .slice A3 R.us.length c3] 27) = w2 := ⟨_, rfl⟩
    rw [hw2] at HB2 HAL hbx ⊢
    obtain ⟨b7, hb7⟩ : ∃ b, w1.heap.size = b := ⟨_, rfl⟩
    rw [hb7] at hbx ⊢
    clear hw2 hb7 hal
    have y0 := cell_of_row _ _ 0 _ _ _ hbx
    have y1 := cell_of_row _ _ 1 _ _ _ hbx
    have y2 := cell_of_row _ _ 2 _ _ _ hbx
    have y3 := cell_of_row _ _ 3 _ _ _ hbx
    obtain ⟨r0, r1, r2, r3, g0, g1, g2, g3⟩ := HRC.out _ HB2.out
    clear hbx
    go_wp2_with fail
    refine bodyPost_ret (v := .tuple #[.agg #[.string R.sec, .slice A1 R.qs.length c1, .slice A2 R.hs.length c2, .slice A3 R.us.length c3], .int .i64 0, .string R.s, .int .i64 R.z]) (by simp [results, Tryz.results12, go_sem, r0, r1, r2, r3]) rfl ?_
    have hF := DsB.fin HSS.out HB0.out HB2.out HM1.out HBB.out HAL.out (.string R.sec) (.slice A1 R.qs.length c1) (.slice A2 R.hs.length c2) (.slice A3 R.us.length c3)
    exact ⟨A1, c1, A2, c2, A3, c3, by rw [HK0.out], hF.1, hF.2⟩
  · rw [if_neg (by rw [hrem]; decide), if_neg (by rw [hrem]; decide), if_pos hrem]
    have HK := Lib.hid (fun W (hb : Below w.heap.size w W) => r56_renew_gotR sec qs hs us Aa Ah Au na ca nh ch nu cu S W ho hq hn hu (h.keep (fun q hq => hb.cell (hS _ hq))) (fun g hg => Nat.lt_of_lt_of_le (hS g hg) hb.size) ix x A n c hx10 hxs hnx hix hxv hxe (hrow.keep (fun q hq => hb.cell (hS _ hq))))
    obtain ⟨R, hR⟩ : ∃ R, renewR sec qs hs us ix x = R := ⟨_, rfl⟩
    rw [hR] at HK ⊢
    have HK0 : Hid (R.k = 0) := Lib.hid (by rw [← hR]; exact renewR_k)
    unfold GotR3 valH at HK
    clear ho hq hn hu h hS hkd hsz hnc hsc hx10 hxs hnx hix hxv hxe hpd hlm hrow hpos hR
    go_enter Tryz.func12, Tryz.ntmps12
    go_upto_region 1 with fail
    obtain ⟨W0, hW0⟩ : ∃ W0, (((w.alloc (.cells #[.string sec, .slice Aa na ca, .slice Ah nh ch, .slice Au nu cu] 27)).alloc (.cells #[.int .u8 kd, .string qi, .string qc, .string qn, .string qx, .string qb, .string nc, .int .i64 ix, .string x.iss, .string x.sch, .int .i64 x.ver, .slice A n c, .string x.a, .string x.e, .string x.v, .int .i64 x.ep, .string x.wit, .string sc, .int .i64 pd, .int .i64 lm] 49)).alloc (.cells #[.string ⟨#[]⟩, .slice none 0 0, .slice none 0 0, .slice none 0 0] 27)) = W0 := ⟨_, rfl⟩
    rw [hW0] at HB0 ⊢
    clear hW0
    obtain ⟨x0, x1, x2, x3, z0, z1, z2, z3, z4, z5, z6, z7, z8, z9, z10, z11, z12, z13, z14, z15, z16, z17, z18, z19⟩ := HCC.out _ HB0.out
    go_upto_region 10 with (go_at_call 48; (with_reducible refine (HK.out _ HB0.out.bel).mono ?_); rintro e w1 ⟨A1, c1, A2, c2, A3, c3, rfl, hm1, hb1⟩; have HM1 := Lib.hid hm1; have HBB := Lib.hid hb1; have HB1 := Lib.hid (HB0.out.next hb1); clear hb1 hm1 x0 x1 x2 x3 z0 z1 z2 z3 z4 z5 z6 z7 z8 z9 z10 z11 z12 z13 z14 z15 z16 z17 z18 z19)
    have hal := (Below.refl w1.heap.size w1).alloc (Nat.le_refl _) (.cells #[.string R.sec, .slice A1 R.qs.length c1, .slice A2 R.hs.length c2, .slice A3 R.us.length c3] 27)
    have HAL := Lib.hid hal
    have HB2 := Lib.hid (HB1.out.next hal)
    have hbx := heap_alloc_new w1 (.cells #[.string R.sec, .slice A1 R.qs.length c1, .slice A2 R.hs.length c2, .slice A3 R.us.length c3] 27)
    obtain ⟨w2, hw2⟩ : ∃ w2, w1.alloc (.cells #[.string R.sec, .slice A1 R.qs.length c1, .slice A2 R.hs.length c2, .slice A3 R.us.length c3] 27) = w2 := ⟨_, rfl⟩
    rw [hw2] at HB2 HAL hbx ⊢
    obtain ⟨b7, hb7⟩ : ∃ b, w1.heap.size = b := ⟨_, rfl⟩
    rw [hb7] at hbx ⊢
    clear hw2 hb7 hal
    have y0 := cell_of_row _ _ 0 _ _ _ hbx
    have y1 := cell_of_row _ _ 1 _ _ _ hbx
    have y2 := cell_of_row _ _ 2 _ _ _ hbx
    have y3 := cell_of_row _ _ 3 _ _ _ hbx
    obtain ⟨r0, r1, r2, r3, g0, g1, g2, g3⟩ := HRC.out _ HB2.out
    clear hbx
    go_wp2_with fail
    refine bodyPost_ret (v := .tuple #[.agg #[.string R.sec, .slice A1 R.qs.length c1, .slice A2 R.hs.length c2, .slice A3 R.us.length c3], .int .i64 0, .string R.s, .int .i64 R.z]) (by simp [results, Tryz.results12, go_sem, r0, r1, r2, r3]) rfl ?_
    have hF := DsB.fin HSS.out HB0.out HB2.out HM1.out HBB.out HAL.out (.string R.sec) (.slice A1 R.qs.length c1) (.slice A2 R.hs.length c2) (.slice A3 R.us.length c3)
    exact ⟨A1, c1, A2, c2, A3, c3, by rw [HK0.out], hF.1, hF.2⟩
  · rw [if_neg (by rw [hrem]; decide), if_neg (by rw [hrem]; decide), if_neg (by rw [hrem]; decide)]
    have HK := Lib.hid (fun W (hb : Below w.heap.size w W) => r56_use_gotR sec qs hs us Aa Ah Au na ca nh ch nu cu S W ho hq hn hu (h.keep (fun q hq => hb.cell (hS _ hq))) (fun g hg => Nat.lt_of_lt_of_le (hS g hg) hb.size) sc pd lm hsc hpd hlm hpos)
    obtain ⟨R, hR⟩ : ∃ R, useR sec qs hs us sc pd lm = R := ⟨_, rfl⟩
    rw [hR] at HK ⊢
    unfold GotR4 at HK
    clear ho hq hn hu h hS hkd hsz hnc hsc hx10 hxs hnx hix hxv hxe hpd hlm hrow hpos hR
    go_enter Tryz.func12, Tryz.ntmps12
    go_upto_region 1 with fail
    obtain ⟨W0, hW0⟩ : ∃ W0, (((w.alloc (.cells #[.string sec, .slice Aa na ca, .slice Ah nh ch, .slice Au nu cu] 27)).alloc (.cells #[.int .u8 kd, .string qi, .string qc, .string qn, .string qx, .string qb, .string nc, .int .i64 ix, .string x.iss, .string x.sch, .int .i64 x.ver, .slice A n c, .string x.a, .string x.e, .string x.v, .int .i64 x.ep, .string x.wit, .string sc, .int .i64 pd, .int .i64 lm] 49)).alloc (.cells #[.string ⟨#[]⟩, .slice none 0 0, .slice none 0 0, .slice none 0 0] 27)) = W0 := ⟨_, rfl⟩
    rw [hW0] at HB0 ⊢
    clear hW0
    obtain ⟨x0, x1, x2, x3, z0, z1, z2, z3, z4, z5, z6, z7, z8, z9, z10, z11, z12, z13, z14, z15, z16, z17, z18, z19⟩ := HCC.out _ HB0.out
    go_wp2_with (go_at_call 49; (with_reducible refine (HK.out _ HB0.out.bel).mono ?_); rintro e w1 ⟨A1, c1, A2, c2, A3, c3, rfl, hm1, hb1⟩; have HM1 := Lib.hid hm1; have HBB := Lib.hid hb1; have HB1 := Lib.hid (HB0.out.next hb1); obtain ⟨r0, r1, r2, r3, g0, g1, g2, g3⟩ := HRC.out _ HB1.out; clear hb1 hm1 x0 x1 x2 x3 z0 z1 z2 z3 z4 z5 z6 z7 z8 z9 z10 z11 z12 z13 z14 z15 z16 z17 z18 z19)
    refine bodyPost_ret (v := .tuple #[.agg #[.string R.sec, .slice A1 R.qs.length c1, .slice A2 R.hs.length c2, .slice A3 R.us.length c3], .int .i64 R.k, .string R.s, .int .i64 R.z]) (by simp [results, Tryz.results12, go_sem, r0, r1, r2, r3]) rfl ?_
    have hF := DsB.fin HSS.out HB0.out HB1.out HM1.out HBB.out (Below.refl _ _) (.string R.sec) (.slice A1 R.qs.length c1) (.slice A2 R.hs.length c2) (.slice A3 R.us.length c3)
    exact ⟨A1, c1, A2, c2, A3, c3, rfl, hF.1, hF.2⟩
end Go.Proofs.YtjhlddlocpkhkaaGreat

namespace Go.Proofs.YtjhlddlocpkhkaaGreat
open Go.RowKit
set_option maxRecDepth 100000
set_option linter.unusedVariables false
set_option maxHeartbeats 8000000
theorem sumN_take {l : List ByteArray} {k : Nat} {y : ByteArray} (h : l[k]? = some y) : sumN (l.take (k + 1)) = sumN (l.take k) + y.size := by
  induction l generalizing k with
  | nil => simp at h
  | cons z r ih =>
    cases k with
    | zero => simp at h; subst h; simp [sumN]
    | succ k =>
      simp only [List.getElem?_cons_succ] at h
      simp only [List.take_succ_cons, sumN, ih h]
      omega
theorem sumN_bound {l : List ByteArray} {r : Nat} (h : ∀ y ∈ l, y.size ≤ r) : sumN l ≤ l.length * r := by
  induction l with
  | nil => simp [sumN]
  | cons y t ih =>
    have h1 := h y (by simp)
    have h2 := ih (fun z hz => h z (by simp [hz]))
    simp only [sumN, List.length_cons, Nat.add_mul, Nat.one_mul]
    omega
/-- Every string of a credential is at most r bytes long. -/
def BndH (r : Nat) (x : Hz) : Prop := x.iss.size ≤ r ∧ x.sch.size ≤ r ∧ x.a.size ≤ r ∧ x.e.size ≤ r ∧ x.v.size ≤ r ∧ x.wit.size ≤ r ∧ ∀ y ∈ x.att, y.size ≤ r
theorem wr64 (z : Int) (h : -9223372036854775808 ≤ z ∧ z ≤ 9223372036854775807) : IntKind.i64.wrap z = z := by rw [IntKind.wrap_i64]; omega
/-- What small says. -/
def smallB (x : Hz) : Bool := decide (x.att.length ≤ 10 ∧ sizeH x ≤ 600)
theorem law56_small (x : Hz) (A : Option Addr) (n c : Nat) (S : Nat → Prop) (w : World) (r : Nat) (hr : r ≤ 140737488355328) (hb : BndH r x) (hn : x.att.length = n) (hrow : RowC w S A n (cellsN x.att)) (hS : ∀ g, S g → g < w.heap.size) :
    Calls Tryz.prog 15 #[valH x A n c] w fun e w' => e = .returned (.bool (smallB x)) ∧ Below w.heap.size w w' := by
  unfold valH
  obtain ⟨b1, b2, b3, b4, b5, b6, b7⟩ := hb
  by_cases h10 : 10 < n
  · have d1 : decide ((10 : Int) < (n : Int)) = true := decide_eq_true (by omega)
    have HF : Hid (smallB x = false) := Lib.hid (decide_eq_false (by omega))
    clear hrow hS hr b1 b2 b3 b4 b5 b6 b7
    go_enter Tryz.func15, Tryz.ntmps15
    go_wp2_with fail
    go_ret
    exact ⟨by rw [HF.out]; rfl, ((Below.refl _ _).alloc (Nat.le_refl _) _).alloc (by simp) _⟩
  · have d1 : decide ((10 : Int) < (n : Int)) = false := decide_eq_false (by omega)
    obtain ⟨s2, hs2⟩ : ∃ s, x.iss.size + x.sch.size = s := ⟨_, rfl⟩
    obtain ⟨s3, hs3⟩ : ∃ s, s2 + x.a.size = s := ⟨_, rfl⟩
    obtain ⟨s4, hs4⟩ : ∃ s, s3 + x.e.size = s := ⟨_, rfl⟩
    obtain ⟨s5, hs5⟩ : ∃ s, s4 + x.v.size = s := ⟨_, rfl⟩
    obtain ⟨s6, hs6⟩ : ∃ s, s5 + x.wit.size = s := ⟨_, rfl⟩
    have HSZ : Hid (sizeH x = s6 + sumN x.att) := Lib.hid (by unfold sizeH; omega)
    have HBD : Hid (s6 ≤ 6 * 140737488355328 ∧ (∀ y ∈ x.att, y.size ≤ 140737488355328) ∧ n ≤ 10) := Lib.hid ⟨by omega, fun y hy => Nat.le_trans (b7 y hy) hr, by omega⟩
    have e2 : IntKind.i64.wrap ((x.iss.size : Int) + (x.sch.size : Int)) = (s2 : Int) := by rw [wr64 _ (by omega)]; omega
    have e3 : IntKind.i64.wrap ((s2 : Int) + (x.a.size : Int)) = (s3 : Int) := by rw [wr64 _ (by omega)]; omega
    have e4 : IntKind.i64.wrap ((s3 : Int) + (x.e.size : Int)) = (s4 : Int) := by rw [wr64 _ (by omega)]; omega
    have e5 : IntKind.i64.wrap ((s4 : Int) + (x.v.size : Int)) = (s5 : Int) := by rw [wr64 _ (by omega)]; omega
    have e6 : IntKind.i64.wrap ((s5 : Int) + (x.wit.size : Int)) = (s6 : Int) := by rw [wr64 _ (by omega)]; omega
    have HN := Lib.hid hn
    have HR := Lib.hid (And.intro hrow hS)
    clear hrow hS hr b1 b2 b3 b4 b5 b6 b7 hs2 hs3 hs4 hs5 hs6 h10
    go_enter Tryz.func15, Tryz.ntmps15
    go_upto_region 4 with fail
    go_wp2_with fail
    go_loopw [4, 42] (fun vn v wr => ∃ k : Nat, v = .int .i64 k ∧ k ≤ n ∧ vn = .int .i64 ((s6 + sumN (x.att.take k) : Nat) : Int) ∧ Below w.heap.size w wr) (fun _ v _ => n - (intOf v).toNat)
    case atStart => exact ⟨0, rfl, Nat.zero_le _, by simp [sumN], ((Below.refl _ _).alloc (Nat.le_refl _) _).alloc (by simp) _⟩
    case round =>
      obtain ⟨k, rfl, hk, rfl, hb⟩ := hrel
      obtain ⟨T, hT⟩ : ∃ T, s6 + sumN (x.att.take k) = T := ⟨_, rfl⟩
      rw [hT]
      have HBE := Lib.hid hb
      by_cases hlt : k < n
      · obtain ⟨y, hy⟩ : ∃ y, x.att[k]? = some y := ⟨x.att[k]'(by rw [HN.out]; exact hlt), List.getElem?_eq_getElem _⟩
        have hyc : (cellsN x.att)[k]? = some (.string y) := by unfold cellsN; rw [List.getElem?_map, hy]; rfl
        obtain ⟨g, off, rfl, hsg, hc⟩ := HR.out.1 (by omega)
        have z0 := (hb.cell (p := ⟨g, off + k, none⟩) (HR.out.2 _ hsg)).trans (hc _ _ hyc)
        have HT1 : Hid (s6 + sumN (x.att.take (k + 1)) = T + y.size) := Lib.hid (by rw [sumN_take hy]; omega)
        have hle : sumN (x.att.take k) ≤ 10 * 140737488355328 := Nat.le_trans (sumN_bound (fun z hz => HBD.out.2.1 z (List.mem_of_mem_take hz))) (Nat.mul_le_mul_right _ (by rw [List.length_take]; have := HBD.out.2.2; omega))
        have hyl := HBD.out.2.1 y (List.mem_of_getElem? hy)
        have e7 : IntKind.i64.wrap ((T : Int) + (y.size : Int)) = ((T + y.size : Nat) : Int) := by rw [wr64 _ (by have := HBD.out.1; omega)]; omega
        have HLT := Lib.hid hlt
        have k2 : (k : Int) < (n : Int) := by omega
        have k4 : k < 10 := by have := HBD.out.2.2; omega
        clear hb hy hyc hc hsg hlt hk hT hle hyl HR
        go_wp2_with fail
        go_roundw
        case rel => exact ⟨k + 1, by go_num, HLT.out, by rw [HT1.out]; simp, HBE.out⟩
        case measure => have := HLT.out; simp only [intOf]; omega
      · obtain rfl : n = k := by omega
        have HT1 : Hid (sizeH x = T) := Lib.hid (by rw [HSZ.out, ← hT, List.take_of_length_le (by rw [HN.out]; exact Nat.le_refl _)])
        by_cases h6 : T ≤ 600
        · have d2 : decide ((T : Int) ≤ 600) = true := decide_eq_true (by omega)
          have HF : Hid (smallB x = true) := Lib.hid (decide_eq_true ⟨by rw [HN.out]; exact HBD.out.2.2, by rw [HT1.out]; exact h6⟩)
          clear hb hlt hk hT HR
          go_wp2_with fail
          go_ret
          exact ⟨by rw [HF.out]; simp, HBE.out⟩
        · have d2 : decide ((T : Int) ≤ 600) = false := decide_eq_false (by omega)
          have HF : Hid (smallB x = false) := Lib.hid (decide_eq_false (fun h => h6 (by rw [← HT1.out]; exact h.2)))
          clear hb hlt hk hT HR
          go_wp2_with fail
          go_ret
          exact ⟨by rw [HF.out]; simp, HBE.out⟩
def BndA (r : Nat) (x : Az) : Prop := x.1.size ≤ r ∧ x.2.1.size ≤ r ∧ x.2.2.1.size ≤ r ∧ x.2.2.2.1.size ≤ r ∧ x.2.2.2.2.size ≤ r
def sizeA (x : Az) : Nat := x.1.size + x.2.1.size + x.2.2.1.size + x.2.2.2.1.size + x.2.2.2.2.size
def sumA : List Az → Nat
  | [] => 0
  | x :: r => sizeA x + sumA r
def sumU : List Uz → Nat
  | [] => 0
  | x :: r => x.1.size + sumU r
theorem sumA_take {l : List Az} {k : Nat} {y : Az} (h : l[k]? = some y) : sumA (l.take (k + 1)) = sumA (l.take k) + sizeA y := by
  induction l generalizing k with
  | nil => simp at h
  | cons z r ih =>
    cases k with
    | zero => simp at h; subst h; simp [sumA]
    | succ k =>
      simp only [List.getElem?_cons_succ] at h
      simp only [List.take_succ_cons, sumA, ih h]
      omega
theorem sumU_take {l : List Uz} {k : Nat} {y : Uz} (h : l[k]? = some y) : sumU (l.take (k + 1)) = sumU (l.take k) + y.1.size := by
  induction l generalizing k with
  | nil => simp at h
  | cons z r ih =>
    cases k with
    | zero => simp at h; subst h; simp [sumU]
    | succ k =>
      simp only [List.getElem?_cons_succ] at h
      simp only [List.take_succ_cons, sumU, ih h]
      omega
theorem sumA_bound {l : List Az} {r : Nat} (h : ∀ y ∈ l, BndA r y) : sumA l ≤ l.length * (5 * r) := by
  induction l with
  | nil => simp [sumA]
  | cons y t ih =>
    obtain ⟨h1, h2, h3, h4, h5⟩ := h y (by simp)
    have h6 := ih (fun z hz => h z (by simp [hz]))
    simp only [sumA, sizeA, List.length_cons, Nat.add_mul, Nat.one_mul]
    omega
theorem sumU_bound {l : List Uz} {r : Nat} (h : ∀ y ∈ l, y.1.size ≤ r) : sumU l ≤ l.length * r := by
  induction l with
  | nil => simp [sumU]
  | cons y t ih =>
    have h1 := h y (by simp)
    have h6 := ih (fun z hz => h z (by simp [hz]))
    simp only [sumU, List.length_cons, Nat.add_mul, Nat.one_mul]
    omega
/-- What few says. -/
def fewB (sec : ByteArray) (qs : List Az) (hs : List Hz) (us : List Uz) : Bool := decide (qs.length ≤ 8 ∧ hs.length ≤ 8 ∧ us.length ≤ 8 ∧ sec.size ≤ 200 ∧ sumA qs + sumU us ≤ 1200) && hs.all smallB
theorem law56_few1 (x : Hz) (A : Option Addr) (n c : Nat) (S : Nat → Prop) (w : World) (r : Nat) (hr : r ≤ 140737488355328) (hb : BndH r x) (hn : x.att.length = n) (hrow : RowC w S A n (cellsN x.att)) (hS : ∀ g, S g → g < w.heap.size) :
    Calls Tryz.prog 14 #[valH x A n c] w fun e w' => e = .returned (.bool (!smallB x)) ∧ Below w.heap.size w w' := by
  have H := Lib.hid (fun W (hbw : Below w.heap.size w W) => law56_small x A n c S W r hr hb hn (hrow.keep (fun p hp => hbw.cell (hS _ hp))) (fun g hg => Nat.lt_of_lt_of_le (hS g hg) hbw.size))
  unfold valH at H ⊢
  have HB : Hid (Below w.heap.size w (w.alloc (.cells #[.string x.iss, .string x.sch, .int .i64 x.ver, .slice A n c, .string x.a, .string x.e, .string x.v, .int .i64 x.ep, .string x.wit] 47))) := Lib.hid ((Below.refl _ _).alloc (Nat.le_refl _) _)
  clear hr hb hn hrow hS
  go_enter Tryz.func14, Tryz.ntmps14
  go_wp2_with (go_at_call 15; (with_reducible refine (H.out _ HB.out).mono ?_); rintro e w1 ⟨rfl, hb1⟩; have HB1 := Lib.hid (below2 HB.out hb1); clear hb1)
  go_ret
  exact ⟨by simp, HB1.out⟩
def idxH (f : Hz → Bool) : List Hz → Nat → Int
  | [], _ => -1
  | x :: r, k => if f x = true then (k : Int) else idxH f r (k + 1)
theorem dropH {hs : List Hz} {k : Nat} {x : Hz} (h : hs[k]? = some x) : hs.drop k = x :: hs.drop (k + 1) := by
  obtain ⟨h1, h2⟩ := List.getElem?_eq_some_iff.1 h
  rw [List.drop_eq_getElem_cons h1, h2]
theorem idxH_none {f : Hz → Bool} {hs : List Hz} (h : hs.any f = false) (k : Nat) : idxH f hs k = -1 := by
  induction hs generalizing k with
  | nil => rfl
  | cons x r ih =>
    rw [List.any_cons, Bool.or_eq_false_iff] at h
    unfold idxH
    rw [h.1]
    simpa using ih h.2 (k + 1)
theorem idxH_some {f : Hz → Bool} {hs : List Hz} (h : hs.any f = true) (k : Nat) : ∃ i : Nat, idxH f hs k = (i : Int) := by
  induction hs generalizing k with
  | nil => cases h
  | cons y r ih =>
    unfold idxH
    cases hy : f y
    · rw [List.any_cons, hy, Bool.false_or] at h
      obtain ⟨i, h1⟩ := ih h (k + 1)
      exact ⟨i, by simpa using h1⟩
    · exact ⟨k, by simp⟩
theorem index_few (hs : List Hz) (A : Option Addr) (n c : Nat) (S : Nat → Prop) (w : World) (r : Nat) (hr : r ≤ 140737488355328) (hbn : ∀ x ∈ hs, BndH r x) (hn : hs.length = n) (hm : n ≤ 100000) (h : SlH w S A hs) (hS : ∀ g, S g → g < w.heap.size) :
    Calls Tryz.prog 50 #[.slice A n c, .func (.func 14) #[] #[]] w fun e w' => e = .returned (.int .i64 (idxH (fun x => !smallB x) hs 0)) ∧ Below w.heap.size w w' := by
  have HL := Lib.hid (And.intro hS (And.intro hn (And.intro h (And.intro hr hbn))))
  obtain ⟨R, hR⟩ : ∃ R, idxH (fun x => !smallB x) hs 0 = R := ⟨_, rfl⟩
  have HR := Lib.hid hR
  rw [hR]
  clear h hS hn hR hr hbn
  go_enter Tryz.func50, Tryz.ntmps50
  go_wp2_with fail
  go_loopw [8] (fun v wr => ∃ k : Nat, k ≤ n ∧ v = .int .i64 k ∧ idxH (fun x => !smallB x) (hs.drop k) k = R ∧ Below w.heap.size w wr) (fun v _ => n - (intOf v).toNat)
  case atStart => exact ⟨0, by omega, rfl, HR.out, Below.refl _ _⟩
  case round =>
    obtain ⟨k, hk, rfl, hx, hf⟩ := hrel
    have HX := Lib.hid hx
    have HFD := Lib.hid hf
    clear hx
    by_cases hlt : k < n
    · obtain ⟨x, hu⟩ : ∃ u, hs[k]? = some u := ⟨hs[k]'(by rw [HL.out.2.1]; exact hlt), List.getElem?_eq_getElem _⟩
      obtain ⟨g, off, A1, c1, rfl, hsg, hr1, hc1⟩ := SlH.at_ HL.out.2.2.1 hu
      have y0 : wr.cell? ⟨g, off + k * 9, none⟩ = some (.string x.iss) := (hf.cell (HL.out.1 _ hsg)).trans (hc1 0 _ rfl)
      have y1 : wr.cell? ⟨g, off + k * 9 + 1, none⟩ = some (.string x.sch) := (hf.cell (HL.out.1 _ hsg)).trans (hc1 1 _ rfl)
      have y2 : wr.cell? ⟨g, off + k * 9 + 2, none⟩ = some (.int .i64 x.ver) := (hf.cell (HL.out.1 _ hsg)).trans (hc1 2 _ rfl)
      have y3 : wr.cell? ⟨g, off + k * 9 + 3, none⟩ = some (.slice A1 x.att.length c1) := (hf.cell (HL.out.1 _ hsg)).trans (hc1 3 _ rfl)
      have y4 : wr.cell? ⟨g, off + k * 9 + 4, none⟩ = some (.string x.a) := (hf.cell (HL.out.1 _ hsg)).trans (hc1 4 _ rfl)
      have y5 : wr.cell? ⟨g, off + k * 9 + 5, none⟩ = some (.string x.e) := (hf.cell (HL.out.1 _ hsg)).trans (hc1 5 _ rfl)
      have y6 : wr.cell? ⟨g, off + k * 9 + 6, none⟩ = some (.string x.v) := (hf.cell (HL.out.1 _ hsg)).trans (hc1 6 _ rfl)
      have y7 : wr.cell? ⟨g, off + k * 9 + 7, none⟩ = some (.int .i64 x.ep) := (hf.cell (HL.out.1 _ hsg)).trans (hc1 7 _ rfl)
      have y8 : wr.cell? ⟨g, off + k * 9 + 8, none⟩ = some (.string x.wit) := (hf.cell (HL.out.1 _ hsg)).trans (hc1 8 _ rfl)
      have HD := Lib.hid (dropH hu)
      have HC := Lib.hid (law56_few1 x A1 x.att.length c1 S wr r HL.out.2.2.2.1 (HL.out.2.2.2.2 x (List.mem_of_getElem? hu)) rfl (hr1.keep (fun p hp => hf.cell (HL.out.1 _ hp))) (fun g hg => Nat.lt_of_lt_of_le (HL.out.1 g hg) hf.size))
      unfold valH at HC
      obtain ⟨b, hb⟩ : ∃ b, (!smallB x) = b := ⟨_, rfl⟩
      rw [hb] at HC
      have HB := Lib.hid hb
      have HLT := Lib.hid hlt
      have hil : (k : Int) < (n : Int) := by omega
      have hil2 : (0 : Int) ≤ (k : Int) := by omega
      clear hu hsg hb hlt hr1 hc1 hf
      cases b
      · have hnx : idxH (fun x => !smallB x) (hs.drop (k + 1)) (k + 1) = R := by
          have := HX.out
          rw [HD.out] at this
          simp only [idxH, HB.out] at this
          simpa using this
        have HNX := Lib.hid hnx
        clear hnx
        go_wp2_with (go_at_call 14; (with_reducible refine HC.out.mono ?_); rintro e w5 ⟨rfl, hb5⟩; have H5 := Lib.hid (below2 HFD.out hb5); clear hb5)
        go_roundw
        case rel => exact ⟨k + 1, HLT.out, by go_num, HNX.out, H5.out⟩
        case measure => have := HLT.out; simp only [intOf]; omega
      · have hkr : (k : Int) = R := by
          have := HX.out
          rw [HD.out] at this
          simp only [idxH, HB.out] at this
          simpa using this
        have HKR := Lib.hid hkr
        clear hkr
        go_wp2_with (go_at_call 14; (with_reducible refine HC.out.mono ?_); rintro e w5 ⟨rfl, hb5⟩; have H5 := Lib.hid (below2 HFD.out hb5); clear hb5)
        go_ret
        exact ⟨by rw [← HKR.out]; rfl, H5.out⟩
    · obtain rfl : n = k := by omega
      have hr1 : R = -1 := by
        have := HX.out
        rw [List.drop_eq_nil_of_le (by rw [HL.out.2.1]; exact Nat.le_refl _)] at this
        exact this.symm
      have HR1 := Lib.hid hr1
      clear hr1
      go_wp2_with fail
      go_ret
      exact ⟨by rw [HR1.out]; rfl, HFD.out⟩
theorem contains_few (hs : List Hz) (A : Option Addr) (n c : Nat) (S : Nat → Prop) (w : World) (r : Nat) (hr : r ≤ 140737488355328) (hbn : ∀ x ∈ hs, BndH r x) (hn : hs.length = n) (hm : n ≤ 100000) (h : SlH w S A hs) (hS : ∀ g, S g → g < w.heap.size) :
    Calls Tryz.prog 13 #[.slice A n c, .func (.func 14) #[] #[]] w fun e w' => e = .returned (.bool (hs.any (fun x => !smallB x))) ∧ Below w.heap.size w w' := by
  have H := Lib.hid (index_few hs A n c S w r hr hbn hn hm h hS)
  obtain ⟨b, hb⟩ : ∃ b, hs.any (fun x => !smallB x) = b := ⟨_, rfl⟩
  rw [hb]
  cases b with
  | false =>
    rw [idxH_none hb 0] at H
    clear h hS hn hm hb hr hbn
    go_enter Tryz.func13, Tryz.ntmps13
    go_wp2_with (go_at_call 50; refine H.out.mono ?_; rintro e w' ⟨rfl, hb5⟩; have HB := Lib.hid hb5; clear hb5)
    go_ret
    exact ⟨rfl, HB.out⟩
  | true =>
    obtain ⟨i, h2⟩ := idxH_some hb 0
    rw [h2] at H
    clear h hS hn hm hb h2 hr hbn
    go_enter Tryz.func13, Tryz.ntmps13
    go_wp2_with (go_at_call 50; refine H.out.mono ?_; rintro e w' ⟨rfl, hb5⟩; have HB := Lib.hid hb5; clear hb5)
    go_ret
    exact ⟨by simp, HB.out⟩
end Go.Proofs.YtjhlddlocpkhkaaGreat
