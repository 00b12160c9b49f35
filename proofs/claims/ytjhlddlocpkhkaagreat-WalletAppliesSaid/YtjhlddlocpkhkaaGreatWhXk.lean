/- Wallet: Use, for every wallet. -/
import Derived.Test.YtjhlddlocpkhkaaGreatWhJ15
import Derived.Test.YtjhlddlocpkhkaaGreatWhJ12
namespace Go.Proofs.YtjhlddlocpkhkaaGreat
open Go.RowKit
set_option maxRecDepth 100000
set_option linter.unusedVariables false
set_option maxHeartbeats 8000000
/-- What Use holds ahead of its entry. -/
structure UqD (w : World) (sec : ByteArray) (Aa : Option Addr) (na ca : Nat) (Ah : Option Addr) (nh ch : Nat) (Au : Option Addr) (nu cu : Nat) (sc : ByteArray) (z m : Int) (qs : List Az) (hs : List Hz) (us : List Uz) (A1 : Option Addr) (c1 : Nat) (A2 : Option Addr) (c2 : Nat) (A3 : Option Addr) (n3 c3 b13 b14 : Nat) (wx : World) : Prop where
  cp : CpB w sec Aa na ca Ah nh ch Au nu cu wx
  used : wx.heap[b13]? = some (.cells #[.string sc, .int .i64 z, .int .i64 m] 57 (0, 0))
  wal : wx.heap[b14]? = some (.cells #[.string sec, .slice A1 na c1, .slice A2 nh c2, .slice A3 n3 c3] 27 (0, 0))
  mem : WalM wx (fun g => w.heap.size + 2 ≤ g ∧ g < b14) qs hs us A1 A2 A3
  lo : w.heap.size + 2 ≤ b13
  lt : b13 < b14
  hi : b14 < wx.heap.size
section
variable {w wx w' : World} {sec : ByteArray} {Aa : Option Addr} {na ca : Nat} {Ah : Option Addr} {nh ch : Nat} {Au : Option Addr} {nu cu : Nat} {sc : ByteArray} {z m : Int} {qs : List Az} {hs : List Hz} {us : List Uz} {A1 : Option Addr} {c1 : Nat} {A2 : Option Addr} {c2 : Nat} {A3 : Option Addr} {n3 c3 b13 b14 : Nat}
theorem UqD.next (h : UqD w sec Aa na ca Ah nh ch Au nu cu sc z m qs hs us A1 c1 A2 c2 A3 n3 c3 b13 b14 wx) (hb : Below wx.heap.size wx w') : UqD w sec Aa na ca Ah nh ch Au nu cu sc z m qs hs us A1 c1 A2 c2 A3 n3 c3 b13 b14 w' :=
  ⟨h.cp.next hb, (hb.block _ (Nat.lt_trans h.lt h.hi)).trans h.used, (hb.block _ h.hi).trans h.wal, h.mem.keep (fun p hp => hb.cell (Nat.lt_trans hp.2 h.hi)), h.lo, h.lt, Nat.lt_of_lt_of_le h.hi hb.size⟩
theorem UqD.drew (h : UqD w sec Aa na ca Ah nh ch Au nu cu sc z m qs hs us A1 c1 A2 c2 A3 n3 c3 b13 b14 wx) : UqD w sec Aa na ca Ah nh ch Au nu cu sc z m qs hs us A1 c1 A2 c2 A3 n3 c3 b13 b14 wx.drew := h.next (Below.refl _ _).drew
theorem UqD.uc (h : UqD w sec Aa na ca Ah nh ch Au nu cu sc z m qs hs us A1 c1 A2 c2 A3 n3 c3 b13 b14 wx) : wx.cell? ⟨b13, 0, none⟩ = some (.string sc) ∧ wx.cell? ⟨b13, 1, none⟩ = some (.int .i64 z) ∧ wx.cell? ⟨b13, 2, none⟩ = some (.int .i64 m) :=
  ⟨cell_of_row wx _ 0 _ _ _ h.used, cell_of_row wx _ 1 _ _ _ h.used, cell_of_row wx _ 2 _ _ _ h.used⟩
theorem UqD.wc (h : UqD w sec Aa na ca Ah nh ch Au nu cu sc z m qs hs us A1 c1 A2 c2 A3 n3 c3 b13 b14 wx) : (wx.cell? ⟨b14, 0, none⟩ = some (.string sec) ∧ wx.cell? ⟨b14, 1, none⟩ = some (.slice A1 na c1) ∧ wx.cell? ⟨b14, 2, none⟩ = some (.slice A2 nh c2) ∧ wx.cell? ⟨b14, 3, none⟩ = some (.slice A3 n3 c3)) ∧ (wx.frozen? ⟨b14, 0, none⟩ = false ∧ wx.frozen? ⟨b14, 1, none⟩ = false ∧ wx.frozen? ⟨b14, 2, none⟩ = false ∧ wx.frozen? ⟨b14, 3, none⟩ = false) :=
  ⟨⟨cell_of_row wx _ 0 _ _ _ h.wal, cell_of_row wx _ 1 _ _ _ h.wal, cell_of_row wx _ 2 _ _ _ h.wal, cell_of_row wx _ 3 _ _ _ h.wal⟩, frozen_of_row wx _ 0 _ _ h.wal, frozen_of_row wx _ 1 _ _ h.wal, frozen_of_row wx _ 2 _ _ h.wal, frozen_of_row wx _ 3 _ _ h.wal⟩
/-- The box is written with what it holds. -/
theorem UqD.put (h : UqD w sec Aa na ca Ah nh ch Au nu cu sc z m qs hs us A1 c1 A2 c2 A3 n3 c3 b13 b14 wx) :
    UqD w sec Aa na ca Ah nh ch Au nu cu sc z m qs hs us A1 c1 A2 c2 A3 n3 c3 b13 b14 ((((wx.setCell ⟨b14, 0, none⟩ (.string sec)).setCell ⟨b14, 1, none⟩ (.slice A1 na c1)).setCell ⟨b14, 2, none⟩ (.slice A2 nh c2)).setCell ⟨b14, 3, none⟩ (.slice A3 n3 c3)) := by
  have hlo := h.lo
  have hlt := h.lt
  have o : ∀ k, k ≠ b14 → ((((wx.setCell ⟨b14, 0, none⟩ (.string sec)).setCell ⟨b14, 1, none⟩ (.slice A1 na c1)).setCell ⟨b14, 2, none⟩ (.slice A2 nh c2)).setCell ⟨b14, 3, none⟩ (.slice A3 n3 c3)).heap[k]? = wx.heap[k]? := fun k hk => by
    rw [heap_setCell_other _ _ _ _ hk, heap_setCell_other _ _ _ _ hk, heap_setCell_other _ _ _ _ hk, heap_setCell_other _ _ _ _ hk]
  have hl : w.heap.size ≤ b14 := by omega
  refine ⟨⟨(o _ (by omega)).trans h.cp.box, (o _ (by omega)).trans h.cp.res, (((h.cp.bel.setCell (p := ⟨b14, 0, none⟩) hl _).setCell (p := ⟨b14, 1, none⟩) hl _).setCell (p := ⟨b14, 2, none⟩) hl _).setCell (p := ⟨b14, 3, none⟩) hl _, by simpa using h.cp.size⟩, (o _ (by omega)).trans h.used, ?_, h.mem.keep (fun p hp => World.cell?_of_block (o _ (by have := hp.2; omega))), h.lo, h.lt, by simpa using h.hi⟩
  have e0 := heap_setCell_same wx b14 0 _ _ (.string sec) h.wal
  have e1 := heap_setCell_same _ b14 1 _ _ (.slice A1 na c1) e0
  have e2 := heap_setCell_same _ b14 2 _ _ (.slice A2 nh c2) e1
  have e3 := heap_setCell_same _ b14 3 _ _ (.slice A3 n3 c3) e2
  exact e3
theorem UqD.fin (h : UqD w sec Aa na ca Ah nh ch Au nu cu sc z m qs hs us A1 c1 A2 c2 A3 n3 c3 b13 b14 wx) (v0 v1 v2 v3 : Value) :
    WalM ((((wx.setCell ⟨w.heap.size + 1, 0, none⟩ v0).setCell ⟨w.heap.size + 1, 1, none⟩ v1).setCell ⟨w.heap.size + 1, 2, none⟩ v2).setCell ⟨w.heap.size + 1, 3, none⟩ v3) (fun g => w.heap.size ≤ g ∧ g < ((((wx.setCell ⟨w.heap.size + 1, 0, none⟩ v0).setCell ⟨w.heap.size + 1, 1, none⟩ v1).setCell ⟨w.heap.size + 1, 2, none⟩ v2).setCell ⟨w.heap.size + 1, 3, none⟩ v3).heap.size) qs hs us A1 A2 A3 ∧
    Below w.heap.size w ((((wx.setCell ⟨w.heap.size + 1, 0, none⟩ v0).setCell ⟨w.heap.size + 1, 1, none⟩ v1).setCell ⟨w.heap.size + 1, 2, none⟩ v2).setCell ⟨w.heap.size + 1, 3, none⟩ v3) := by
  have hl : w.heap.size ≤ w.heap.size + 1 := Nat.le_succ _
  refine ⟨(h.mem.keep fun p hp => ?_).mono fun g hg => ⟨by have := hg.1; omega, by have := hg.2; have := h.hi; simp; omega⟩, (((h.cp.bel.setCell (p := ⟨w.heap.size + 1, 0, none⟩) hl _).setCell (p := ⟨w.heap.size + 1, 1, none⟩) hl _).setCell (p := ⟨w.heap.size + 1, 2, none⟩) hl _).setCell (p := ⟨w.heap.size + 1, 3, none⟩) hl _⟩
  have h1 := hp.1
  have hcell : ∀ (W : World) (i : Nat) (u : Value), (W.setCell ⟨w.heap.size + 1, i, none⟩ u).cell? p = W.cell? p := fun W i u => World.cell?_setCell_other _ _ _ _ (fun e => by have := congrArg Addr.block e; simp at this; omega)
  rw [hcell, hcell, hcell, hcell]
end
/-- What is asked of a wallet that the walks meet. -/
structure WalOk (qs : List Az) (hs : List Hz) (us : List Uz) : Prop where
  na : qs.length < 4096
  nh : hs.length < 4096
  nu : us.length < 4096
  nonce : ∀ x ∈ qs, x.2.2.1.size ≤ 100000
  att : ∀ x ∈ hs, x.att.length ≤ 90000
  scope : ∀ x ∈ us, x.1.size ≤ 100000 ∧ (Lit.int .i64 x.2.1).wf = true
theorem wal_Use_ok (sec : ByteArray) (qs : List Az) (hs : List Hz) (us : List Uz) (Aa Ah Au : Option Addr) (na ca nh ch nu cu : Nat) (sc : ByteArray) (z lim : Int) (S : Nat → Prop) (w : World) (hq : qs.length = na) (hn : hs.length = nh) (hu : us.length = nu) (ho : WalOk qs hs us) (hval : validW sec qs hs us = true) (hcn : 0 ≤ cntU (isU sc z) us) (hlt : cntU (isU sc z) us < lim) (hlim : lim ≤ 9223372036854775807) (hz : -9223372036854775808 ≤ z ∧ z ≤ 9223372036854775807) (hsc : sc.size ≤ 50000) (h : WalM w S qs hs us Aa Ah Au) (hS : ∀ g, S g → g < w.heap.size) :
    Calls Tryz.prog 16 #[.agg #[.string sec, .slice Aa na ca, .slice Ah nh ch, .slice Au nu cu], .string sc, .int .i64 z, .int .i64 lim] w fun e w' => ∃ A1 c1 A2 c2 A3 n3 c3, e = .returned (.tuple #[.agg #[.string sec, .slice A1 na c1, .slice A2 nh c2, .slice A3 n3 c3], .int .i64 (cntU (isU sc z) us), .string (encS (entOf ⟨#[117, 115, 101, 100]⟩ (usedL sc z (cntU (isU sc z) us + 1)))).1, .int .i64 0]) ∧ n3 = (putU (sc, z, cntU (isU sc z) us + 1) us).length ∧ WalM w' (fun g => w.heap.size ≤ g ∧ g < w'.heap.size) qs hs (putU (sc, z, cntU (isU sc z) us + 1) us) A1 A2 A3 ∧ Below w.heap.size w w' := by
  have HV := Lib.hid (fun W (hb : Below w.heap.size w W) => wal_valid sec qs hs us Aa Ah Au na ca nh ch nu cu S W hq hn hu (by have := ho.na; omega) (by have := ho.nh; omega) (by have := ho.nu; omega) ho.nonce ho.att ho.scope (h.keep (fun q hq => hb.cell (hS _ hq))) (fun g hg => Nat.lt_of_lt_of_le (hS g hg) hb.size))
  rw [hval] at HV
  have HCN := Lib.hid (fun W (hb : Below w.heap.size w W) => wal_count us Au nu cu S sec Aa Ah na ca nh ch sc z W hu (by have := ho.nu; omega) (h.keep (fun q hq => hb.cell (hS _ hq))).u (fun g hg => Nat.lt_of_lt_of_le (hS g hg) hb.size))
  obtain ⟨n, hcnt⟩ : ∃ n, cntU (isU sc z) us = n := ⟨_, rfl⟩
  rw [hcnt] at HCN hcn hlt ⊢
  obtain ⟨m, hm⟩ : ∃ m, n + 1 = m := ⟨_, rfl⟩
  rw [hm]
  have hwrap : wrap64 (n + 1) = m := by rw [← hm]; unfold wrap64; omega
  have HUS := Lib.hid (fun W (hb : Below w.heap.size w W) => wal_use sec qs hs us Aa Ah Au na ca nh ch nu cu sc z m S W hq hn hu (by have := ho.na; omega) (by have := ho.nh; omega) (by have := ho.nu; omega) (fun x hx => by have := ho.att x hx; omega) (h.keep (fun q hq => hb.cell (hS _ hq))) (fun g hg => Nat.lt_of_lt_of_le (hS g hg) hb.size))
  have hmr : -9223372036854775808 ≤ m ∧ m ≤ 9223372036854775807 := by omega
  have HIT := Lib.hid (fun W => wal_usedItems sc z m W hz hmr)
  have hul := usedL_le (sc := sc) hz hmr
  have hok := ent_ok (name := ⟨#[117, 115, 101, 100]⟩) (l := usedL sc z m) (by decide) (usedL_ok hz hmr) (by rw [usedL_deep]; decide) (by omega)
  have HCH := Lib.hid (fun (A1 A2 A3 : Option Addr) (c1 c2 n3 c3 : Nat) (A : Option Addr) (S' : Nat → Prop) (W : World) (hsl : SlI W S' A (usedL sc z m)) (hS' : ∀ g, S' g → g < W.heap.size) => wal_changed sec A1 A2 A3 na c1 nh c2 n3 c3 ⟨#[117, 115, 101, 100]⟩ (usedL sc z m) A 3 S' W (by rw [usedL_size]; decide) hsl hS' (ent_len (name := ⟨#[117, 115, 101, 100]⟩) (by decide) (by omega)) hok)
  have hlen : (usedL sc z m).len = 3 := rfl
  rw [hlen] at HCH
  clear hlen
  have kl : decide (lim ≤ n) = false := decide_eq_false (by omega)
  have kl2 : (lim ≤ n) = False := by simp; omega
  have HCP := Lib.hid (CpB.start (w := w) (sec := sec) (Aa := Aa) (na := na) (ca := ca) (Ah := Ah) (nh := nh) (ch := ch) (Au := Au) (nu := nu) (cu := cu))
  clear h hS hq hn hu ho hval hcn hlt hlim hz hsc hcnt hm hul hok hmr
  go_enter Tryz.func16, Tryz.ntmps16
  go_upto_region 7 with (first
    | (go_at_call 17; (with_reducible refine (HV.out _ HCP.out.bel).mono ?_); rintro e w1 ⟨rfl, hb1⟩; have HC1 := Lib.hid (HCP.out.next hb1); obtain ⟨⟨x0, x1, x2, x3⟩, y0, y1, y2, y3⟩ := HC1.out.bc; clear hb1)
    | (go_at_call 51; (with_reducible refine (HCN.out _ HC1.out.bel).mono ?_); rintro e w2 ⟨rfl, hb2⟩; have HC2 := Lib.hid (HC1.out.next hb2); obtain ⟨⟨x0, x1, x2, x3⟩, y0, y1, y2, y3⟩ := HC2.out.bc; clear hb2))
  have HC3 := Lib.hid (HC2.out.next ((Below.refl _ w2).alloc (Nat.le_refl _) (.cells #[.string sc, .int .i64 z, .int .i64 m] 57)))
  have q3 := heap_alloc_new w2 (.cells #[.string sc, .int .i64 z, .int .i64 m] 57)
  have HU3 := Lib.hid q3
  obtain ⟨⟨v0, v1, v2, v3⟩, -⟩ := HC3.out.bc
  clear q3
  go_upto_region 8 with (go_at_call 52; (with_reducible refine (HUS.out _ HC3.out.bel).mono ?_); rintro e w3 ⟨A1, c1, A2, c2, A3, n3, c3, rfl, hn3, hmem, hb3⟩; have HC4 := Lib.hid (HC3.out.next hb3); have HB3 := Lib.hid hb3; have HM3 := Lib.hid hmem; have HN3 := Lib.hid hn3; clear hb3 hmem hn3)
  have HD : Hid (UqD w sec Aa na ca Ah nh ch Au nu cu sc z m qs hs (putU (sc, z, m) us) A1 c1 A2 c2 A3 n3 c3 w2.heap.size w3.heap.size (w3.alloc (.cells #[.string sec, .slice A1 na c1, .slice A2 nh c2, .slice A3 n3 c3] 27))) := Lib.hid (by
    have hal : Below w3.heap.size w3 (w3.alloc (.cells #[.string sec, .slice A1 na c1, .slice A2 nh c2, .slice A3 n3 c3] 27)) := (Below.refl _ _).alloc (Nat.le_refl _) _
    have hz3 := HB3.out.size
    have hz2 := HC2.out.size
    simp only [World.size_alloc] at hz3
    refine ⟨HC4.out.next hal, ?_, heap_alloc_new w3 _, (HM3.out.keep (fun p hp => hal.cell hp.2)).mono (fun g hg => ⟨?_, hg.2⟩), hz2, by omega, by simp⟩
    · exact (hal.block _ (by omega)).trans ((HB3.out.block _ (by simp)).trans HU3.out)
    · have := hg.1
      simp at this
      omega)
  obtain ⟨w4, hw4⟩ : ∃ w4, w3.alloc (.cells #[.string sec, .slice A1 na c1, .slice A2 nh c2, .slice A3 n3 c3] 27) = w4 := ⟨_, rfl⟩
  rw [hw4] at HD ⊢
  clear hw4 HC4 HC3 HU3 HM3 HB3 x0 x1 x2 x3 y0 y1 y2 y3 v0 v1 v2 v3
  obtain ⟨b13, hb13⟩ : ∃ b, w2.heap.size = b := ⟨_, rfl⟩
  obtain ⟨b14, hb14⟩ : ∃ b, w3.heap.size = b := ⟨_, rfl⟩
  rw [hb13, hb14] at HD
  rw [hb13, hb14]
  clear hb13 hb14
  obtain ⟨⟨x0, x1, x2, x3⟩, y0, y1, y2, y3⟩ := HD.out.wc
  obtain ⟨z0, z1, z2⟩ := HD.out.uc
  go_cut [16, 15] (fun a b wx => a = .string (encS (entOf ⟨#[117, 115, 101, 100]⟩ (usedL sc z m))).1 ∧ b = .int .i64 0 ∧ UqD w sec Aa na ca Ah nh ch Au nu cu sc z m qs hs (putU (sc, z, m) us) A1 c1 A2 c2 A3 n3 c3 b13 b14 wx)
  case first =>
    go_region_with (first
      | (go_at_call 54; (with_reducible refine (HIT.out _).mono ?_); rintro e w5 ⟨A5, rfl, hsl5, hb5⟩; have HD5 := Lib.hid (show UqD w sec Aa na ca Ah nh ch Au nu cu sc z m qs hs (putU (sc, z, m) us) A1 c1 A2 c2 A3 n3 c3 b13 b14 w5 from by { first | exact HD.out.next hb5 | exact HD.out.drew.next hb5 }); have HS5 := Lib.hid (HCH.out A1 A2 A3 c1 c2 n3 c3 A5 _ w5 hsl5 (fun g hg => hg.2)); obtain ⟨⟨x0, x1, x2, x3⟩, y0, y1, y2, y3⟩ := HD5.out.wc; clear hsl5 hb5)
      | (go_at_call 53; (with_reducible refine HS5.out.mono ?_); rintro e w6 ⟨rfl, hb6⟩; have HD6 := Lib.hid (HD5.out.next hb6); obtain ⟨⟨x0, x1, x2, x3⟩, y0, y1, y2, y3⟩ := HD6.out.wc; clear hb6))
    all_goals
      have HD7 := Lib.hid HD6.out.put
      go_wp2_with fail
      go_meet
      exact ⟨rfl, rfl, HD7.out⟩
  case rest =>
    obtain ⟨rfl, rfl, hcut⟩ := hcut
    have HD8 := Lib.hid hcut
    clear hcut x0 x1 x2 x3 y0 y1 y2 y3 z0 z1 z2
    obtain ⟨⟨x0, x1, x2, x3⟩, y0, y1, y2, y3⟩ := HD8.out.wc
    obtain ⟨⟨r0, r1, r2, r3⟩, g0, g1, g2, g3⟩ := HD8.out.cp.rc
    go_wp2_with fail
    have HF := HD8.out.fin (.string sec) (.slice A1 na c1) (.slice A2 nh c2) (.slice A3 n3 c3)
    refine bodyPost_ret (v := .tuple #[.agg #[.string sec, .slice A1 na c1, .slice A2 nh c2, .slice A3 n3 c3], .int .i64 n, .string (encS (entOf ⟨#[117, 115, 101, 100]⟩ (usedL sc z m))).1, .int .i64 0]) (by simp [results, Tryz.results16, go_sem, r0, r1, r2, r3]) rfl ?_
    exact ⟨A1, c1, A2, c2, A3, n3, c3, rfl, HN3.out, HF.1, HF.2⟩
end Go.Proofs.YtjhlddlocpkhkaaGreat
