/- Wallet: Renew where its entry is not well; printed by genVaa.py. Wallet: Renew for all arguments. Wallet: store where no request has the nonce. Wallet: slices.Delete of one request out of a row of the call's own. Wallet: slices.Delete of one request (the walk). -/
import Derived.Test.YtjhlddlocpkhkaaGreatWgJ23
import Derived.Test.YtjhlddlocpkhkaaGreatWgJ13
import Derived.Test.YtjhlddlocpkhkaaGreatWgJ03
import Derived.Deep.RegionLaw
namespace Go.Proofs.YtjhlddlocpkhkaaGreat
open Go.RowKit
set_option maxRecDepth 100000
set_option linter.unusedVariables false
set_option maxHeartbeats 8000000
/-- Renew where the entry is not well. -/
theorem wal_Renew_bad (sec : ByteArray) (qs : List Az) (hs : List Hz) (us : List Uz) (Aa Ah Au : Option Addr) (na ca nh ch nu cu : Nat) (k : Int) (x : Hz) (A : Option Addr) (n c : Nat) (S : Nat → Prop) (w : World) (hq : qs.length = na) (hn : hs.length = nh) (hu : us.length = nu) (ho : WalOk qs hs us) (hv : validW sec qs hs us = true) (hc : (numsH x).all valid = true) (hnx : x.att.length = n) (hmn : n ≤ 1000) (hnl : (numsH x).length ≤ 100000) (hkb : -9223372036854775808 ≤ k ∧ k ≤ 9223372036854775807) (hxv : -9223372036854775808 ≤ x.ver ∧ x.ver ≤ 9223372036854775807) (hxe : -9223372036854775808 ≤ x.ep ∧ x.ep ≤ 9223372036854775807) (hrow : RowC w S A n (cellsN x.att)) (h : WalM w S qs hs us Aa Ah Au) (hS : ∀ g, S g → g < w.heap.size) (hs' : List Hz) (z : Int) (hz : z ≠ 0) (hle : (encOne (entOf ⟨#[114, 101, 110, 101, 119, 101, 100]⟩ (renewI k x))).length ≤ 200000000) (hok : (encS (entOf ⟨#[114, 101, 110, 101, 119, 101, 100]⟩ (renewI k x))).2 = z) (hren : ∀ W, Below w.heap.size w W → Calls Tryz.prog 65 #[.agg #[.string sec, .slice Aa na ca, .slice Ah nh ch, .slice Au nu cu], .int .i64 k, valH x A n c] W (ChGot W sec qs hs' us)) :
    Calls Tryz.prog 45 #[.agg #[.string sec, .slice Aa na ca, .slice Ah nh ch, .slice Au nu cu], .int .i64 k, valH x A n c] w (ZeroErr w z) := by
  have HV := Lib.hid (fun W (hb : Below w.heap.size w W) => wal_valid sec qs hs us Aa Ah Au na ca nh ch nu cu S W hq hn hu (by have := ho.na; omega) (by have := ho.nh; omega) (by have := ho.nu; omega) ho.nonce ho.att ho.scope (h.keep (fun q hq => hb.cell (hS _ hq))) (fun g hg => Nat.lt_of_lt_of_le (hS g hg) hb.size))
  rw [hv] at HV
  have HNM := Lib.hid (fun W (hb : Below w.heap.size w W) => wal_numbers x A n c S W hnx (by omega) (hrow.keep (fun q hq => hb.cell (hS _ hq))) (fun g hg => Nat.lt_of_lt_of_le (hS g hg) hb.size))
  have HHI := Lib.hid (fun W (hb : Below w.heap.size w W) => wal_heldItem x A n c S W hnx hmn hxv hxe (hrow.keep (fun q hq => hb.cell (hS _ hq))) (fun g hg => Nat.lt_of_lt_of_le (hS g hg) hb.size))
  have HREN := Lib.hid hren
  unfold ItOut at HHI
  dsimp only at HHI
  have hl9 : (heldL x).len = 9 := rfl
  rw [hl9] at HHI
  unfold valH at HNM HHI HREN ⊢
  unfold ChGot at HREN
  have HWH := Lib.hid (fun W => wal_whole2 k W hkb)
  have HCAN := Lib.hid (fun A' n' c' W (hn' : n' = (numsH x).length) (hs : SLs W W.heap.size A' (numsH x)) => wal_canonical (numsH x) A' n' c' W.heap.size W hn'.symm (by omega) hs)
  rw [hc] at HCAN
  have HB0 := Lib.hid (BxB.start (w := w) (sec := sec) (Aa := Aa) (na := na) (ca := ca) (Ah := Ah) (nh := nh) (ch := ch) (Au := Au) (nu := nu) (cu := cu) (cs := #[.string x.iss, .string x.sch, .int .i64 x.ver, .slice A n c, .string x.a, .string x.e, .string x.v, .int .i64 x.ep, .string x.wit]) (T := 47))
  have HAC : Hid (∀ W, BxB w sec Aa na ca Ah nh ch Au nu cu #[.string x.iss, .string x.sch, .int .i64 x.ver, .slice A n c, .string x.a, .string x.e, .string x.v, .int .i64 x.ep, .string x.wit] 47 W → W.cell? ⟨w.heap.size + 1, 0, none⟩ = some (.string x.iss) ∧ W.cell? ⟨w.heap.size + 1, 1, none⟩ = some (.string x.sch) ∧ W.cell? ⟨w.heap.size + 1, 2, none⟩ = some (.int .i64 x.ver) ∧ W.cell? ⟨w.heap.size + 1, 3, none⟩ = some (.slice A n c) ∧ W.cell? ⟨w.heap.size + 1, 4, none⟩ = some (.string x.a) ∧ W.cell? ⟨w.heap.size + 1, 5, none⟩ = some (.string x.e) ∧ W.cell? ⟨w.heap.size + 1, 6, none⟩ = some (.string x.v) ∧ W.cell? ⟨w.heap.size + 1, 7, none⟩ = some (.int .i64 x.ep) ∧ W.cell? ⟨w.heap.size + 1, 8, none⟩ = some (.string x.wit)) := Lib.hid (fun W h => ⟨cell_of_row _ _ 0 _ _ _ h.arg, cell_of_row _ _ 1 _ _ _ h.arg, cell_of_row _ _ 2 _ _ _ h.arg, cell_of_row _ _ 3 _ _ _ h.arg, cell_of_row _ _ 4 _ _ _ h.arg, cell_of_row _ _ 5 _ _ _ h.arg, cell_of_row _ _ 6 _ _ _ h.arg, cell_of_row _ _ 7 _ _ _ h.arg, cell_of_row _ _ 8 _ _ _ h.arg⟩)
  have HLE := Lib.hid hle
  have HOK := Lib.hid hok
  have HSZ : Hid ((renewI k x).size ≤ 10000) := Lib.hid (by unfold renewI heldL intIt; simp only [Its.size, natsI_size]; omega)
  clear h hS ho hq hn hu hv hc hrow hnl hren hle hok
  go_enter Tryz.func45, Tryz.ntmps45
  go_upto_region 3 with (first
    | (go_at_call 17; (with_reducible refine (HV.out _ HB0.out.bel).mono ?_); rintro e w1 ⟨rfl, hb1⟩; have HB1 := Lib.hid (HB0.out.next hb1); obtain ⟨q0, q1, q2, q3, q4, q5, q6, q7, q8⟩ := HAC.out _ HB1.out; clear hb1)
    | (go_at_call 56; (with_reducible refine (HNM.out _ HB1.out.bel).mono ?_); rintro e w2 ⟨A', n', c', rfl, hn', hs', hb2⟩; have HB2 := Lib.hid (HB1.out.next hb2); have HC2 := Lib.hid (HCAN.out A' n' c' w2 hn' hs'); clear hb2 hn' hs')
    | (go_at_call 55; (with_reducible refine HC2.out.mono ?_); rintro e w3 ⟨rfl, rfl⟩))
  clear q0 q1 q2 q3 q4 q5 q6 q7 q8 HC2 HB1 HB0
  obtain ⟨q0, q1, q2, q3, q4, q5, q6, q7, q8⟩ := HAC.out _ HB2.out
  obtain ⟨⟨x0, x1, x2, x3⟩, -⟩ := HB2.out.bc
  go_upto_region 4 with (go_at_call 65; (with_reducible refine (HREN.out _ HB2.out.bel).mono ?_); rintro e w3 ⟨A1, n1, c1, A2, n2, c2, A3, n3, c3, rfl, l1, l2, l3, hm3, hb3⟩; have HD := Lib.hid (AqD.start (sec' := sec) (n1 := n1) (c1 := c1) (n2 := n2) (c2 := c2) (n3 := n3) (c3 := c3) HB2.out hb3 hm3); have HL := Lib.hid (And.intro l1 (And.intro l2 l3)); clear hb3 hm3 l1 l2 l3)
  obtain ⟨w4, hw4⟩ : ∃ w4, w3.alloc (.cells #[.string sec, .slice A1 n1 c1, .slice A2 n2 c2, .slice A3 n3 c3] 27) = w4 := ⟨_, rfl⟩
  rw [hw4] at HD ⊢
  clear hw4 q0 q1 q2 q3 q4 q5 q6 q7 q8 x0 x1 x2 x3
  obtain ⟨b7, hb7⟩ : ∃ b, w3.heap.size = b := ⟨_, rfl⟩
  rw [hb7] at HD
  rw [hb7]
  clear hb7 HB2
  obtain ⟨P, hP⟩ : ∃ P : World → Prop, P = (fun W => AqD w sec Aa na ca Ah nh ch Au nu cu #[.string x.iss, .string x.sch, .int .i64 x.ver, .slice A n c, .string x.a, .string x.e, .string x.v, .int .i64 x.ep, .string x.wit] 47 sec qs hs' us A1 n1 c1 A2 n2 c2 A3 n3 c3 b7 W) := ⟨_, rfl⟩
  have HPN : Hid (∀ W w', P W → Below W.heap.size W w' → P w') := Lib.hid (by rw [hP]; exact fun W w' h hb => h.next hb)
  have HPA : Hid (∀ W, P W → AqD w sec Aa na ca Ah nh ch Au nu cu #[.string x.iss, .string x.sch, .int .i64 x.ver, .slice A n c, .string x.a, .string x.e, .string x.v, .int .i64 x.ep, .string x.wit] 47 sec qs hs' us A1 n1 c1 A2 n2 c2 A3 n3 c3 b7 W) := Lib.hid (by rw [hP]; exact fun W h => h)
  have H0 : Hid (RwK P (b7 + 1) [] w4) := Lib.hid ⟨by rw [hP]; exact HD.out, HD.out.hi, fun q hq => absurd hq (by simp)⟩
  clear hP
  have HCC : Hid (∀ L W, RwK P (b7 + 1) L W → W.cell? ⟨b7, 0, none⟩ = some (.string sec) ∧ W.cell? ⟨b7, 1, none⟩ = some (.slice A1 n1 c1) ∧ W.cell? ⟨b7, 2, none⟩ = some (.slice A2 n2 c2) ∧ W.cell? ⟨b7, 3, none⟩ = some (.slice A3 n3 c3) ∧ W.cell? ⟨w.heap.size + 1, 0, none⟩ = some (.string x.iss) ∧ W.cell? ⟨w.heap.size + 1, 1, none⟩ = some (.string x.sch) ∧ W.cell? ⟨w.heap.size + 1, 2, none⟩ = some (.int .i64 x.ver) ∧ W.cell? ⟨w.heap.size + 1, 3, none⟩ = some (.slice A n c) ∧ W.cell? ⟨w.heap.size + 1, 4, none⟩ = some (.string x.a) ∧ W.cell? ⟨w.heap.size + 1, 5, none⟩ = some (.string x.e) ∧ W.cell? ⟨w.heap.size + 1, 6, none⟩ = some (.string x.v) ∧ W.cell? ⟨w.heap.size + 1, 7, none⟩ = some (.int .i64 x.ep) ∧ W.cell? ⟨w.heap.size + 1, 8, none⟩ = some (.string x.wit)) := Lib.hid (fun L W h => by
    have ha := HPA.out W h.p
    obtain ⟨e0, e1, e2, e3⟩ := ha.wc
    exact ⟨e0, e1, e2, e3, HAC.out W ha.bx⟩)
  have HCS : Hid (∀ L W, RwK P (b7 + 1) L W → ∀ v0 v1 v2 v3, ((((W.setCell ⟨w.heap.size + 1 + 1, 0, none⟩ v0).setCell ⟨w.heap.size + 1 + 1, 1, none⟩ v1).setCell ⟨w.heap.size + 1 + 1, 2, none⟩ v2).setCell ⟨w.heap.size + 1 + 1, 3, none⟩ v3).cell? ⟨b7, 0, none⟩ = some (.string sec) ∧ ((((W.setCell ⟨w.heap.size + 1 + 1, 0, none⟩ v0).setCell ⟨w.heap.size + 1 + 1, 1, none⟩ v1).setCell ⟨w.heap.size + 1 + 1, 2, none⟩ v2).setCell ⟨w.heap.size + 1 + 1, 3, none⟩ v3).cell? ⟨b7, 1, none⟩ = some (.slice A1 n1 c1) ∧ ((((W.setCell ⟨w.heap.size + 1 + 1, 0, none⟩ v0).setCell ⟨w.heap.size + 1 + 1, 1, none⟩ v1).setCell ⟨w.heap.size + 1 + 1, 2, none⟩ v2).setCell ⟨w.heap.size + 1 + 1, 3, none⟩ v3).cell? ⟨b7, 2, none⟩ = some (.slice A2 n2 c2) ∧ ((((W.setCell ⟨w.heap.size + 1 + 1, 0, none⟩ v0).setCell ⟨w.heap.size + 1 + 1, 1, none⟩ v1).setCell ⟨w.heap.size + 1 + 1, 2, none⟩ v2).setCell ⟨w.heap.size + 1 + 1, 3, none⟩ v3).cell? ⟨b7, 3, none⟩ = some (.slice A3 n3 c3) ∧ ((((W.setCell ⟨w.heap.size + 1 + 1, 0, none⟩ v0).setCell ⟨w.heap.size + 1 + 1, 1, none⟩ v1).setCell ⟨w.heap.size + 1 + 1, 2, none⟩ v2).setCell ⟨w.heap.size + 1 + 1, 3, none⟩ v3).cell? ⟨w.heap.size + 1, 0, none⟩ = some (.string x.iss) ∧ ((((W.setCell ⟨w.heap.size + 1 + 1, 0, none⟩ v0).setCell ⟨w.heap.size + 1 + 1, 1, none⟩ v1).setCell ⟨w.heap.size + 1 + 1, 2, none⟩ v2).setCell ⟨w.heap.size + 1 + 1, 3, none⟩ v3).cell? ⟨w.heap.size + 1, 1, none⟩ = some (.string x.sch) ∧ ((((W.setCell ⟨w.heap.size + 1 + 1, 0, none⟩ v0).setCell ⟨w.heap.size + 1 + 1, 1, none⟩ v1).setCell ⟨w.heap.size + 1 + 1, 2, none⟩ v2).setCell ⟨w.heap.size + 1 + 1, 3, none⟩ v3).cell? ⟨w.heap.size + 1, 2, none⟩ = some (.int .i64 x.ver) ∧ ((((W.setCell ⟨w.heap.size + 1 + 1, 0, none⟩ v0).setCell ⟨w.heap.size + 1 + 1, 1, none⟩ v1).setCell ⟨w.heap.size + 1 + 1, 2, none⟩ v2).setCell ⟨w.heap.size + 1 + 1, 3, none⟩ v3).cell? ⟨w.heap.size + 1, 3, none⟩ = some (.slice A n c) ∧ ((((W.setCell ⟨w.heap.size + 1 + 1, 0, none⟩ v0).setCell ⟨w.heap.size + 1 + 1, 1, none⟩ v1).setCell ⟨w.heap.size + 1 + 1, 2, none⟩ v2).setCell ⟨w.heap.size + 1 + 1, 3, none⟩ v3).cell? ⟨w.heap.size + 1, 4, none⟩ = some (.string x.a) ∧ ((((W.setCell ⟨w.heap.size + 1 + 1, 0, none⟩ v0).setCell ⟨w.heap.size + 1 + 1, 1, none⟩ v1).setCell ⟨w.heap.size + 1 + 1, 2, none⟩ v2).setCell ⟨w.heap.size + 1 + 1, 3, none⟩ v3).cell? ⟨w.heap.size + 1, 5, none⟩ = some (.string x.e) ∧ ((((W.setCell ⟨w.heap.size + 1 + 1, 0, none⟩ v0).setCell ⟨w.heap.size + 1 + 1, 1, none⟩ v1).setCell ⟨w.heap.size + 1 + 1, 2, none⟩ v2).setCell ⟨w.heap.size + 1 + 1, 3, none⟩ v3).cell? ⟨w.heap.size + 1, 6, none⟩ = some (.string x.v) ∧ ((((W.setCell ⟨w.heap.size + 1 + 1, 0, none⟩ v0).setCell ⟨w.heap.size + 1 + 1, 1, none⟩ v1).setCell ⟨w.heap.size + 1 + 1, 2, none⟩ v2).setCell ⟨w.heap.size + 1 + 1, 3, none⟩ v3).cell? ⟨w.heap.size + 1, 7, none⟩ = some (.int .i64 x.ep) ∧ ((((W.setCell ⟨w.heap.size + 1 + 1, 0, none⟩ v0).setCell ⟨w.heap.size + 1 + 1, 1, none⟩ v1).setCell ⟨w.heap.size + 1 + 1, 2, none⟩ v2).setCell ⟨w.heap.size + 1 + 1, 3, none⟩ v3).cell? ⟨w.heap.size + 1, 8, none⟩ = some (.string x.wit)) := Lib.hid (fun L W h v0 v1 v2 v3 => by
    obtain ⟨e0, e1, e2, e3, e4, e5, e6, e7, e8, e9, e10, e11, e12⟩ := HCC.out L W h
    have hlo := (HPA.out W h.p).lo
    have hne : ∀ (V : World) (i : Nat) (u : Value) (p : Addr), p.block ≠ w.heap.size + 1 + 1 → (V.setCell ⟨w.heap.size + 1 + 1, i, none⟩ u).cell? p = V.cell? p := fun V i u p hp => World.cell?_setCell_other _ _ _ _ (fun e => by have := congrArg Addr.block e; simp at this; omega)
    have key : ∀ p : Addr, p.block ≠ w.heap.size + 1 + 1 → ((((W.setCell ⟨w.heap.size + 1 + 1, 0, none⟩ v0).setCell ⟨w.heap.size + 1 + 1, 1, none⟩ v1).setCell ⟨w.heap.size + 1 + 1, 2, none⟩ v2).setCell ⟨w.heap.size + 1 + 1, 3, none⟩ v3).cell? p = W.cell? p := fun p hp => by rw [hne _ _ _ _ hp, hne _ _ _ _ hp, hne _ _ _ _ hp, hne _ _ _ _ hp]
    exact ⟨(key ⟨b7, 0, none⟩ (by show b7 ≠ _; omega)).trans e0, (key ⟨b7, 1, none⟩ (by show b7 ≠ _; omega)).trans e1, (key ⟨b7, 2, none⟩ (by show b7 ≠ _; omega)).trans e2, (key ⟨b7, 3, none⟩ (by show b7 ≠ _; omega)).trans e3, (key ⟨w.heap.size + 1, 0, none⟩ (by show w.heap.size + 1 ≠ _; omega)).trans e4, (key ⟨w.heap.size + 1, 1, none⟩ (by show w.heap.size + 1 ≠ _; omega)).trans e5, (key ⟨w.heap.size + 1, 2, none⟩ (by show w.heap.size + 1 ≠ _; omega)).trans e6, (key ⟨w.heap.size + 1, 3, none⟩ (by show w.heap.size + 1 ≠ _; omega)).trans e7, (key ⟨w.heap.size + 1, 4, none⟩ (by show w.heap.size + 1 ≠ _; omega)).trans e8, (key ⟨w.heap.size + 1, 5, none⟩ (by show w.heap.size + 1 ≠ _; omega)).trans e9, (key ⟨w.heap.size + 1, 6, none⟩ (by show w.heap.size + 1 ≠ _; omega)).trans e10, (key ⟨w.heap.size + 1, 7, none⟩ (by show w.heap.size + 1 ≠ _; omega)).trans e11, (key ⟨w.heap.size + 1, 8, none⟩ (by show w.heap.size + 1 ≠ _; omega)).trans e12⟩)
  have HCH := Lib.hid (fun L W (h : RwK P (b7 + 1) L W) (B1 : Option Addr) (d1 : Nat) (B2 : Option Addr) (d2 : Nat) (m1 : (B1, intIt k) ∈ L) (m2 : (B2, heldL x) ∈ L) => wal_changed_bad sec A1 A2 A3 n1 c1 n2 c2 n3 c3 ⟨#[114, 101, 110, 101, 119, 101, 100]⟩ (renewI k x) (some ⟨W.heap.size, 0, none⟩) 2 _ (W.alloc (.cells #[.int .i64 2, .string ⟨#[]⟩, .string ⟨#[]⟩, .slice B1 2 d1, .int .i64 2, .string ⟨#[]⟩, .string ⟨#[]⟩, .slice B2 9 d2] 63)) HSZ.out (pair_row (h.mem _ m1) (h.mem _ m2) (fun g hg => hg.2) rfl rfl) (fun g hg => by { rcases hg with hg | hg; { have := hg.2; simp; omega }; { rw [hg]; simp } }) HLE.out z HOK.out hz)
  unfold ZeroErr at HCH
  have hl2 : (renewI k x).len = 2 := rfl
  rw [hl2] at HCH
  obtain ⟨k0, k1, k2, k3, k4, k5, k6, k7, k8, k9, k10, k11, k12⟩ := HCC.out _ _ H0.out
  go_region_held3 (fun w' => w'.cell? ⟨b7, 0, none⟩ = some (.string sec) ∧ w'.cell? ⟨b7, 1, none⟩ = some (.slice A1 n1 c1) ∧ w'.cell? ⟨b7, 2, none⟩ = some (.slice A2 n2 c2) ∧ w'.cell? ⟨b7, 3, none⟩ = some (.slice A3 n3 c3) ∧ w'.cell? ⟨w.heap.size + 1, 0, none⟩ = some (.string x.iss) ∧ w'.cell? ⟨w.heap.size + 1, 1, none⟩ = some (.string x.sch) ∧ w'.cell? ⟨w.heap.size + 1, 2, none⟩ = some (.int .i64 x.ver) ∧ w'.cell? ⟨w.heap.size + 1, 3, none⟩ = some (.slice A n c) ∧ w'.cell? ⟨w.heap.size + 1, 4, none⟩ = some (.string x.a) ∧ w'.cell? ⟨w.heap.size + 1, 5, none⟩ = some (.string x.e) ∧ w'.cell? ⟨w.heap.size + 1, 6, none⟩ = some (.string x.v) ∧ w'.cell? ⟨w.heap.size + 1, 7, none⟩ = some (.int .i64 x.ep) ∧ w'.cell? ⟨w.heap.size + 1, 8, none⟩ = some (.string x.wit)) (first | exact HCC.out _ _ H9.out | exact HCS.out _ _ H9.out _ _ _ _ | exact HCC.out _ _ H0.out | exact HCC.out _ _ (H0.out.next HPN.out (Below.refl _ _).drew) | exact HCC.out _ _ (H0.out.next HPN.out ((Below.refl _ _).alloc (Nat.le_refl _) _)) | exact HCC.out _ _ ((H0.out.next HPN.out (Below.refl _ _).drew).next HPN.out ((Below.refl _ _).alloc (Nat.le_refl _) _)) | go_keep) (first
    | (go_at_call 80; (with_reducible refine (HWH.out _).mono ?_); rintro e w1 ⟨A5, c5, rfl, hsl1, hb1⟩; have n1' := (by first | exact H0.out.add HPN.out hsl1 hb1 | exact (H0.out.next HPN.out (Below.refl _ _).drew).add HPN.out hsl1 hb1 : RwK P (b7 + 1) _ w1); replace H0 := Lib.hid n1'; clear n1')
    | (go_at_call 79; (first | (with_reducible refine (HHI.out _ (HPA.out _ H0.out.p).bx.bel).mono ?_) | (with_reducible refine (HHI.out _ (HPA.out _ (H0.out.next HPN.out (Below.refl _ _).drew).p).bx.bel).mono ?_)); rintro e w1 ⟨A6, c6, rfl, hsl1, hb1⟩; have n1' := (by first | exact H0.out.add HPN.out hsl1 hb1 | exact (H0.out.next HPN.out (Below.refl _ _).drew).add HPN.out hsl1 hb1 : RwK P (b7 + 1) _ w1); replace H0 := Lib.hid n1'; clear n1')
    | (go_at_call 53; (first | (with_reducible refine (HCH.out _ _ H0.out A5 c5 A6 c6 (by simp) (by simp)).mono ?_) | (with_reducible refine (HCH.out _ _ (H0.out.next HPN.out (Below.refl _ _).drew) A5 c5 A6 c6 (by simp) (by simp)).mono ?_)); rintro e w9 ⟨rfl, hb9⟩; have n9 := (by first | exact (H0.out.next HPN.out ((Below.refl _ _).alloc (Nat.le_refl _) _)).next HPN.out hb9 | exact ((H0.out.next HPN.out (Below.refl _ _).drew).next HPN.out ((Below.refl _ _).alloc (Nat.le_refl _) _)).next HPN.out hb9 : RwK P (b7 + 1) _ w9); obtain ⟨⟨r0, r1, r2, r3⟩, g0, g1, g2, g3⟩ := (HPA.out _ n9.p).bx.rc; have H9 := Lib.hid n9; clear n9 hb9))
  all_goals
    go_wp2_with fail
    refine bodyPost_ret (v := .tuple #[.agg #[.string ⟨#[]⟩, .slice none 0 0, .slice none 0 0, .slice none 0 0], .string ⟨#[]⟩, .int .i64 z]) (by simp [results, Tryz.results45, go_sem, r0, r1, r2, r3]) rfl ?_
    exact ⟨rfl, (HPA.out _ H9.out.p).bx.zero _ _ _ _⟩
/-- The error of Renew. -/
noncomputable def renewZ (sec : ByteArray) (qs : List Az) (hs : List Hz) (us : List Uz) (k : Int) (x : Hz) : Int := if validW sec qs hs us = true then (if (numsH x).all valid = true then (if k < 0 ∨ (hs.length : Int) ≤ k then 2 else match hs[k.toNat]? with | none => 2 | some y => if sameH y x = true then (if x.ep < y.ep then 21 else (encS (entOf ⟨#[114, 101, 110, 101, 119, 101, 100]⟩ (renewI k x))).2) else 1) else 3) else 3
/-- What Renew hands back. -/
def RenewGot (w : World) (sec : ByteArray) (qs : List Az) (hs : List Hz) (us : List Uz) (k : Int) (x : Hz) (o : Ending) (w' : World) : Prop :=
  (∃ z, z ≠ 0 ∧ renewZ sec qs hs us k x = z ∧ ZeroErr w z o w') ∨ ∃ (j : Nat) (y : Hz), k = (j : Int) ∧ hs[j]? = some y ∧ sameH y x = true ∧ y.ep ≤ x.ep ∧ validW sec qs hs us = true ∧ (numsH x).all valid = true ∧ (encS (entOf ⟨#[114, 101, 110, 101, 119, 101, 100]⟩ (renewI k x))).2 = 0 ∧ ChgGot w sec qs (hs.set j x) us (encS (entOf ⟨#[114, 101, 110, 101, 119, 101, 100]⟩ (renewI k x))).1 o w'
theorem wal_Renew (sec : ByteArray) (qs : List Az) (hs : List Hz) (us : List Uz) (Aa Ah Au : Option Addr) (na ca nh ch nu cu : Nat) (k : Int) (x : Hz) (A : Option Addr) (n c : Nat) (S : Nat → Prop) (w : World) (hq : qs.length = na) (hn : hs.length = nh) (hu : us.length = nu) (ho : WalOk qs hs us) (hnx : x.att.length = n) (hmn : n ≤ 1000) (hnl : (numsH x).length ≤ 100000) (hkb : -9223372036854775808 ≤ k ∧ k ≤ 9223372036854775807) (hxv : -9223372036854775808 ≤ x.ver ∧ x.ver ≤ 9223372036854775807) (hxe : -9223372036854775808 ≤ x.ep ∧ x.ep ≤ 9223372036854775807) (hle : (encOne (entOf ⟨#[114, 101, 110, 101, 119, 101, 100]⟩ (renewI k x))).length ≤ 200000000) (hrow : RowC w S A n (cellsN x.att)) (h : WalM w S qs hs us Aa Ah Au) (hS : ∀ g, S g → g < w.heap.size) :
    Calls Tryz.prog 45 #[.agg #[.string sec, .slice Aa na ca, .slice Ah nh ch, .slice Au nu cu], .int .i64 k, valH x A n c] w (RenewGot w sec qs hs us k x) := by
  have hna : na ≤ 100000 := by have := ho.na; omega
  have hnh : nh ≤ 100000 := by have := ho.nh; omega
  have hnu : nu ≤ 100000 := by have := ho.nu; omega
  have hat : ∀ x ∈ hs, x.att.length ≤ 100000 := fun x hx => by have := ho.att x hx; omega
  have hk : ∀ W, Below w.heap.size w W → WalM W S qs hs us Aa Ah Au := fun W hb => h.keep (fun q hq => hb.cell (hS _ hq))
  have hr : ∀ W, Below w.heap.size w W → RowC W S A n (cellsN x.att) := fun W hb => hrow.keep (fun q hq => hb.cell (hS _ hq))
  have hs' : ∀ W, Below w.heap.size w W → ∀ g, S g → g < W.heap.size := fun W hb g hg => Nat.lt_of_lt_of_le (hS g hg) hb.size
  cases hv : validW sec qs hs us with
  | false => exact (wal_Renew_inv sec qs hs us Aa Ah Au na ca nh ch nu cu k x A n c S w hq hn hu ho hv h hS).mono fun o w' h => .inl ⟨3, by decide, by unfold renewZ; rw [hv]; rfl, h⟩
  | true =>
    cases hc : (numsH x).all valid with
    | false => exact (wal_Renew_can sec qs hs us Aa Ah Au na ca nh ch nu cu k x A n c S w hq hn hu ho hv hc hnx hmn hnl hrow h hS).mono fun o w' h => .inl ⟨3, by decide, by unfold renewZ; rw [hv, hc]; rfl, h⟩
    | true =>
      by_cases hrg : k < 0 ∨ (nh : Int) ≤ k
      · exact (wal_Renew_err sec qs hs us Aa Ah Au na ca nh ch nu cu k x A n c S w hq hn hu ho hv hc hnx hmn hnl hkb hxv hxe hrow h hS 2 (by decide) (fun W hb => wal_renew_range sec Aa Ah Au na ca nh ch nu cu k x A n c W hrg)).mono fun o w' h => .inl ⟨2, by decide, by unfold renewZ; rw [hv, hc, hn, if_pos hrg]; rfl, h⟩
      · obtain ⟨j, rfl⟩ : ∃ j : Nat, k = (j : Int) := ⟨k.toNat, by omega⟩
        have hj : j < hs.length := by omega
        obtain ⟨y, hy⟩ : ∃ y, hs[j]? = some y := ⟨hs[j], List.getElem?_eq_getElem hj⟩
        have hZ : ∀ c : Int, (if sameH y x = true then (if x.ep < y.ep then 21 else (encS (entOf ⟨#[114, 101, 110, 101, 119, 101, 100]⟩ (renewI j x))).2) else 1) = c → renewZ sec qs hs us j x = c := fun c hc' => by
          unfold renewZ
          rw [hv, hc, hn, if_pos rfl, if_pos rfl, if_neg hrg, Int.toNat_natCast, hy]
          exact hc'
        cases hsame : sameH y x with
        | false => exact (wal_Renew_err sec qs hs us Aa Ah Au na ca nh ch nu cu j x A n c S w hq hn hu ho hv hc hnx hmn hnl hkb hxv hxe hrow h hS 1 (by decide) (fun W hb => wal_renew_other sec qs hs us Aa Ah Au na ca nh ch nu cu j y x A n c S W hq hn hu hna hnh hnu hat hnx (by omega) hy hsame (hr W hb) (hk W hb) (hs' W hb))).mono fun o w' h => .inl ⟨1, by decide, hZ 1 (by rw [hsame]; rfl), h⟩
        | true =>
          by_cases hep : x.ep < y.ep
          · exact (wal_Renew_err sec qs hs us Aa Ah Au na ca nh ch nu cu j x A n c S w hq hn hu ho hv hc hnx hmn hnl hkb hxv hxe hrow h hS 21 (by decide) (fun W hb => wal_renew_epoch sec qs hs us Aa Ah Au na ca nh ch nu cu j y x A n c S W hq hn hu hna hnh hnu hat hnx (by omega) hy hsame hep (hr W hb) (hk W hb) (hs' W hb))).mono fun o w' h => .inl ⟨21, by decide, hZ 21 (by rw [hsame, if_pos rfl, if_pos hep]), h⟩
          · have hok := fun W hb => wal_renew_ok sec qs hs us Aa Ah Au na ca nh ch nu cu j y x A n c S W hq hn hu hna hnh hnu hat hnx (by omega) hy hsame (by omega) (hr W hb) (hk W hb) (hs' W hb)
            by_cases hz : (encS (entOf ⟨#[114, 101, 110, 101, 119, 101, 100]⟩ (renewI j x))).2 = 0
            · exact (wal_Renew_good sec qs hs us Aa Ah Au na ca nh ch nu cu j x A n c S w hq hn hu ho hv hc hnx hmn hnl hkb hxv hxe hrow h hS (hs.set j x) hle hz hok).mono fun o w' h => .inr ⟨j, y, rfl, hy, hsame, by omega, hv, hc, hz, h⟩
            · exact (wal_Renew_bad sec qs hs us Aa Ah Au na ca nh ch nu cu j x A n c S w hq hn hu ho hv hc hnx hmn hnl hkb hxv hxe hrow h hS (hs.set j x) _ hz hle rfl hok).mono fun o w' h => .inl ⟨_, hz, hZ _ (by rw [hsame, if_pos rfl, if_neg hep]), h⟩
/-- The boxes of store: the wallet, the nonce, the credential, the result. -/
structure BxS (w : World) (bc : Array Value) (nc : ByteArray) (cs : Array Value) (W : World) : Prop where
  box : W.heap[w.heap.size]? = some (.cells bc 27 (0, 0))
  non : W.heap[w.heap.size + 1]? = some (.cells #[.string nc] 9 (0, 0))
  arg : W.heap[w.heap.size + 2]? = some (.cells cs 47 (0, 0))
  res : W.heap[w.heap.size + 3]? = some (.cells #[.string ⟨#[]⟩, .slice none 0 0, .slice none 0 0, .slice none 0 0] 27 (0, 0))
  bel : Below w.heap.size w W
  size : w.heap.size + 4 ≤ W.heap.size
section
variable {w W w' : World} {bc cs : Array Value} {nc : ByteArray}
theorem BxS.far (h : BxS w bc nc cs W) (hb : Below (w.heap.size + 4) W w') : BxS w bc nc cs w' :=
  ⟨(hb.block _ (by omega)).trans h.box, (hb.block _ (by omega)).trans h.non, (hb.block _ (by omega)).trans h.arg, (hb.block _ (by omega)).trans h.res, h.bel.trans (hb.mono (by omega)), Nat.le_trans h.size hb.size⟩
theorem BxS.next (h : BxS w bc nc cs W) (hb : Below W.heap.size W w') : BxS w bc nc cs w' := h.far (hb.mono h.size)
theorem BxS.drew (h : BxS w bc nc cs W) : BxS w bc nc cs W.drew := h.next (Below.refl _ _).drew
theorem BxS.start : BxS w bc nc cs ((((w.alloc (.cells bc 27)).alloc (.cells #[.string nc] 9)).alloc (.cells cs 47)).alloc (.cells #[.string ⟨#[]⟩, .slice none 0 0, .slice none 0 0, .slice none 0 0] 27)) := by
  have e2 := heap_alloc_new ((w.alloc (.cells bc 27)).alloc (.cells #[.string nc] 9)) (.cells cs 47)
  have e3 := heap_alloc_new (((w.alloc (.cells bc 27)).alloc (.cells #[.string nc] 9)).alloc (.cells cs 47)) (.cells #[.string ⟨#[]⟩, .slice none 0 0, .slice none 0 0, .slice none 0 0] 27)
  simp only [World.size_alloc] at e2 e3
  exact ⟨(Below.heap_alloc _ _ _ (by simp only [World.size_alloc]; omega)).trans ((Below.heap_alloc _ _ _ (by simp only [World.size_alloc]; omega)).trans (two_boxes w _ _).1), (Below.heap_alloc _ _ _ (by simp only [World.size_alloc]; omega)).trans ((Below.heap_alloc _ _ _ (by simp only [World.size_alloc]; omega)).trans (two_boxes w _ _).2), (Below.heap_alloc _ _ _ (by simp only [World.size_alloc]; omega)).trans e2, e3, ((((Below.refl _ _).alloc (Nat.le_refl _) _).alloc (by simp) _).alloc (by simp only [World.size_alloc]; omega) _).alloc (by simp only [World.size_alloc]; omega) _, by simp only [World.size_alloc]; omega⟩
end
theorem wal_store_none (sec : ByteArray) (qs : List Az) (Aa Ah Au : Option Addr) (na ca nh ch nu cu : Nat) (nc : ByteArray) (x : Hz) (A : Option Addr) (n c : Nat) (S : Nat → Prop) (w : World) (hq : qs.length = na) (hma : na ≤ 100000) (hno : idxA (isA nc) qs 0 < 0) (h : SlA w S Aa qs) (hS : ∀ g, S g → g < w.heap.size) :
    Calls Tryz.prog 63 #[.agg #[.string sec, .slice Aa na ca, .slice Ah nh ch, .slice Au nu cu], .string nc, valH x A n c] w (ChErr w 9) := by
  unfold valH
  have HB0 := Lib.hid (BxS.start (w := w) (bc := #[.string sec, .slice Aa na ca, .slice Ah nh ch, .slice Au nu cu]) (nc := nc) (cs := #[.string x.iss, .string x.sch, .int .i64 x.ver, .slice A n c, .string x.a, .string x.e, .string x.v, .int .i64 x.ep, .string x.wit]))
  have HF := Lib.hid (fun W (hb : BxS w #[.string sec, .slice Aa na ca, .slice Ah nh ch, .slice Au nu cu] nc #[.string x.iss, .string x.sch, .int .i64 x.ver, .slice A n c, .string x.a, .string x.e, .string x.v, .int .i64 x.ep, .string x.wit] W) => index_store qs Aa na ca S nc (w.heap.size + 1) W hq hma (RowC.keep h (fun p hp => hb.bel.cell (hS _ hp))) (fun g hg => Nat.lt_of_lt_of_le (hS g hg) hb.bel.size) (cell_of_row W _ 0 _ _ _ hb.non) (by have := hb.size; omega))
  have hmf : ∀ (fn : Fn) (first cap : Array Value) (w : World), (Instr.makeFunc fn first cap).run Tryz.prog w = .ok (.func fn first cap) w := fun _ _ _ _ => rfl
  obtain ⟨z, hz⟩ : ∃ z, idxA (isA nc) qs 0 = z := ⟨_, rfl⟩
  rw [hz] at HF hno
  have d1 : decide (z < 0) = true := decide_eq_true hno
  clear h hS hq hma hz
  go_enter Tryz.func63, Tryz.ntmps63
  go_upto_region 1 with fail
  obtain ⟨w0, hw0⟩ : ∃ w0, ((((w.alloc (.cells #[.string sec, .slice Aa na ca, .slice Ah nh ch, .slice Au nu cu] 27)).alloc (.cells #[.string nc] 9)).alloc (.cells #[.string x.iss, .string x.sch, .int .i64 x.ver, .slice A n c, .string x.a, .string x.e, .string x.v, .int .i64 x.ep, .string x.wit] 47)).alloc (.cells #[.string ⟨#[]⟩, .slice none 0 0, .slice none 0 0, .slice none 0 0] 27)) = w0 := ⟨_, rfl⟩
  rw [hw0] at HB0 ⊢
  clear hw0
  have x1 := cell_of_row _ _ 1 _ _ _ HB0.out.box
  go_wp2_with (go_at_call 95; (with_reducible refine (HF.out _ HB0.out).mono ?_); rintro e w1 ⟨rfl, hb1⟩; have HB1 := Lib.hid (HB0.out.next hb1); have r0 := cell_of_row _ _ 0 _ _ _ HB1.out.res; have r1 := cell_of_row _ _ 1 _ _ _ HB1.out.res; have r2 := cell_of_row _ _ 2 _ _ _ HB1.out.res; have r3 := cell_of_row _ _ 3 _ _ _ HB1.out.res; have g0 := frozen_of_row _ _ 0 _ _ HB1.out.res; have g1 := frozen_of_row _ _ 1 _ _ HB1.out.res; have g2 := frozen_of_row _ _ 2 _ _ HB1.out.res; have g3 := frozen_of_row _ _ 3 _ _ HB1.out.res; clear hb1)
  refine bodyPost_ret (v := .tuple #[.agg #[.string ⟨#[]⟩, .slice none 0 0, .slice none 0 0, .slice none 0 0], .int .i64 9]) (by simp [results, Tryz.results63, go_sem, r0, r1, r2, r3]) rfl ?_
  have hl : w.heap.size ≤ w.heap.size + 3 := by omega
  exact ⟨rfl, (((HB1.out.bel.setCell (p := ⟨w.heap.size + 3, 0, none⟩) hl _).setCell (p := ⟨w.heap.size + 3, 1, none⟩) hl _).setCell (p := ⟨w.heap.size + 3, 2, none⟩) hl _).setCell (p := ⟨w.heap.size + 3, 3, none⟩) hl _⟩
theorem owns_cells {base : Nat} {e : TypeId} {size g n cap : Nat} : ∀ (vs : List Value) (o : Nat) (w : World) (xs : List Value), w.ownsRow base e size (.slice (some ⟨g, 0, none⟩) n cap) n xs → o + vs.length ≤ xs.length →
    (w.setCells g o vs).ownsRow base e size (.slice (some ⟨g, 0, none⟩) n cap) n (xs.take o ++ (vs ++ xs.drop (o + vs.length))) ∧ w.grownBy (w.setCells g o vs) (some g)
  | [], o, w, xs, h, _ => by
    refine ⟨?_, World.grownBy.refl _ _⟩
    simp only [List.nil_append, List.length_nil, Nat.add_zero, List.take_append_drop]
    exact h
  | v :: r, o, w, xs, h, hl => by
    simp only [List.length_cons] at hl
    have s := h.stored o v
    obtain ⟨h1, h2⟩ := owns_cells r (o + 1) _ _ s.1 (by rw [List.length_set]; omega)
    refine ⟨?_, s.2.trans h2⟩
    have e1 : (xs.set o v).take (o + 1) ++ (r ++ (xs.set o v).drop (o + 1 + r.length)) = xs.take o ++ (v :: r ++ xs.drop (o + (v :: r).length)) := by
      have hx : o < xs.length := by omega
      rw [List.take_succ_eq_append_getElem (by rw [List.length_set]; exact hx), List.getElem_set_self, List.take_set_of_le (Nat.le_refl o), List.drop_set_of_lt (by omega)]
      simp [Nat.add_assoc, Nat.add_comm 1]
    rw [e1] at h1
    exact h1
theorem owns_front {w : World} {base : Nat} {e : TypeId} {size g n m cap : Nat} {xs : List Value} (h : w.ownsRow base e size (.slice (some ⟨g, 0, none⟩) n cap) n xs) (hm : m ≤ n) : w.ownsRow base e size (.slice (some ⟨g, 0, none⟩) m cap) m (xs.take (m * size)) := by
  have hmn : m * size ≤ n * size := Nat.mul_le_mul_right _ hm
  refine ⟨by rw [List.length_take, h.1]; omega, ?_⟩
  rcases h.2 with ⟨hv, _⟩ | ⟨g', cap', cur, hv, h3, hg, h4, h5, h6, h7⟩
  · cases hv
  · injection hv with e1 e2 e3
    injection e1 with e1
    injection e1 with e1
    subst e1 e3
    refine .inr ⟨g, cap, cur, rfl, h3, hg, by omega, h5, h6, ?_⟩
    rw [← h7, List.take_take, Nat.min_eq_left hmn]
theorem cellsA_erase {qs : List Az} {i : Nat} (hi : i < qs.length) : cellsA (qs.eraseIdx i) = (cellsA qs).take (i * 5) ++ (cellsA qs).drop ((i + 1) * 5) := by
  induction qs generalizing i with
  | nil => simp at hi
  | cons x r ih =>
    obtain ⟨a, s, n, x, b⟩ := x
    cases i with
    | zero => rfl
    | succ i =>
      have e1 : (i + 1) * 5 = i * 5 + 1 + 1 + 1 + 1 + 1 := by omega
      have e2 : (i + 1 + 1) * 5 = (i + 1) * 5 + 1 + 1 + 1 + 1 + 1 := by omega
      rw [e1, e2]
      simp only [List.eraseIdx_cons_succ, cellsA, List.take_succ_cons, List.drop_succ_cons, List.cons_append, List.cons.injEq, true_and]
      exact ih (by simpa using hi)
theorem run_clear_one {P : Program} (w : World) (t e ty : TypeId) (z : Value) (ht : P.underlying t = some (.slice e)) (hv : ∀ w, (zeroValue e).run P w = .ok z w) (h1 : ∀ u ∈ z.cells.toList, u.oneCell' = true) (b o c : Nat)
    (hc : ∀ j, j < z.cells.toList.length → (w.cell? ⟨b, o + j, none⟩).isSome = true) (hf : ∀ j, j < z.cells.toList.length → w.frozen? ⟨b, o + j, none⟩ = false) :
    (Builtin.clear_ #[t] ty #[.slice (some ⟨b, o, none⟩) 1 c]).run P w = .ok (.tuple #[]) (w.setCells b o z.cells.toList) := by
  have hzc : (Builtin.zeroCells z.cells 1).toList = z.cells.toList := by
    simp only [Builtin.zeroCells, Nat.one_mul]
    apply List.ext_getElem
    · simp
    · intro i h1 h2
      simp at h1 h2
      simp [Nat.mod_eq_of_lt h1, h1]
  have hst := run_storeCells_cells (P := P) b o z.cells.toList 0 w (by simpa using hc) (by simpa using hf) h1
  simp only [Nat.add_zero] at hst
  simp [Builtin.clear_, run_underlying ht, hv, hzc, hst]
/-- What Delete leaves. -/
theorem delete_rows {qs : List Az} {w : World} {base g n cap i d : Nat} (hq : qs.length = n) (hi : i < n) (hd : n - (i + 1) = d) (h : w.ownsRow base 40 5 (.slice (some ⟨g, 0, none⟩) n cap) n (cellsA qs)) (zs : List Value) (hz : zs.length = 5) :
    ((w.setCells g (i * 5) ((cellsA qs).drop ((i + 1) * 5))).setCells g ((n - 1) * 5) zs).ownsRow base 40 5 (.slice (some ⟨g, 0, none⟩) (n - 1) cap) (n - 1) (cellsA (qs.eraseIdx i)) ∧ w.grownBy ((w.setCells g (i * 5) ((cellsA qs).drop ((i + 1) * 5))).setCells g ((n - 1) * 5) zs) (some g) := by
  have hl := cellsA_len qs
  rw [hq] at hl
  have hdl : ((cellsA qs).drop ((i + 1) * 5)).length = d * 5 := by rw [List.length_drop, hl]; omega
  obtain ⟨a1, a2⟩ := owns_cells ((cellsA qs).drop ((i + 1) * 5)) (i * 5) w _ h (by rw [hdl, hl]; omega)
  obtain ⟨b1, b2⟩ := owns_cells zs ((n - 1) * 5) _ _ a1 (by rw [a1.1, hz]; omega)
  refine ⟨?_, a2.trans b2⟩
  have c1 := owns_front b1 (Nat.sub_le n 1)
  rw [cellsA_erase (by rw [hq]; exact hi)]
  rw [show List.take ((n - 1) * 5) _ = (cellsA qs).take (i * 5) ++ (cellsA qs).drop ((i + 1) * 5) from ?_] at c1
  · exact c1
  · have l1 : ((cellsA qs).take (i * 5) ++ (cellsA qs).drop ((i + 1) * 5)).length = (n - 1) * 5 := by rw [List.length_append, hdl, List.length_take, hl]; omega
    rw [← List.append_assoc ((cellsA qs).take (i * 5)), List.take_append_of_le_length (by rw [List.length_take, List.length_append, l1]; omega), List.take_take, Nat.min_self, List.take_append_of_le_length (by rw [l1]; exact Nat.le_refl _), List.take_of_length_le (by rw [l1]; exact Nat.le_refl _)]
theorem grownBy_drew {w w' : World} {r : Option Nat} (h : w.drew.grownBy w' r) : w.grownBy w' r := ⟨h.os, h.tape, h.output, h.size, h.block⟩
theorem delete_A (qs : List Az) (g n cap i j base : Nat) (w : World) (hq : qs.length = n) (hi : i < n) (hm : n ≤ 100000) (hj : i + 1 = j) (h : w.ownsRow base 40 5 (.slice (some ⟨g, 0, none⟩) n cap) n (cellsA qs)) :
    Calls Tryz.prog 98 #[.slice (some ⟨g, 0, none⟩) n cap, .int .i64 i, .int .i64 j] w fun e w' => e = .returned (.slice (some ⟨g, 0, none⟩) (n - 1) cap) ∧ w'.ownsRow base 40 5 (.slice (some ⟨g, 0, none⟩) (n - 1) cap) (n - 1) (cellsA (qs.eraseIdx i)) ∧ w.grownBy w' (some g) := by
  obtain ⟨d, hd⟩ : ∃ d, n - j = d := ⟨_, rfl⟩
  obtain ⟨m, hm1⟩ : ∃ m, n - 1 = m := ⟨_, rfl⟩
  have hl := cellsA_len qs
  rw [hq] at hl
  have hcap : n ≤ cap := by
    rcases h.2 with ⟨hv, _⟩ | ⟨g', cap', cur, hv, h3, hg, h4, _⟩
    · cases hv
    · injection hv with _ _ e3; subst e3; exact h4
  have HD := Lib.hid (delete_rows (d := d) hq hi (by rw [hj]; exact hd) h.drew [.string ByteArray.empty, .string ByteArray.empty, .string ByteArray.empty, .string ByteArray.empty, .string ByteArray.empty] rfl)
  rw [hj, hm1] at HD
  obtain ⟨news, hnews⟩ : ∃ news, (cellsA qs).drop (j * 5) = news := ⟨_, rfl⟩
  rw [hnews] at HD
  have HNL : Hid (news.length = d * 5) := Lib.hid (by rw [← hnews, List.length_drop, hl]; omega)
  have HN : Hid (∀ p u, news[p]? = some u → w.cell? ⟨g, j * 5 + p, none⟩ = some u) := Lib.hid (fun p u hp => by
    have hlt : p < news.length := (List.getElem?_eq_some_iff.1 hp).1
    rw [h.cellAt (j * 5 + p) (by have := HNL.out; omega), ← hp, ← hnews, List.getElem?_drop])
  have HN1 : Hid (∀ u ∈ news, u.oneCell' = true) := Lib.hid (fun u hu => cellsA_one qs u (List.mem_of_mem_drop (hnews ▸ hu)))
  have HS : Hid (∀ p, p < news.length → (w.cell? ⟨g, 0 + i * 5 + p, none⟩).isSome = true ∧ w.frozen? ⟨g, 0 + i * 5 + p, none⟩ = false) := Lib.hid (fun p hp => by
    have := HNL.out
    refine ⟨?_, h.frozenAt _⟩
    rw [h.cellAt _ (by omega), List.getElem?_eq_getElem (by rw [hl]; omega)]
    rfl)
  have ho1 := (owns_cells news (i * 5) w.drew _ h.drew (by have := HNL.out; omega)).1
  obtain ⟨ti, hti, hz, hs1, hb1⟩ := infoE_A
  have hcl : ∀ ty, (Builtin.clear_ #[23] ty #[.slice (some ⟨g, m * 5, none⟩) 1 (cap - m)]).run Tryz.prog (w.drew.setCells g (i * 5) news) = .ok (.tuple #[]) ((w.drew.setCells g (i * 5) news).setCells g (m * 5) [.string ByteArray.empty, .string ByteArray.empty, .string ByteArray.empty, .string ByteArray.empty, .string ByteArray.empty]) := fun ty => by
    refine run_clear_one _ 23 40 ty (.agg #[.string ByteArray.empty, .string ByteArray.empty, .string ByteArray.empty, .string ByteArray.empty, .string ByteArray.empty]) Tryz.underlying23 (fun w => by simp [zeroValue, typeInfo, hti, hz]) (cellsA_one [(ByteArray.empty, ByteArray.empty, ByteArray.empty, ByteArray.empty, ByteArray.empty)]) g (m * 5) (cap - m) (fun p hp => ?_) (fun p hp => ?_)
    · have hp5 : p < 5 := hp
      rw [ho1.cellAt (m * 5 + p) (by omega), List.getElem?_eq_getElem (by rw [ho1.1]; omega)]
      rfl
    · exact ho1.frozenAt (m * 5 + p)
  have hsz : ∀ w, (sizeOf 40).run Tryz.prog w = .ok 5 w := fun w => by
    simp [sizeOf, typeInfo, hti, hs1]
  have hun := Tryz.underlying23
  have hic : i ≤ cap := by omega
  have hjn : j ≤ n := by omega
  have him : i + d = m := by omega
  have hmn : m ≤ n := by omega
  have hmc : m ≤ cap := by omega
  have hnm1 : n - m = 1 := by omega
  have hcm : ¬ cap = m := by omega
  clear h ho1 hnews hl hq
  by_cases hcj : cap = j
  · have e1 : j = n := by omega
    have e2 : cap = n := by omega
    have e3 : d = 0 := by omega
    have e4 : i = m := by omega
    subst e1 e2 e3 e4
    have e5 : news = [] := List.eq_nil_of_length_eq_zero (by have := HNL.out; simpa using this)
    subst e5
    rw [hnm1] at hcl
    clear him hcj
    go_enter Tryz.func98, Tryz.ntmps98
    go_upto_region 5 with fail
    go_region_law (refine step_append_room rfl (.tmp 22) (.tmp 25) 23 rfl 40 ti 5 hun hti hs1 g 0 i cap (by simp [Act.eval, Act.put]) ⟨g, 0, none⟩ 0 0 [] (by simp [Act.eval, Act.put]) rfl (fun p u hp => by simp at hp) (fun u hu => by simp at hu) (by omega) (fun p hp => by simp at hp) ?_)
    (try rw [Nat.zero_add])
    go_wp2_with fail
    refine bodyPost_ret (v := .slice (some ⟨g, 0, none⟩) i cap) (by simp [results, Tryz.results98, go_sem]) rfl ?_
    exact ⟨by rw [hm1], by rw [hm1]; exact HD.out.1, grownBy_drew HD.out.2⟩
  · go_enter Tryz.func98, Tryz.ntmps98
    go_upto_region 5 with fail
    go_region_law (refine step_append_room rfl (.tmp 22) (.tmp 25) 23 rfl 40 ti 5 hun hti hs1 g 0 i cap (by simp [Act.eval, Act.put]) ⟨g, j * 5, none⟩ d (cap - j) news (by simp [Act.eval, Act.put]) HNL.out (fun p u hp => by rw [World.cell?_drew, addr_add]; exact HN.out p u hp) HN1.out (by omega) HS.out ?_)
    (try rw [Nat.zero_add])
    go_wp2_with fail
    refine bodyPost_ret (v := .slice (some ⟨g, 0, none⟩) m cap) (by simp [results, Tryz.results98, go_sem]) rfl ?_
    exact ⟨by rw [hm1], by rw [hm1]; exact HD.out.1, grownBy_drew HD.out.2⟩
end Go.Proofs.YtjhlddlocpkhkaaGreat
