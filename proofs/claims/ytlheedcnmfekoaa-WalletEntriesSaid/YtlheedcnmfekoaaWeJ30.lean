/- Wallet: Store over store's contract; printed by genVst.py. Wallet: the effect of the entry "held"; its entry. Wallet: Store for all arguments. -/
import Derived.Test.YtlheedcnmfekoaaWeVam
import Derived.Test.YtlheedcnmfekoaaWeJ20
import Derived.Test.YtlheedcnmfekoaaWeVaj
namespace Go.Proofs.Ytlheedcnmfekoaa
open Go.RowKit
set_option maxRecDepth 100000
set_option linter.unusedVariables false
set_option maxHeartbeats 8000000
/-- Store where the entry is not well. -/
theorem wal_Store_bad (sec : ByteArray) (qs : List Az) (hs : List Hz) (us : List Uz) (Aa Ah Au : Option Addr) (na ca nh ch nu cu : Nat) (nc : ByteArray) (x : Hz) (A : Option Addr) (n c : Nat) (S : Nat → Prop) (w : World) (hq : qs.length = na) (hn : hs.length = nh) (hu : us.length = nu) (ho : WalOk qs hs us) (hv : validW sec qs hs us = true) (hc : (numsH x).all valid = true) (hnx : x.att.length = n) (hmn : n ≤ 1000) (hnl : (numsH x).length ≤ 100000) (hxv : -9223372036854775808 ≤ x.ver ∧ x.ver ≤ 9223372036854775807) (hxe : -9223372036854775808 ≤ x.ep ∧ x.ep ≤ 9223372036854775807) (hrow : RowC w S A n (cellsN x.att)) (h : WalM w S qs hs us Aa Ah Au) (hS : ∀ g, S g → g < w.heap.size) (qs' : List Az) (hs' : List Hz) (z : Int) (hz : z ≠ 0) (hle : (encOne (entOf ⟨#[104, 101, 108, 100]⟩ (heldI nc x))).length ≤ 200000000) (hok : (encS (entOf ⟨#[104, 101, 108, 100]⟩ (heldI nc x))).2 = z) (hren : ∀ W, Below w.heap.size w W → Calls Try.prog 45 #[.agg #[.string sec, .slice Aa na ca, .slice Ah nh ch, .slice Au nu cu], .string nc, valH x A n c] W (ChGot W sec qs' hs' us)) :
    Calls Try.prog 22 #[.agg #[.string sec, .slice Aa na ca, .slice Ah nh ch, .slice Au nu cu], .string nc, valH x A n c] w (ZeroErr w z) := by
  have HV := Lib.hid (fun W (hb : Below w.heap.size w W) => wal_valid sec qs hs us Aa Ah Au na ca nh ch nu cu S W hq hn hu (by have := ho.na; omega) (by have := ho.nh; omega) (by have := ho.nu; omega) ho.nonce ho.att ho.scope (h.keep (fun q hq => hb.cell (hS _ hq))) (fun g hg => Nat.lt_of_lt_of_le (hS g hg) hb.size))
  rw [hv] at HV
  have HNM := Lib.hid (fun W (hb : Below w.heap.size w W) => wal_numbers x A n c S W hnx (by omega) (hrow.keep (fun q hq => hb.cell (hS _ hq))) (fun g hg => Nat.lt_of_lt_of_le (hS g hg) hb.size))
  have HHI := Lib.hid (fun W (hb : Below w.heap.size w W) => wal_heldItem x A n c S W hnx hmn hxv hxe (hrow.keep (fun q hq => hb.cell (hS _ hq))) (fun g hg => Nat.lt_of_lt_of_le (hS g hg) hb.size))
  have HREN := Lib.hid hren
  unfold ItOut at HHI
  dsimp only at HHI
  have hl9 : (heldL x).len = 9 := rfl
  rw [hl9] at HHI
  unfold valH at HNM HHI HREN ⊢
  unfold ChGot at HREN
  have HWH := Lib.hid (fun W => enc_Text nc W)
  have HCAN := Lib.hid (fun A' n' c' W (hn' : n' = (numsH x).length) (hs : SLs W W.heap.size A' (numsH x)) => wal_canonical (numsH x) A' n' c' W.heap.size W hn'.symm (by omega) hs)
  rw [hc] at HCAN
  have HB0 := Lib.hid (BxB.start (w := w) (sec := sec) (Aa := Aa) (na := na) (ca := ca) (Ah := Ah) (nh := nh) (ch := ch) (Au := Au) (nu := nu) (cu := cu) (cs := #[.string x.iss, .string x.sch, .int .i64 x.ver, .slice A n c, .string x.a, .string x.e, .string x.v, .int .i64 x.ep, .string x.wit]) (T := 44))
  have HAC : Hid (∀ W, BxB w sec Aa na ca Ah nh ch Au nu cu #[.string x.iss, .string x.sch, .int .i64 x.ver, .slice A n c, .string x.a, .string x.e, .string x.v, .int .i64 x.ep, .string x.wit] 44 W → W.cell? ⟨w.heap.size + 1, 0, none⟩ = some (.string x.iss) ∧ W.cell? ⟨w.heap.size + 1, 1, none⟩ = some (.string x.sch) ∧ W.cell? ⟨w.heap.size + 1, 2, none⟩ = some (.int .i64 x.ver) ∧ W.cell? ⟨w.heap.size + 1, 3, none⟩ = some (.slice A n c) ∧ W.cell? ⟨w.heap.size + 1, 4, none⟩ = some (.string x.a) ∧ W.cell? ⟨w.heap.size + 1, 5, none⟩ = some (.string x.e) ∧ W.cell? ⟨w.heap.size + 1, 6, none⟩ = some (.string x.v) ∧ W.cell? ⟨w.heap.size + 1, 7, none⟩ = some (.int .i64 x.ep) ∧ W.cell? ⟨w.heap.size + 1, 8, none⟩ = some (.string x.wit)) := Lib.hid (fun W h => ⟨cell_of_row _ _ 0 _ _ _ h.arg, cell_of_row _ _ 1 _ _ _ h.arg, cell_of_row _ _ 2 _ _ _ h.arg, cell_of_row _ _ 3 _ _ _ h.arg, cell_of_row _ _ 4 _ _ _ h.arg, cell_of_row _ _ 5 _ _ _ h.arg, cell_of_row _ _ 6 _ _ _ h.arg, cell_of_row _ _ 7 _ _ _ h.arg, cell_of_row _ _ 8 _ _ _ h.arg⟩)
  have HLE := Lib.hid hle
  have HOK := Lib.hid hok
  have HSZ : Hid ((heldI nc x).size ≤ 10000) := Lib.hid (by unfold heldI heldL intIt; simp only [Its.size, natsI_size]; omega)
  clear h hS ho hq hn hu hv hc hrow hnl hren hle hok
  go_enter Try.func22, Try.ntmps22
  go_upto_region 3 with (first
    | (go_at_call 13; (with_reducible refine (HV.out _ HB0.out.bel).mono ?_); rintro e w1 ⟨rfl, hb1⟩; have HB1 := Lib.hid (HB0.out.next hb1); obtain ⟨q0, q1, q2, q3, q4, q5, q6, q7, q8⟩ := HAC.out _ HB1.out; clear hb1)
    | (go_at_call 36; (with_reducible refine (HNM.out _ HB1.out.bel).mono ?_); rintro e w2 ⟨A', n', c', rfl, hn', hs', hb2⟩; have HB2 := Lib.hid (HB1.out.next hb2); have HC2 := Lib.hid (HCAN.out A' n' c' w2 hn' hs'); clear hb2 hn' hs')
    | (go_at_call 35; (with_reducible refine HC2.out.mono ?_); rintro e w3 ⟨rfl, rfl⟩))
  clear q0 q1 q2 q3 q4 q5 q6 q7 q8 HC2 HB1 HB0
  obtain ⟨q0, q1, q2, q3, q4, q5, q6, q7, q8⟩ := HAC.out _ HB2.out
  obtain ⟨⟨x0, x1, x2, x3⟩, -⟩ := HB2.out.bc
  go_upto_region 4 with (go_at_call 45; (with_reducible refine (HREN.out _ HB2.out.bel).mono ?_); rintro e w3 ⟨A1, n1, c1, A2, n2, c2, A3, n3, c3, rfl, l1, l2, l3, hm3, hb3⟩; have HD := Lib.hid (AqD.start (sec' := sec) (n1 := n1) (c1 := c1) (n2 := n2) (c2 := c2) (n3 := n3) (c3 := c3) HB2.out hb3 hm3); have HL := Lib.hid (And.intro l1 (And.intro l2 l3)); clear hb3 hm3 l1 l2 l3)
  obtain ⟨w4, hw4⟩ : ∃ w4, w3.alloc (.cells #[.string sec, .slice A1 n1 c1, .slice A2 n2 c2, .slice A3 n3 c3] 28) = w4 := ⟨_, rfl⟩
  rw [hw4] at HD ⊢
  clear hw4 q0 q1 q2 q3 q4 q5 q6 q7 q8 x0 x1 x2 x3
  obtain ⟨b7, hb7⟩ : ∃ b, w3.heap.size = b := ⟨_, rfl⟩
  rw [hb7] at HD
  rw [hb7]
  clear hb7 HB2
  obtain ⟨P, hP⟩ : ∃ P : World → Prop, P = (fun W => AqD w sec Aa na ca Ah nh ch Au nu cu #[.string x.iss, .string x.sch, .int .i64 x.ver, .slice A n c, .string x.a, .string x.e, .string x.v, .int .i64 x.ep, .string x.wit] 44 sec qs' hs' us A1 n1 c1 A2 n2 c2 A3 n3 c3 b7 W) := ⟨_, rfl⟩
  have HPN : Hid (∀ W w', P W → Below W.heap.size W w' → P w') := Lib.hid (by rw [hP]; exact fun W w' h hb => h.next hb)
  have HPA : Hid (∀ W, P W → AqD w sec Aa na ca Ah nh ch Au nu cu #[.string x.iss, .string x.sch, .int .i64 x.ver, .slice A n c, .string x.a, .string x.e, .string x.v, .int .i64 x.ep, .string x.wit] 44 sec qs' hs' us A1 n1 c1 A2 n2 c2 A3 n3 c3 b7 W) := Lib.hid (by rw [hP]; exact fun W h => h)
  have H0 : Hid (RwK P (b7 + 1) [] w4) := Lib.hid ⟨by rw [hP]; exact HD.out, HD.out.hi, fun q hq => absurd hq (by simp)⟩
  clear hP
  have HCC : Hid (∀ L W, RwK P (b7 + 1) L W → W.cell? ⟨b7, 0, none⟩ = some (.string sec) ∧ W.cell? ⟨b7, 1, none⟩ = some (.slice A1 n1 c1) ∧ W.cell? ⟨b7, 2, none⟩ = some (.slice A2 n2 c2) ∧ W.cell? ⟨b7, 3, none⟩ = some (.slice A3 n3 c3) ∧ W.cell? ⟨w.heap.size + 1, 0, none⟩ = some (.string x.iss) ∧ W.cell? ⟨w.heap.size + 1, 1, none⟩ = some (.string x.sch) ∧ W.cell? ⟨w.heap.size + 1, 2, none⟩ = some (.int .i64 x.ver) ∧ W.cell? ⟨w.heap.size + 1, 3, none⟩ = some (.slice A n c) ∧ W.cell? ⟨w.heap.size + 1, 4, none⟩ = some (.string x.a) ∧ W.cell? ⟨w.heap.size + 1, 5, none⟩ = some (.string x.e) ∧ W.cell? ⟨w.heap.size + 1, 6, none⟩ = some (.string x.v) ∧ W.cell? ⟨w.heap.size + 1, 7, none⟩ = some (.int .i64 x.ep) ∧ W.cell? ⟨w.heap.size + 1, 8, none⟩ = some (.string x.wit)) := Lib.hid (fun L W h => by
    have ha := HPA.out W h.p
    obtain ⟨e0, e1, e2, e3⟩ := ha.wc
    exact ⟨e0, e1, e2, e3, HAC.out W ha.bx⟩)
  have HCS : Hid (∀ L W, RwK P (b7 + 1) L W → ∀ v0 v1 v2 v3, ((((W.setCell ⟨w.heap.size + 1 + 1, 0, none⟩ v0).setCell ⟨w.heap.size + 1 + 1, 1, none⟩ v1).setCell ⟨w.heap.size + 1 + 1, 2, none⟩ v2).setCell ⟨w.heap.size + 1 + 1, 3, none⟩ v3).cell? ⟨b7, 0, none⟩ = some (.string sec) ∧ ((((W.setCell ⟨w.heap.size + 1 + 1, 0, none⟩ v0).setCell ⟨w.heap.size + 1 + 1, 1, none⟩ v1).setCell ⟨w.heap.size + 1 + 1, 2, none⟩ v2).setCell ⟨w.heap.size + 1 + 1, 3, none⟩ v3).cell? ⟨b7, 1, none⟩ = some (.slice A1 n1 c1) ∧ ((((W.setCell ⟨w.heap.size + 1 + 1, 0, none⟩ v0).setCell ⟨w.heap.size + 1 + 1, 1, none⟩ v1).setCell ⟨w.heap.size + 1 + 1, 2, none⟩ v2).setCell ⟨w.heap.size + 1 + 1, 3, none⟩ v3).cell? ⟨b7, 2, none⟩ = some (.slice A2 n2 c2) ∧ ((((W.setCell ⟨w.heap.size + 1 + 1, 0, none⟩ v0).setCell ⟨w.heap.size + 1 + 1, 1, none⟩ v1).setCell ⟨w.heap.size + 1 + 1, 2, none⟩ v2).setCell ⟨w.heap.size + 1 + 1, 3, none⟩ v3).cell? ⟨b7, 3, none⟩ = some (.slice A3 n3 c3) ∧ ((((W.setCell ⟨w.heap.size + 1 + 1, 0, none⟩ v0).setCell ⟨w.heap.size + 1 + 1, 1, none⟩ v1).setCell ⟨w.heap.size + 1 + 1, 2, none⟩ v2).setCell ⟨w.heap.size + 1 + 1, 3, none⟩ v3).cell? ⟨w.heap.size + 1, 0, none⟩ = some (.string x.iss) ∧ ((((W.setCell ⟨w.heap.size + 1 + 1, 0, none⟩ v0).setCell ⟨w.heap.size + 1 + 1, 1, none⟩ v1).setCell ⟨w.heap.size + 1 + 1, 2, none⟩ v2).setCell ⟨w.heap.size + 1 + 1, 3, none⟩ v3).cell? ⟨w.heap.size + 1, 1, none⟩ = some (.string x.sch) ∧ ((((W.setCell ⟨w.heap.size + 1 + 1, 0, none⟩ v0).setCell ⟨w.heap.size + 1 + 1, 1, none⟩ v1).setCell ⟨w.heap.size + 1 + 1, 2, none⟩ v2).setCell ⟨w.heap.size + 1 + 1, 3, none⟩ v3).cell? ⟨w.heap.size + 1, 2, none⟩ = some (.int .i64 x.ver) ∧ ((((W.setCell ⟨w.heap.size + 1 + 1, 0, none⟩ v0).setCell ⟨w.heap.size + 1 + 1, 1, none⟩ v1).setCell ⟨w.heap.size + 1 + 1, 2, none⟩ v2).setCell ⟨w.heap.size + 1 + 1, 3, none⟩ v3).cell? ⟨w.heap.size + 1, 3, none⟩ = some (.slice A n c) ∧ ((((W.setCell ⟨w.heap.size + 1 + 1, 0, none⟩ v0).setCell ⟨w.heap.size + 1 + 1, 1, none⟩ v1).setCell ⟨w.heap.size + 1 + 1, 2, none⟩ v2).setCell ⟨w.heap.size + 1 + 1, 3, none⟩ v3).cell? ⟨w.heap.size + 1, 4, none⟩ = some (.string x.a) ∧ ((((W.setCell ⟨w.heap.size + 1 + 1, 0, none⟩ v0).setCell ⟨w.heap.size + 1 + 1, 1, none⟩ v1).setCell ⟨w.heap.size + 1 + 1, 2, none⟩ v2).setCell ⟨w.heap.size + 1 + 1, 3, none⟩ v3).cell? ⟨w.heap.size + 1, 5, none⟩ = some (.string x.e) ∧ ((((W.setCell ⟨w.heap.size + 1 + 1, 0, none⟩ v0).setCell ⟨w.heap.size + 1 + 1, 1, none⟩ v1).setCell ⟨w.heap.size + 1 + 1, 2, none⟩ v2).setCell ⟨w.heap.size + 1 + 1, 3, none⟩ v3).cell? ⟨w.heap.size + 1, 6, none⟩ = some (.string x.v) ∧ ((((W.setCell ⟨w.heap.size + 1 + 1, 0, none⟩ v0).setCell ⟨w.heap.size + 1 + 1, 1, none⟩ v1).setCell ⟨w.heap.size + 1 + 1, 2, none⟩ v2).setCell ⟨w.heap.size + 1 + 1, 3, none⟩ v3).cell? ⟨w.heap.size + 1, 7, none⟩ = some (.int .i64 x.ep) ∧ ((((W.setCell ⟨w.heap.size + 1 + 1, 0, none⟩ v0).setCell ⟨w.heap.size + 1 + 1, 1, none⟩ v1).setCell ⟨w.heap.size + 1 + 1, 2, none⟩ v2).setCell ⟨w.heap.size + 1 + 1, 3, none⟩ v3).cell? ⟨w.heap.size + 1, 8, none⟩ = some (.string x.wit)) := Lib.hid (fun L W h v0 v1 v2 v3 => by
    obtain ⟨e0, e1, e2, e3, e4, e5, e6, e7, e8, e9, e10, e11, e12⟩ := HCC.out L W h
    have hlo := (HPA.out W h.p).lo
    have hne : ∀ (V : World) (i : Nat) (u : Value) (p : Addr), p.block ≠ w.heap.size + 1 + 1 → (V.setCell ⟨w.heap.size + 1 + 1, i, none⟩ u).cell? p = V.cell? p := fun V i u p hp => World.cell?_setCell_other _ _ _ _ (fun e => by have := congrArg Addr.block e; simp at this; omega)
    have key : ∀ p : Addr, p.block ≠ w.heap.size + 1 + 1 → ((((W.setCell ⟨w.heap.size + 1 + 1, 0, none⟩ v0).setCell ⟨w.heap.size + 1 + 1, 1, none⟩ v1).setCell ⟨w.heap.size + 1 + 1, 2, none⟩ v2).setCell ⟨w.heap.size + 1 + 1, 3, none⟩ v3).cell? p = W.cell? p := fun p hp => by rw [hne _ _ _ _ hp, hne _ _ _ _ hp, hne _ _ _ _ hp, hne _ _ _ _ hp]
    exact ⟨(key ⟨b7, 0, none⟩ (by show b7 ≠ _; omega)).trans e0, (key ⟨b7, 1, none⟩ (by show b7 ≠ _; omega)).trans e1, (key ⟨b7, 2, none⟩ (by show b7 ≠ _; omega)).trans e2, (key ⟨b7, 3, none⟩ (by show b7 ≠ _; omega)).trans e3, (key ⟨w.heap.size + 1, 0, none⟩ (by show w.heap.size + 1 ≠ _; omega)).trans e4, (key ⟨w.heap.size + 1, 1, none⟩ (by show w.heap.size + 1 ≠ _; omega)).trans e5, (key ⟨w.heap.size + 1, 2, none⟩ (by show w.heap.size + 1 ≠ _; omega)).trans e6, (key ⟨w.heap.size + 1, 3, none⟩ (by show w.heap.size + 1 ≠ _; omega)).trans e7, (key ⟨w.heap.size + 1, 4, none⟩ (by show w.heap.size + 1 ≠ _; omega)).trans e8, (key ⟨w.heap.size + 1, 5, none⟩ (by show w.heap.size + 1 ≠ _; omega)).trans e9, (key ⟨w.heap.size + 1, 6, none⟩ (by show w.heap.size + 1 ≠ _; omega)).trans e10, (key ⟨w.heap.size + 1, 7, none⟩ (by show w.heap.size + 1 ≠ _; omega)).trans e11, (key ⟨w.heap.size + 1, 8, none⟩ (by show w.heap.size + 1 ≠ _; omega)).trans e12⟩)
  have HCH := Lib.hid (fun L W (h : RwK P (b7 + 1) L W) (B2 : Option Addr) (d2 : Nat) (m2 : (B2, heldL x) ∈ L) => wal_changed_bad sec A1 A2 A3 n1 c1 n2 c2 n3 c3 ⟨#[104, 101, 108, 100]⟩ (heldI nc x) (some ⟨W.heap.size, 0, none⟩) 2 _ (W.alloc (.cells #[.int .i64 1, .string ⟨#[]⟩, .string nc, .slice none 0 0, .int .i64 2, .string ⟨#[]⟩, .string ⟨#[]⟩, .slice B2 9 d2] 69)) HSZ.out (pair_row (l1 := .nil) (A1 := none) (m1 := 0) (c1 := 0) SlI.nil_ (h.mem _ m2) (fun g hg => hg.2) rfl rfl) (fun g hg => by { rcases hg with hg | hg; { have := hg.2; simp; omega }; { rw [hg]; simp } }) HLE.out z HOK.out hz)
  unfold ZeroErr at HCH
  have hl2 : (heldI nc x).len = 2 := rfl
  rw [hl2] at HCH
  obtain ⟨k0, k1, k2, k3, k4, k5, k6, k7, k8, k9, k10, k11, k12⟩ := HCC.out _ _ H0.out
  go_region_held3 (fun w' => w'.cell? ⟨b7, 0, none⟩ = some (.string sec) ∧ w'.cell? ⟨b7, 1, none⟩ = some (.slice A1 n1 c1) ∧ w'.cell? ⟨b7, 2, none⟩ = some (.slice A2 n2 c2) ∧ w'.cell? ⟨b7, 3, none⟩ = some (.slice A3 n3 c3) ∧ w'.cell? ⟨w.heap.size + 1, 0, none⟩ = some (.string x.iss) ∧ w'.cell? ⟨w.heap.size + 1, 1, none⟩ = some (.string x.sch) ∧ w'.cell? ⟨w.heap.size + 1, 2, none⟩ = some (.int .i64 x.ver) ∧ w'.cell? ⟨w.heap.size + 1, 3, none⟩ = some (.slice A n c) ∧ w'.cell? ⟨w.heap.size + 1, 4, none⟩ = some (.string x.a) ∧ w'.cell? ⟨w.heap.size + 1, 5, none⟩ = some (.string x.e) ∧ w'.cell? ⟨w.heap.size + 1, 6, none⟩ = some (.string x.v) ∧ w'.cell? ⟨w.heap.size + 1, 7, none⟩ = some (.int .i64 x.ep) ∧ w'.cell? ⟨w.heap.size + 1, 8, none⟩ = some (.string x.wit)) (first | exact HCC.out _ _ H9.out | exact HCS.out _ _ H9.out _ _ _ _ | exact HCC.out _ _ H0.out | exact HCC.out _ _ (H0.out.next HPN.out (Below.refl _ _).drew) | exact HCC.out _ _ (H0.out.next HPN.out ((Below.refl _ _).alloc (Nat.le_refl _) _)) | exact HCC.out _ _ ((H0.out.next HPN.out (Below.refl _ _).drew).next HPN.out ((Below.refl _ _).alloc (Nat.le_refl _) _)) | go_keep) (first
    | (go_at_call 40; (with_reducible refine (HWH.out _).mono ?_); rintro e w1 ⟨rfl, hb1⟩; have n1' := (by first | exact H0.out.next HPN.out hb1 | exact (H0.out.next HPN.out (Below.refl _ _).drew).next HPN.out hb1 : RwK P (b7 + 1) _ w1); replace H0 := Lib.hid n1'; clear n1')
    | (go_at_call 46; (first | (with_reducible refine (HHI.out _ (HPA.out _ H0.out.p).bx.bel).mono ?_) | (with_reducible refine (HHI.out _ (HPA.out _ (H0.out.next HPN.out (Below.refl _ _).drew).p).bx.bel).mono ?_)); rintro e w1 ⟨A6, c6, rfl, hsl1, hb1⟩; have n1' := (by first | exact H0.out.add HPN.out hsl1 hb1 | exact (H0.out.next HPN.out (Below.refl _ _).drew).add HPN.out hsl1 hb1 : RwK P (b7 + 1) _ w1); replace H0 := Lib.hid n1'; clear n1')
    | (go_at_call 16; (first | (with_reducible refine (HCH.out _ _ H0.out A6 c6 (by simp)).mono ?_) | (with_reducible refine (HCH.out _ _ (H0.out.next HPN.out (Below.refl _ _).drew) A6 c6 (by simp)).mono ?_)); rintro e w9 ⟨rfl, hb9⟩; have n9 := (by first | exact (H0.out.next HPN.out ((Below.refl _ _).alloc (Nat.le_refl _) _)).next HPN.out hb9 | exact ((H0.out.next HPN.out (Below.refl _ _).drew).next HPN.out ((Below.refl _ _).alloc (Nat.le_refl _) _)).next HPN.out hb9 : RwK P (b7 + 1) _ w9); obtain ⟨⟨r0, r1, r2, r3⟩, g0, g1, g2, g3⟩ := (HPA.out _ n9.p).bx.rc; have H9 := Lib.hid n9; clear n9 hb9))
  all_goals
    go_wp2_with fail
    refine bodyPost_ret (v := .tuple #[.agg #[.string ⟨#[]⟩, .slice none 0 0, .slice none 0 0, .slice none 0 0], .string ⟨#[]⟩, .int .i64 z]) (by simp [results, Try.results22, go_sem, r0, r1, r2, r3]) rfl ?_
    exact ⟨rfl, (HPA.out _ H9.out.p).bx.zero _ _ _ _⟩
theorem wal_held_e (sec : ByteArray) (qs : List Az) (hs : List Hz) (us : List Uz) (Aa Ah Au : Option Addr) (na ca nh ch nu cu : Nat) (nc : ByteArray) (k : Nat) (yi ys yn yx yb : ByteArray) (x : Hz) (rb : Nat) (S S0 : Nat → Prop) (w : World) (hq : qs.length = na) (hn : hs.length = nh) (hu : us.length = nu) (hma : na ≤ 100000) (hmh : nh < 4096) (hmu : nu ≤ 100000) (hatt : ∀ x ∈ hs, x.att.length ≤ 100000) (hmx : x.att.length ≤ 1000) (hv : -9223372036854775808 ≤ x.ver ∧ x.ver ≤ 9223372036854775807) (he : -9223372036854775808 ≤ x.ep ∧ x.ep ≤ 9223372036854775807) (hidx : idxA (isA nc) qs 0 = (k : Int)) (hy : qs[k]? = some (yi, ys, yn, yx, yb)) (hbad : badS x (yi, ys, yn, yx, yb) = false)
    (hin : InI w rb S (heldI nc x)) (hr : rb < w.heap.size) (hS : ∀ g, S g → g < w.heap.size ∧ g ≠ rb) (hm : WalM w S0 qs hs us Aa Ah Au) (hS0 : ∀ g, S0 g → g < w.heap.size ∧ g ≠ rb) :
    Calls Try.prog 29 #[.agg #[.string sec, .slice Aa na ca, .slice Ah nh ch, .slice Au nu cu], .pointer (some ⟨rb, 0, none⟩)] w (EffGot w rb sec (qs.eraseIdx k) (hs ++ [x]) us) := by
  have H0 := Lib.hid (EfX.start (sec := sec) (na := na) (ca := ca) (nh := nh) (ch := ch) (nu := nu) (cu := cu) hin hr hS hm hS0)
  have HA := Lib.hid (fun l A c W (h : EfX w rb S S0 sec qs hs us Aa na ca Ah nh ch Au nu cu l W) (hrow : RowC W (fun g => g < W.heap.size) A x.att.length (cellsN x.att)) => (wal_store_at sec qs hs us Aa Ah Au na ca nh ch nu cu nc x A x.att.length c k yi ys yn yx yb (fun g => g < W.heap.size) W hq hn hu hma hmh hmu hatt hidx hy rfl (by omega) hrow (h.mem.mono (fun g hg => h.lt0 g hg)) (fun g hg => hg)).mono (fun o w' h' => (h'.resolve_left (fun h2 => by rw [hbad] at h2; cases h2.1)).2))
  have HN1 := Lib.hid (ex_text w rb S S0 sec qs hs us Aa Ah Au na ca nh ch nu cu _ nc _ _ _ H0.out (show 1 < 100000 by decide))
  have HH := Lib.hid (fun W h => ex_held x hv he hmx w rb S S0 sec qs hs us Aa Ah Au na ca nh ch nu cu ⟨#[]⟩ ⟨#[]⟩ .nil W h (show 0 < 100000 by decide))
  unfold EhGot valH at HH
  unfold ChGot valH at HA
  clear hq hn hu hma hmh hmu hatt hin hr hS hm hS0 hv he hidx hy hbad
  go_enter Try.func29, Try.ntmps29
  go_upto_region 2 with (first
    | (go_at_call 34; (with_reducible refine HN1.out.mono ?_); rintro o w1 ⟨rfl, h1⟩; have HH1 := Lib.hid (HH.out _ h1); clear h1 HN1)
    | (go_at_call 52; (with_reducible refine HH1.out.mono ?_); rintro o w2 ⟨A, c, rfl, hrow, h2⟩; have hal : Below w2.heap.size w2 (w2.alloc (.cells #[.string x.iss, .string x.sch, .int .i64 x.ver, .slice A x.att.length c, .string x.a, .string x.e, .string x.v, .int .i64 x.ep, .string x.wit] 44)) := (Below.refl _ _).alloc (Nat.le_refl _) _; have H2 := Lib.hid (h2.below hal); have HB2 := Lib.hid (heap_alloc_new w2 (.cells #[.string x.iss, .string x.sch, .int .i64 x.ver, .slice A x.att.length c, .string x.a, .string x.e, .string x.v, .int .i64 x.ep, .string x.wit] 44)); have HR2 := Lib.hid ((hrow.keep (fun p hp => hal.cell hp)).mono (S' := fun g => g < (w2.alloc (.cells #[.string x.iss, .string x.sch, .int .i64 x.ver, .slice A x.att.length c, .string x.a, .string x.e, .string x.v, .int .i64 x.ep, .string x.wit] 44)).heap.size) (fun g hg => Nat.lt_of_lt_of_le hg hal.size)); clear h2 hrow hal HH1))
  obtain ⟨W2, hW2⟩ : ∃ W2, w2.alloc (.cells #[.string x.iss, .string x.sch, .int .i64 x.ver, .slice A x.att.length c, .string x.a, .string x.e, .string x.v, .int .i64 x.ep, .string x.wit] 44) = W2 := ⟨_, rfl⟩
  obtain ⟨b2, hb2⟩ : ∃ b2, w2.heap.size = b2 := ⟨_, rfl⟩
  rw [hW2] at H2 HB2 HR2 ⊢
  rw [hb2] at HB2 ⊢
  clear hW2 hb2
  have HE := Lib.hid (ex_end w rb S S0 sec qs hs us Aa Ah Au na ca nh ch nu cu _ H2.out)
  go_upto_region 3 with (go_at_call 51; (with_reducible refine HE.out.mono ?_); rintro o w6 ⟨rfl, rfl⟩)
  obtain ⟨y0, y1, y2, y3⟩ := H2.out.cc
  have z0 := cell_of_row _ _ 0 _ _ _ HB2.out
  have z1 := cell_of_row _ _ 1 _ _ _ HB2.out
  have z2 := cell_of_row _ _ 2 _ _ _ HB2.out
  have z3 := cell_of_row _ _ 3 _ _ _ HB2.out
  have z4 := cell_of_row _ _ 4 _ _ _ HB2.out
  have z5 := cell_of_row _ _ 5 _ _ _ HB2.out
  have z6 := cell_of_row _ _ 6 _ _ _ HB2.out
  have z7 := cell_of_row _ _ 7 _ _ _ HB2.out
  have z8 := cell_of_row _ _ 8 _ _ _ HB2.out
  have HAW := Lib.hid (HA.out _ A c _ H2.out HR2.out)
  go_wp2_with (go_at_call 45; (with_reducible refine HAW.out.mono ?_); rintro o w7 ⟨A1, n1, c1, A2, n2, c2, A3, n3, c3, rfl, k1, k2, k3, k4, k5⟩; have H7 := Lib.hid (H2.out.below k5); obtain ⟨⟨r0, r1, r2, r3⟩, g0, g1, g2, g3⟩ := H7.out.rc; have HF := Lib.hid (H2.out.fin (sec' := sec) (c1 := c1) (c2 := c2) (c3 := c3) k1 k2 k3 k4 k5); clear k1 k2 k3 k4 k5)
  refine bodyPost_ret (v := .tuple #[.agg #[.string sec, .slice A1 n1 c1, .slice A2 n2 c2, .slice A3 n3 c3], .int .i64 0]) (by simp [results, Try.results29, go_sem, r0, r1, r2, r3]) rfl ?_
  exact HF.out _ _ _ _
/-- What Store hands back. -/
def StoreGot (w : World) (sec : ByteArray) (qs : List Az) (hs : List Hz) (us : List Uz) (nc : ByteArray) (x : Hz) (o : Ending) (w' : World) : Prop :=
  (∃ z, z ≠ 0 ∧ ZeroErr w z o w') ∨ ∃ (j : Nat) (y : Az), idxA (isA nc) qs 0 = (j : Int) ∧ qs[j]? = some y ∧ badS x y = false ∧ validW sec qs hs us = true ∧ (numsH x).all valid = true ∧ (encS (entOf ⟨#[104, 101, 108, 100]⟩ (heldI nc x))).2 = 0 ∧ ChgGot w sec (qs.eraseIdx j) (hs ++ [x]) us (encS (entOf ⟨#[104, 101, 108, 100]⟩ (heldI nc x))).1 o w'
theorem wal_Store (sec : ByteArray) (qs : List Az) (hs : List Hz) (us : List Uz) (Aa Ah Au : Option Addr) (na ca nh ch nu cu : Nat) (nc : ByteArray) (x : Hz) (A : Option Addr) (n c : Nat) (S : Nat → Prop) (w : World) (hq : qs.length = na) (hn : hs.length = nh) (hu : us.length = nu) (hnh4 : nh < 4096) (ho : WalOk qs hs us) (hnx : x.att.length = n) (hmn : n ≤ 1000) (hnl : (numsH x).length ≤ 100000) (hxv : -9223372036854775808 ≤ x.ver ∧ x.ver ≤ 9223372036854775807) (hxe : -9223372036854775808 ≤ x.ep ∧ x.ep ≤ 9223372036854775807) (hle : (encOne (entOf ⟨#[104, 101, 108, 100]⟩ (heldI nc x))).length ≤ 200000000) (hrow : RowC w S A n (cellsN x.att)) (h : WalM w S qs hs us Aa Ah Au) (hS : ∀ g, S g → g < w.heap.size) :
    Calls Try.prog 22 #[.agg #[.string sec, .slice Aa na ca, .slice Ah nh ch, .slice Au nu cu], .string nc, valH x A n c] w (StoreGot w sec qs hs us nc x) := by
  have hna : na ≤ 100000 := by have := ho.na; omega
  have hnu : nu ≤ 100000 := by have := ho.nu; omega
  have hat : ∀ x ∈ hs, x.att.length ≤ 100000 := fun x hx => by have := ho.att x hx; omega
  have hk : ∀ W, Below w.heap.size w W → WalM W S qs hs us Aa Ah Au := fun W hb => h.keep (fun q hq => hb.cell (hS _ hq))
  have hr : ∀ W, Below w.heap.size w W → RowC W S A n (cellsN x.att) := fun W hb => hrow.keep (fun q hq => hb.cell (hS _ hq))
  have hs' : ∀ W, Below w.heap.size w W → ∀ g, S g → g < W.heap.size := fun W hb g hg => Nat.lt_of_lt_of_le (hS g hg) hb.size
  cases hv : validW sec qs hs us with
  | false => exact (wal_Store_inv sec qs hs us Aa Ah Au na ca nh ch nu cu nc x A n c S w hq hn hu ho hv h hS).mono fun o w' h => .inl ⟨3, by decide, h⟩
  | true =>
    cases hc : (numsH x).all valid with
    | false => exact (wal_Store_can sec qs hs us Aa Ah Au na ca nh ch nu cu nc x A n c S w hq hn hu ho hv hc hnx hmn hnl hrow h hS).mono fun o w' h => .inl ⟨3, by decide, h⟩
    | true =>
      cases hany : qs.any (isA nc) with
      | false =>
        have hidx := idxA_none hany 0
        exact (wal_Store_err sec qs hs us Aa Ah Au na ca nh ch nu cu nc x A n c S w hq hn hu ho hv hc hnx hmn hnl hxv hxe hrow h hS 9 (by decide) (fun W hb => wal_store_none sec qs Aa Ah Au na ca nh ch nu cu nc x A n c S W hq hna (by rw [hidx]; decide) (hk W hb).a (hs' W hb))).mono fun o w' h => .inl ⟨9, by decide, h⟩
      | true =>
        obtain ⟨j, y, hidx, hy, _, _⟩ := idxA_some hany 0
        rw [Nat.zero_add] at hidx
        obtain ⟨yi, ys, yn, yx, yb⟩ := y
        have hat := fun W hb => wal_store_at sec qs hs us Aa Ah Au na ca nh ch nu cu nc x A n c j yi ys yn yx yb S W hq hn hu hna hnh4 hnu hat hidx hy hnx (by omega) (hr W hb) (hk W hb) (hs' W hb)
        cases hbad : badS x (yi, ys, yn, yx, yb) with
        | true => exact (wal_Store_err sec qs hs us Aa Ah Au na ca nh ch nu cu nc x A n c S w hq hn hu ho hv hc hnx hmn hnl hxv hxe hrow h hS 1 (by decide) (fun W hb => (hat W hb).mono fun o w' h' => (h'.resolve_right (fun h2 => by rw [hbad] at h2; cases h2.1)).2)).mono fun o w' h => .inl ⟨1, by decide, h⟩
        | false =>
          have hok := fun W hb => (hat W hb).mono (R' := ChGot W sec (qs.eraseIdx j) (hs ++ [x]) us) fun o w' h' => (h'.resolve_left (fun h2 => by rw [hbad] at h2; cases h2.1)).2
          by_cases hz : (encS (entOf ⟨#[104, 101, 108, 100]⟩ (heldI nc x))).2 = 0
          · exact (wal_Store_good sec qs hs us Aa Ah Au na ca nh ch nu cu nc x A n c S w hq hn hu ho hv hc hnx hmn hnl hxv hxe hrow h hS (qs.eraseIdx j) (hs ++ [x]) hle hz hok).mono fun o w' h => .inr ⟨j, _, hidx, hy, hbad, hv, hc, hz, h⟩
          · exact (wal_Store_bad sec qs hs us Aa Ah Au na ca nh ch nu cu nc x A n c S w hq hn hu ho hv hc hnx hmn hnl hxv hxe hrow h hS (qs.eraseIdx j) (hs ++ [x]) _ hz hle rfl hok).mono fun o w' h => .inl ⟨_, hz, h⟩
end Go.Proofs.Ytlheedcnmfekoaa
