/- Wallet: Store over store's contract; printed by genVst.py. Wallet: Store for all arguments. Wallet: Use at its limit. Wallet: Use at a wallet that is not valid. Wallet: what the comparisons mean. Wallet: what a change of a wallet hands back, as a record, for the program and the reference alike. -/
import Derived.Test.YtjhlddlocpkhkaaGreatWgJ26
import Derived.Test.YtjhlddlocpkhkaaGreatWgJ22
import Derived.Test.YtjhlddlocpkhkaaGreatWgVaj
import Derived.Test.YtjhlddlocpkhkaaGreatWgXk
namespace Go.Proofs.YtjhlddlocpkhkaaGreat
open Go.RowKit
set_option maxRecDepth 100000
set_option linter.unusedVariables false
set_option maxHeartbeats 8000000
/-- Store where the entry is not well. -/
theorem wal_Store_bad (sec : ByteArray) (qs : List Az) (hs : List Hz) (us : List Uz) (Aa Ah Au : Option Addr) (na ca nh ch nu cu : Nat) (nc : ByteArray) (x : Hz) (A : Option Addr) (n c : Nat) (S : Nat → Prop) (w : World) (hq : qs.length = na) (hn : hs.length = nh) (hu : us.length = nu) (ho : WalOk qs hs us) (hv : validW sec qs hs us = true) (hc : (numsH x).all valid = true) (hnx : x.att.length = n) (hmn : n ≤ 1000) (hnl : (numsH x).length ≤ 100000) (hxv : -9223372036854775808 ≤ x.ver ∧ x.ver ≤ 9223372036854775807) (hxe : -9223372036854775808 ≤ x.ep ∧ x.ep ≤ 9223372036854775807) (hrow : RowC w S A n (cellsN x.att)) (h : WalM w S qs hs us Aa Ah Au) (hS : ∀ g, S g → g < w.heap.size) (qs' : List Az) (hs' : List Hz) (z : Int) (hz : z ≠ 0) (hle : (encOne (entOf ⟨#[104, 101, 108, 100]⟩ (heldI nc x))).length ≤ 200000000) (hok : (encS (entOf ⟨#[104, 101, 108, 100]⟩ (heldI nc x))).2 = z) (hren : ∀ W, Below w.heap.size w W → Calls Tryz.prog 63 #[.agg #[.string sec, .slice Aa na ca, .slice Ah nh ch, .slice Au nu cu], .string nc, valH x A n c] W (ChGot W sec qs' hs' us)) :
    Calls Tryz.prog 44 #[.agg #[.string sec, .slice Aa na ca, .slice Ah nh ch, .slice Au nu cu], .string nc, valH x A n c] w (ZeroErr w z) := by
  have HV := Lib.hid (fun W (hb : Below w.heap.size w W) => wal_valid sec qs hs us Aa Ah Au na ca nh ch nu cu S W hq hn hu (by have := ho.na; omega) (by have := ho.nh; omega) (by have := ho.nu; omega) ho.nonce ho.att ho.scope (h.keep (fun q hq => hb.cell (hS _ hq))) (fun g hg => Nat.lt_of_lt_of_le (hS g hg) hb.size))
  rw [hv] at HV
  have HNM := Lib.hid (fun W (hb : Below w.heap.size w W) => wal_numbers x A n c S W hnx (by omega) (hrow.keep (fun q hq => hb.cell (hS _ hq))) (fun g hg => Nat.lt_of_lt_of_le (hS g hg) hb.size))
  have HHI := Lib.hid (fun W (hb : Below w.heap.size w W) => wal_heldItem x A n c S W hnx hmn hxv hxe (hrow.keep (fun q hq => hb.cell (hS _ hq))) (fun g hg => Nat.lt_of_lt_of_le (hS g hg) hb.size))
  have HREN := Lib.hid hren
  unfold ItOut at HHI
  dsimp only at HHI
  have hl9 : (heldL x).len = 9 := rfl
  rw [hl9] at HHI
  unfold valH at HNM HHI HREN ⊢
  unfold ChGot at HREN
  have HWH := Lib.hid (fun W => enc_Text nc W)
  have HCAN := Lib.hid (fun A' n' c' W (hn' : n' = (numsH x).length) (hs : SLs W W.heap.size A' (numsH x)) => wal_canonical (numsH x) A' n' c' W.heap.size W hn'.symm (by omega) hs)
  rw [hc] at HCAN
  have HB0 := Lib.hid (BxB.start (w := w) (sec := sec) (Aa := Aa) (na := na) (ca := ca) (Ah := Ah) (nh := nh) (ch := ch) (Au := Au) (nu := nu) (cu := cu) (cs := #[.string x.iss, .string x.sch, .int .i64 x.ver, .slice A n c, .string x.a, .string x.e, .string x.v, .int .i64 x.ep, .string x.wit]) (T := 47))
  have HAC : Hid (∀ W, BxB w sec Aa na ca Ah nh ch Au nu cu #[.string x.iss, .string x.sch, .int .i64 x.ver, .slice A n c, .string x.a, .string x.e, .string x.v, .int .i64 x.ep, .string x.wit] 47 W → W.cell? ⟨w.heap.size + 1, 0, none⟩ = some (.string x.iss) ∧ W.cell? ⟨w.heap.size + 1, 1, none⟩ = some (.string x.sch) ∧ W.cell? ⟨w.heap.size + 1, 2, none⟩ = some (.int .i64 x.ver) ∧ W.cell? ⟨w.heap.size + 1, 3, none⟩ = some (.slice A n c) ∧ W.cell? ⟨w.heap.size + 1, 4, none⟩ = some (.string x.a) ∧ W.cell? ⟨w.heap.size + 1, 5, none⟩ = some (.string x.e) ∧ W.cell? ⟨w.heap.size + 1, 6, none⟩ = some (.string x.v) ∧ W.cell? ⟨w.heap.size + 1, 7, none⟩ = some (.int .i64 x.ep) ∧ W.cell? ⟨w.heap.size + 1, 8, none⟩ = some (.string x.wit)) := Lib.hid (fun W h => ⟨cell_of_row _ _ 0 _ _ _ h.arg, cell_of_row _ _ 1 _ _ _ h.arg, cell_of_row _ _ 2 _ _ _ h.arg, cell_of_row _ _ 3 _ _ _ h.arg, cell_of_row _ _ 4 _ _ _ h.arg, cell_of_row _ _ 5 _ _ _ h.arg, cell_of_row _ _ 6 _ _ _ h.arg, cell_of_row _ _ 7 _ _ _ h.arg, cell_of_row _ _ 8 _ _ _ h.arg⟩)
  have HLE := Lib.hid hle
  have HOK := Lib.hid hok
  have HSZ : Hid ((heldI nc x).size ≤ 10000) := Lib.hid (by unfold heldI heldL intIt; simp only [Its.size, natsI_size]; omega)
  clear h hS ho hq hn hu hv hc hrow hnl hren hle hok
  go_enter Tryz.func44, Tryz.ntmps44
  go_upto_region 3 with (first
    | (go_at_call 17; (with_reducible refine (HV.out _ HB0.out.bel).mono ?_); rintro e w1 ⟨rfl, hb1⟩; have HB1 := Lib.hid (HB0.out.next hb1); obtain ⟨q0, q1, q2, q3, q4, q5, q6, q7, q8⟩ := HAC.out _ HB1.out; clear hb1)
    | (go_at_call 56; (with_reducible refine (HNM.out _ HB1.out.bel).mono ?_); rintro e w2 ⟨A', n', c', rfl, hn', hs', hb2⟩; have HB2 := Lib.hid (HB1.out.next hb2); have HC2 := Lib.hid (HCAN.out A' n' c' w2 hn' hs'); clear hb2 hn' hs')
    | (go_at_call 55; (with_reducible refine HC2.out.mono ?_); rintro e w3 ⟨rfl, rfl⟩))
  clear q0 q1 q2 q3 q4 q5 q6 q7 q8 HC2 HB1 HB0
  obtain ⟨q0, q1, q2, q3, q4, q5, q6, q7, q8⟩ := HAC.out _ HB2.out
  obtain ⟨⟨x0, x1, x2, x3⟩, -⟩ := HB2.out.bc
  go_upto_region 4 with (go_at_call 63; (with_reducible refine (HREN.out _ HB2.out.bel).mono ?_); rintro e w3 ⟨A1, n1, c1, A2, n2, c2, A3, n3, c3, rfl, l1, l2, l3, hm3, hb3⟩; have HD := Lib.hid (AqD.start (sec' := sec) (n1 := n1) (c1 := c1) (n2 := n2) (c2 := c2) (n3 := n3) (c3 := c3) HB2.out hb3 hm3); have HL := Lib.hid (And.intro l1 (And.intro l2 l3)); clear hb3 hm3 l1 l2 l3)
  obtain ⟨w4, hw4⟩ : ∃ w4, w3.alloc (.cells #[.string sec, .slice A1 n1 c1, .slice A2 n2 c2, .slice A3 n3 c3] 27) = w4 := ⟨_, rfl⟩
  rw [hw4] at HD ⊢
  clear hw4 q0 q1 q2 q3 q4 q5 q6 q7 q8 x0 x1 x2 x3
  obtain ⟨b7, hb7⟩ : ∃ b, w3.heap.size = b := ⟨_, rfl⟩
  rw [hb7] at HD
  rw [hb7]
  clear hb7 HB2
  obtain ⟨P, hP⟩ : ∃ P : World → Prop, P = (fun W => AqD w sec Aa na ca Ah nh ch Au nu cu #[.string x.iss, .string x.sch, .int .i64 x.ver, .slice A n c, .string x.a, .string x.e, .string x.v, .int .i64 x.ep, .string x.wit] 47 sec qs' hs' us A1 n1 c1 A2 n2 c2 A3 n3 c3 b7 W) := ⟨_, rfl⟩
  have HPN : Hid (∀ W w', P W → Below W.heap.size W w' → P w') := Lib.hid (by rw [hP]; exact fun W w' h hb => h.next hb)
  have HPA : Hid (∀ W, P W → AqD w sec Aa na ca Ah nh ch Au nu cu #[.string x.iss, .string x.sch, .int .i64 x.ver, .slice A n c, .string x.a, .string x.e, .string x.v, .int .i64 x.ep, .string x.wit] 47 sec qs' hs' us A1 n1 c1 A2 n2 c2 A3 n3 c3 b7 W) := Lib.hid (by rw [hP]; exact fun W h => h)
  have H0 : Hid (RwK P (b7 + 1) [] w4) := Lib.hid ⟨by rw [hP]; exact HD.out, HD.out.hi, fun q hq => absurd hq (by simp)⟩
  clear hP
  have HCC : Hid (∀ L W, RwK P (b7 + 1) L W → W.cell? ⟨b7, 0, none⟩ = some (.string sec) ∧ W.cell? ⟨b7, 1, none⟩ = some (.slice A1 n1 c1) ∧ W.cell? ⟨b7, 2, none⟩ = some (.slice A2 n2 c2) ∧ W.cell? ⟨b7, 3, none⟩ = some (.slice A3 n3 c3) ∧ W.cell? ⟨w.heap.size + 1, 0, none⟩ = some (.string x.iss) ∧ W.cell? ⟨w.heap.size + 1, 1, none⟩ = some (.string x.sch) ∧ W.cell? ⟨w.heap.size + 1, 2, none⟩ = some (.int .i64 x.ver) ∧ W.cell? ⟨w.heap.size + 1, 3, none⟩ = some (.slice A n c) ∧ W.cell? ⟨w.heap.size + 1, 4, none⟩ = some (.string x.a) ∧ W.cell? ⟨w.heap.size + 1, 5, none⟩ = some (.string x.e) ∧ W.cell? ⟨w.heap.size + 1, 6, none⟩ = some (.string x.v) ∧ W.cell? ⟨w.heap.size + 1, 7, none⟩ = some (.int .i64 x.ep) ∧ W.cell? ⟨w.heap.size + 1, 8, none⟩ = some (.string x.wit)) := Lib.hid (fun L W h => by
    have ha := HPA.out W h.p
    obtain ⟨e0, e1, e2, e3⟩ := ha.wc
    exact ⟨e0, e1, e2, e3, HAC.out W ha.bx⟩)
  have HCS : Hid (∀ L W, RwK P (b7 + 1) L W → ∀ v0 v1 v2 v3, ((((W.setCell ⟨w.heap.size + 1 + 1, 0, none⟩ v0).setCell ⟨w.heap.size + 1 + 1, 1, none⟩ v1).setCell ⟨w.heap.size + 1 + 1, 2, none⟩ v2).setCell ⟨w.heap.size + 1 + 1, 3, none⟩ v3).cell? ⟨b7, 0, none⟩ = some (.string sec) ∧ ((((W.setCell ⟨w.heap.size + 1 + 1, 0, none⟩ v0).setCell ⟨w.heap.size + 1 + 1, 1, none⟩ v1).setCell ⟨w.heap.size + 1 + 1, 2, none⟩ v2).setCell ⟨w.heap.size + 1 + 1, 3, none⟩ v3).cell? ⟨b7, 1, none⟩ = some (.slice A1 n1 c1) ∧ ((((W.setCell ⟨w.heap.size + 1 + 1, 0, none⟩ v0).setCell ⟨w.heap.size + 1 + 1, 1, none⟩ v1).setCell ⟨w.heap.size + 1 + 1, 2, none⟩ v2).setCell ⟨w.heap.size + 1 + 1, 3, none⟩ v3).cell? ⟨b7, 2, none⟩ = some (.slice A2 n2 c2) ∧ ((((W.setCell ⟨w.heap.size + 1 + 1, 0, none⟩ v0).setCell ⟨w.heap.size + 1 + 1, 1, none⟩ v1).setCell ⟨w.heap.size + 1 + 1, 2, none⟩ v2).setCell ⟨w.heap.size + 1 + 1, 3, none⟩ v3).cell? ⟨b7, 3, none⟩ = some (.slice A3 n3 c3) ∧ ((((W.setCell ⟨w.heap.size + 1 + 1, 0, none⟩ v0).setCell ⟨w.heap.size + 1 + 1, 1, none⟩ v1).setCell ⟨w.heap.size + 1 + 1, 2, none⟩ v2).setCell ⟨w.heap.size + 1 + 1, 3, none⟩ v3).cell? ⟨w.heap.size + 1, 0, none⟩ = some (.string x.iss) ∧ ((((W.setCell ⟨w.heap.size + 1 + 1, 0, none⟩ v0).setCell ⟨w.heap.size + 1 + 1, 1, none⟩ v1).setCell ⟨w.heap.size + 1 + 1, 2, none⟩ v2).setCell ⟨w.heap.size + 1 + 1, 3, none⟩ v3).cell? ⟨w.heap.size + 1, 1, none⟩ = some (.string x.sch) ∧ ((((W.setCell ⟨w.heap.size + 1 + 1, 0, none⟩ v0).setCell ⟨w.heap.size + 1 + 1, 1, none⟩ v1).setCell ⟨w.heap.size + 1 + 1, 2, none⟩ v2).setCell ⟨w.heap.size + 1 + 1, 3, none⟩ v3).cell? ⟨w.heap.size + 1, 2, none⟩ = some (.int .i64 x.ver) ∧ ((((W.setCell ⟨w.heap.size + 1 + 1, 0, none⟩ v0).setCell ⟨w.heap.size + 1 + 1, 1, none⟩ v1).setCell ⟨w.heap.size + 1 + 1, 2, none⟩ v2).setCell ⟨w.heap.size + 1 + 1, 3, none⟩ v3).cell? ⟨w.heap.size + 1, 3, none⟩ = some (.slice A n c) ∧ ((((W.setCell ⟨w.heap.size + 1 + 1, 0, none⟩ v0).setCell ⟨w.heap.size + 1 + 1, 1, none⟩ v1).setCell ⟨w.heap.size + 1 + 1, 2, none⟩ v2).setCell ⟨w.heap.size + 1 + 1, 3, none⟩ v3).cell? ⟨w.heap.size + 1, 4, none⟩ = some (.string x.a) ∧ ((((W.setCell ⟨w.heap.size + 1 + 1, 0, none⟩ v0).setCell ⟨w.heap.size + 1 + 1, 1, none⟩ v1).setCell ⟨w.heap.size + 1 + 1, 2, none⟩ v2).setCell ⟨w.heap.size + 1 + 1, 3, none⟩ v3).cell? ⟨w.heap.size + 1, 5, none⟩ = some (.string x.e) ∧ ((((W.setCell ⟨w.heap.size + 1 + 1, 0, none⟩ v0).setCell ⟨w.heap.size + 1 + 1, 1, none⟩ v1).setCell ⟨w.heap.size + 1 + 1, 2, none⟩ v2).setCell ⟨w.heap.size + 1 + 1, 3, none⟩ v3).cell? ⟨w.heap.size + 1, 6, none⟩ = some (.string x.v) ∧ ((((W.setCell ⟨w.heap.size + 1 + 1, 0, none⟩ v0).setCell ⟨w.heap.size + 1 + 1, 1, none⟩ v1).setCell ⟨w.heap.size + 1 + 1, 2, none⟩ v2).setCell ⟨w.heap.size + 1 + 1, 3, none⟩ v3).cell? ⟨w.heap.size + 1, 7, none⟩ = some (.int .i64 x.ep) ∧ ((((W.setCell ⟨w.heap.size + 1 + 1, 0, none⟩ v0).setCell ⟨w.heap.size + 1 + 1, 1, none⟩ v1).setCell ⟨w.heap.size + 1 + 1, 2, none⟩ v2).setCell ⟨w.heap.size + 1 + 1, 3, none⟩ v3).cell? ⟨w.heap.size + 1, 8, none⟩ = some (.string x.wit)) := Lib.hid (fun L W h v0 v1 v2 v3 => by
    obtain ⟨e0, e1, e2, e3, e4, e5, e6, e7, e8, e9, e10, e11, e12⟩ := HCC.out L W h
    have hlo := (HPA.out W h.p).lo
    have hne : ∀ (V : World) (i : Nat) (u : Value) (p : Addr), p.block ≠ w.heap.size + 1 + 1 → (V.setCell ⟨w.heap.size + 1 + 1, i, none⟩ u).cell? p = V.cell? p := fun V i u p hp => World.cell?_setCell_other _ _ _ _ (fun e => by have := congrArg Addr.block e; simp at this; omega)
    have key : ∀ p : Addr, p.block ≠ w.heap.size + 1 + 1 → ((((W.setCell ⟨w.heap.size + 1 + 1, 0, none⟩ v0).setCell ⟨w.heap.size + 1 + 1, 1, none⟩ v1).setCell ⟨w.heap.size + 1 + 1, 2, none⟩ v2).setCell ⟨w.heap.size + 1 + 1, 3, none⟩ v3).cell? p = W.cell? p := fun p hp => by rw [hne _ _ _ _ hp, hne _ _ _ _ hp, hne _ _ _ _ hp, hne _ _ _ _ hp]
    exact ⟨(key ⟨b7, 0, none⟩ (by show b7 ≠ _; omega)).trans e0, (key ⟨b7, 1, none⟩ (by show b7 ≠ _; omega)).trans e1, (key ⟨b7, 2, none⟩ (by show b7 ≠ _; omega)).trans e2, (key ⟨b7, 3, none⟩ (by show b7 ≠ _; omega)).trans e3, (key ⟨w.heap.size + 1, 0, none⟩ (by show w.heap.size + 1 ≠ _; omega)).trans e4, (key ⟨w.heap.size + 1, 1, none⟩ (by show w.heap.size + 1 ≠ _; omega)).trans e5, (key ⟨w.heap.size + 1, 2, none⟩ (by show w.heap.size + 1 ≠ _; omega)).trans e6, (key ⟨w.heap.size + 1, 3, none⟩ (by show w.heap.size + 1 ≠ _; omega)).trans e7, (key ⟨w.heap.size + 1, 4, none⟩ (by show w.heap.size + 1 ≠ _; omega)).trans e8, (key ⟨w.heap.size + 1, 5, none⟩ (by show w.heap.size + 1 ≠ _; omega)).trans e9, (key ⟨w.heap.size + 1, 6, none⟩ (by show w.heap.size + 1 ≠ _; omega)).trans e10, (key ⟨w.heap.size + 1, 7, none⟩ (by show w.heap.size + 1 ≠ _; omega)).trans e11, (key ⟨w.heap.size + 1, 8, none⟩ (by show w.heap.size + 1 ≠ _; omega)).trans e12⟩)
  have HCH := Lib.hid (fun L W (h : RwK P (b7 + 1) L W) (B2 : Option Addr) (d2 : Nat) (m2 : (B2, heldL x) ∈ L) => wal_changed_bad sec A1 A2 A3 n1 c1 n2 c2 n3 c3 ⟨#[104, 101, 108, 100]⟩ (heldI nc x) (some ⟨W.heap.size, 0, none⟩) 2 _ (W.alloc (.cells #[.int .i64 1, .string ⟨#[]⟩, .string nc, .slice none 0 0, .int .i64 2, .string ⟨#[]⟩, .string ⟨#[]⟩, .slice B2 9 d2] 63)) HSZ.out (pair_row (l1 := .nil) (A1 := none) (m1 := 0) (c1 := 0) SlI.nil_ (h.mem _ m2) (fun g hg => hg.2) rfl rfl) (fun g hg => by { rcases hg with hg | hg; { have := hg.2; simp; omega }; { rw [hg]; simp } }) HLE.out z HOK.out hz)
  unfold ZeroErr at HCH
  have hl2 : (heldI nc x).len = 2 := rfl
  rw [hl2] at HCH
  obtain ⟨k0, k1, k2, k3, k4, k5, k6, k7, k8, k9, k10, k11, k12⟩ := HCC.out _ _ H0.out
  go_region_held3 (fun w' => w'.cell? ⟨b7, 0, none⟩ = some (.string sec) ∧ w'.cell? ⟨b7, 1, none⟩ = some (.slice A1 n1 c1) ∧ w'.cell? ⟨b7, 2, none⟩ = some (.slice A2 n2 c2) ∧ w'.cell? ⟨b7, 3, none⟩ = some (.slice A3 n3 c3) ∧ w'.cell? ⟨w.heap.size + 1, 0, none⟩ = some (.string x.iss) ∧ w'.cell? ⟨w.heap.size + 1, 1, none⟩ = some (.string x.sch) ∧ w'.cell? ⟨w.heap.size + 1, 2, none⟩ = some (.int .i64 x.ver) ∧ w'.cell? ⟨w.heap.size + 1, 3, none⟩ = some (.slice A n c) ∧ w'.cell? ⟨w.heap.size + 1, 4, none⟩ = some (.string x.a) ∧ w'.cell? ⟨w.heap.size + 1, 5, none⟩ = some (.string x.e) ∧ w'.cell? ⟨w.heap.size + 1, 6, none⟩ = some (.string x.v) ∧ w'.cell? ⟨w.heap.size + 1, 7, none⟩ = some (.int .i64 x.ep) ∧ w'.cell? ⟨w.heap.size + 1, 8, none⟩ = some (.string x.wit)) (first | exact HCC.out _ _ H9.out | exact HCS.out _ _ H9.out _ _ _ _ | exact HCC.out _ _ H0.out | exact HCC.out _ _ (H0.out.next HPN.out (Below.refl _ _).drew) | exact HCC.out _ _ (H0.out.next HPN.out ((Below.refl _ _).alloc (Nat.le_refl _) _)) | exact HCC.out _ _ ((H0.out.next HPN.out (Below.refl _ _).drew).next HPN.out ((Below.refl _ _).alloc (Nat.le_refl _) _)) | go_keep) (first
    | (go_at_call 78; (with_reducible refine (HWH.out _).mono ?_); rintro e w1 ⟨rfl, hb1⟩; have n1' := (by first | exact H0.out.next HPN.out hb1 | exact (H0.out.next HPN.out (Below.refl _ _).drew).next HPN.out hb1 : RwK P (b7 + 1) _ w1); replace H0 := Lib.hid n1'; clear n1')
    | (go_at_call 79; (first | (with_reducible refine (HHI.out _ (HPA.out _ H0.out.p).bx.bel).mono ?_) | (with_reducible refine (HHI.out _ (HPA.out _ (H0.out.next HPN.out (Below.refl _ _).drew).p).bx.bel).mono ?_)); rintro e w1 ⟨A6, c6, rfl, hsl1, hb1⟩; have n1' := (by first | exact H0.out.add HPN.out hsl1 hb1 | exact (H0.out.next HPN.out (Below.refl _ _).drew).add HPN.out hsl1 hb1 : RwK P (b7 + 1) _ w1); replace H0 := Lib.hid n1'; clear n1')
    | (go_at_call 53; (first | (with_reducible refine (HCH.out _ _ H0.out A6 c6 (by simp)).mono ?_) | (with_reducible refine (HCH.out _ _ (H0.out.next HPN.out (Below.refl _ _).drew) A6 c6 (by simp)).mono ?_)); rintro e w9 ⟨rfl, hb9⟩; have n9 := (by first | exact (H0.out.next HPN.out ((Below.refl _ _).alloc (Nat.le_refl _) _)).next HPN.out hb9 | exact ((H0.out.next HPN.out (Below.refl _ _).drew).next HPN.out ((Below.refl _ _).alloc (Nat.le_refl _) _)).next HPN.out hb9 : RwK P (b7 + 1) _ w9); obtain ⟨⟨r0, r1, r2, r3⟩, g0, g1, g2, g3⟩ := (HPA.out _ n9.p).bx.rc; have H9 := Lib.hid n9; clear n9 hb9))
  all_goals
    go_wp2_with fail
    refine bodyPost_ret (v := .tuple #[.agg #[.string ⟨#[]⟩, .slice none 0 0, .slice none 0 0, .slice none 0 0], .string ⟨#[]⟩, .int .i64 z]) (by simp [results, Tryz.results44, go_sem, r0, r1, r2, r3]) rfl ?_
    exact ⟨rfl, (HPA.out _ H9.out.p).bx.zero _ _ _ _⟩
theorem find_none {f : Az → Bool} : ∀ {qs : List Az}, qs.any f = false → qs.find? f = none
  | [], _ => rfl
  | y :: r, h => by
    rw [List.any_cons, Bool.or_eq_false_iff] at h
    rw [List.find?_cons, h.1]
    exact find_none h.2
/-- The error of Store. -/
noncomputable def storeZ (sec : ByteArray) (qs : List Az) (hs : List Hz) (us : List Uz) (nc : ByteArray) (x : Hz) : Int := if validW sec qs hs us = true then (if (numsH x).all valid = true then (match qs.find? (isA nc) with | none => 9 | some y => if badS x y = true then 1 else (encS (entOf ⟨#[104, 101, 108, 100]⟩ (heldI nc x))).2) else 3) else 3
/-- What Store hands back. -/
def StoreGot (w : World) (sec : ByteArray) (qs : List Az) (hs : List Hz) (us : List Uz) (nc : ByteArray) (x : Hz) (o : Ending) (w' : World) : Prop :=
  (∃ z, z ≠ 0 ∧ storeZ sec qs hs us nc x = z ∧ ZeroErr w z o w') ∨ ∃ (j : Nat) (y : Az), idxA (isA nc) qs 0 = (j : Int) ∧ qs[j]? = some y ∧ badS x y = false ∧ validW sec qs hs us = true ∧ (numsH x).all valid = true ∧ (encS (entOf ⟨#[104, 101, 108, 100]⟩ (heldI nc x))).2 = 0 ∧ ChgGot w sec (qs.eraseIdx j) (hs ++ [x]) us (encS (entOf ⟨#[104, 101, 108, 100]⟩ (heldI nc x))).1 o w'
theorem wal_Store (sec : ByteArray) (qs : List Az) (hs : List Hz) (us : List Uz) (Aa Ah Au : Option Addr) (na ca nh ch nu cu : Nat) (nc : ByteArray) (x : Hz) (A : Option Addr) (n c : Nat) (S : Nat → Prop) (w : World) (hq : qs.length = na) (hn : hs.length = nh) (hu : us.length = nu) (hnh4 : nh < 4096) (ho : WalOk qs hs us) (hnx : x.att.length = n) (hmn : n ≤ 1000) (hnl : (numsH x).length ≤ 100000) (hxv : -9223372036854775808 ≤ x.ver ∧ x.ver ≤ 9223372036854775807) (hxe : -9223372036854775808 ≤ x.ep ∧ x.ep ≤ 9223372036854775807) (hle : (encOne (entOf ⟨#[104, 101, 108, 100]⟩ (heldI nc x))).length ≤ 200000000) (hrow : RowC w S A n (cellsN x.att)) (h : WalM w S qs hs us Aa Ah Au) (hS : ∀ g, S g → g < w.heap.size) :
    Calls Tryz.prog 44 #[.agg #[.string sec, .slice Aa na ca, .slice Ah nh ch, .slice Au nu cu], .string nc, valH x A n c] w (StoreGot w sec qs hs us nc x) := by
  have hna : na ≤ 100000 := by have := ho.na; omega
  have hnu : nu ≤ 100000 := by have := ho.nu; omega
  have hat : ∀ x ∈ hs, x.att.length ≤ 100000 := fun x hx => by have := ho.att x hx; omega
  have hk : ∀ W, Below w.heap.size w W → WalM W S qs hs us Aa Ah Au := fun W hb => h.keep (fun q hq => hb.cell (hS _ hq))
  have hr : ∀ W, Below w.heap.size w W → RowC W S A n (cellsN x.att) := fun W hb => hrow.keep (fun q hq => hb.cell (hS _ hq))
  have hs' : ∀ W, Below w.heap.size w W → ∀ g, S g → g < W.heap.size := fun W hb g hg => Nat.lt_of_lt_of_le (hS g hg) hb.size
  cases hv : validW sec qs hs us with
  | false => exact (wal_Store_inv sec qs hs us Aa Ah Au na ca nh ch nu cu nc x A n c S w hq hn hu ho hv h hS).mono fun o w' h => .inl ⟨3, by decide, by unfold storeZ; rw [hv]; rfl, h⟩
  | true =>
    cases hc : (numsH x).all valid with
    | false => exact (wal_Store_can sec qs hs us Aa Ah Au na ca nh ch nu cu nc x A n c S w hq hn hu ho hv hc hnx hmn hnl hrow h hS).mono fun o w' h => .inl ⟨3, by decide, by unfold storeZ; rw [hv, hc]; rfl, h⟩
    | true =>
      cases hany : qs.any (isA nc) with
      | false =>
        have hidx := idxA_none hany 0
        exact (wal_Store_err sec qs hs us Aa Ah Au na ca nh ch nu cu nc x A n c S w hq hn hu ho hv hc hnx hmn hnl hxv hxe hrow h hS 9 (by decide) (fun W hb => wal_store_none sec qs Aa Ah Au na ca nh ch nu cu nc x A n c S W hq hna (by rw [hidx]; decide) (hk W hb).a (hs' W hb))).mono fun o w' h => .inl ⟨9, by decide, by unfold storeZ; rw [hv, hc, if_pos rfl, if_pos rfl, find_none hany], h⟩
      | true =>
        obtain ⟨j, y, hidx, hy, _, hfd⟩ := idxA_some hany 0
        rw [Nat.zero_add] at hidx
        obtain ⟨yi, ys, yn, yx, yb⟩ := y
        have hat := fun W hb => wal_store_at sec qs hs us Aa Ah Au na ca nh ch nu cu nc x A n c j yi ys yn yx yb S W hq hn hu hna hnh4 hnu hat hidx hy hnx (by omega) (hr W hb) (hk W hb) (hs' W hb)
        have hZ : ∀ c : Int, (if badS x (yi, ys, yn, yx, yb) = true then 1 else (encS (entOf ⟨#[104, 101, 108, 100]⟩ (heldI nc x))).2) = c → storeZ sec qs hs us nc x = c := fun c hc' => by
          unfold storeZ
          rw [hv, hc, if_pos rfl, if_pos rfl, hfd]
          exact hc'
        cases hbad : badS x (yi, ys, yn, yx, yb) with
        | true => exact (wal_Store_err sec qs hs us Aa Ah Au na ca nh ch nu cu nc x A n c S w hq hn hu ho hv hc hnx hmn hnl hxv hxe hrow h hS 1 (by decide) (fun W hb => (hat W hb).mono fun o w' h' => (h'.resolve_right (fun h2 => by rw [hbad] at h2; cases h2.1)).2)).mono fun o w' h => .inl ⟨1, by decide, hZ 1 (by rw [hbad]; rfl), h⟩
        | false =>
          have hok := fun W hb => (hat W hb).mono (R' := ChGot W sec (qs.eraseIdx j) (hs ++ [x]) us) fun o w' h' => (h'.resolve_left (fun h2 => by rw [hbad] at h2; cases h2.1)).2
          by_cases hz : (encS (entOf ⟨#[104, 101, 108, 100]⟩ (heldI nc x))).2 = 0
          · exact (wal_Store_good sec qs hs us Aa Ah Au na ca nh ch nu cu nc x A n c S w hq hn hu ho hv hc hnx hmn hnl hxv hxe hrow h hS (qs.eraseIdx j) (hs ++ [x]) hle hz hok).mono fun o w' h => .inr ⟨j, _, hidx, hy, hbad, hv, hc, hz, h⟩
          · exact (wal_Store_bad sec qs hs us Aa Ah Au na ca nh ch nu cu nc x A n c S w hq hn hu ho hv hc hnx hmn hnl hxv hxe hrow h hS (qs.eraseIdx j) (hs ++ [x]) _ hz hle rfl hok).mono fun o w' h => .inl ⟨_, hz, hZ _ (by rw [hbad]; rfl), h⟩
theorem wal_Use_lim (sec : ByteArray) (qs : List Az) (hs : List Hz) (us : List Uz) (Aa Ah Au : Option Addr) (na ca nh ch nu cu : Nat) (sc : ByteArray) (z lim : Int) (S : Nat → Prop) (w : World) (hq : qs.length = na) (hn : hs.length = nh) (hu : us.length = nu) (ho : WalOk qs hs us) (hval : validW sec qs hs us = true) (hlt : lim ≤ cntU (isU sc z) us) (h : WalM w S qs hs us Aa Ah Au) (hS : ∀ g, S g → g < w.heap.size) :
    Calls Tryz.prog 16 #[.agg #[.string sec, .slice Aa na ca, .slice Ah nh ch, .slice Au nu cu], .string sc, .int .i64 z, .int .i64 lim] w fun e w' => e = .returned (.tuple #[.agg #[.string ⟨#[]⟩, .slice none 0 0, .slice none 0 0, .slice none 0 0], .int .i64 0, .string ⟨#[]⟩, .int .i64 24]) ∧ Below w.heap.size w w' := by
  have HV := Lib.hid (fun W (hb : Below w.heap.size w W) => wal_valid sec qs hs us Aa Ah Au na ca nh ch nu cu S W hq hn hu (by have := ho.na; omega) (by have := ho.nh; omega) (by have := ho.nu; omega) ho.nonce ho.att ho.scope (h.keep (fun q hq => hb.cell (hS _ hq))) (fun g hg => Nat.lt_of_lt_of_le (hS g hg) hb.size))
  rw [hval] at HV
  have HCN := Lib.hid (fun W (hb : Below w.heap.size w W) => wal_count us Au nu cu S sec Aa Ah na ca nh ch sc z W hu (by have := ho.nu; omega) (h.keep (fun q hq => hb.cell (hS _ hq))).u (fun g hg => Nat.lt_of_lt_of_le (hS g hg) hb.size))
  obtain ⟨n, hcnt⟩ : ∃ n, cntU (isU sc z) us = n := ⟨_, rfl⟩
  rw [hcnt] at HCN hlt
  have kl : decide (lim ≤ n) = true := decide_eq_true hlt
  have HCP := Lib.hid (CpB.start (w := w) (sec := sec) (Aa := Aa) (na := na) (ca := ca) (Ah := Ah) (nh := nh) (ch := ch) (Au := Au) (nu := nu) (cu := cu))
  clear h hS hq hn hu ho hval hcnt
  go_enter Tryz.func16, Tryz.ntmps16
  go_wp2_with (first
    | (go_at_call 17; (with_reducible refine (HV.out _ HCP.out.bel).mono ?_); rintro e w1 ⟨rfl, hb1⟩; have HC1 := Lib.hid (HCP.out.next hb1); obtain ⟨⟨x0, x1, x2, x3⟩, y0, y1, y2, y3⟩ := HC1.out.bc; clear hb1)
    | (go_at_call 51; (with_reducible refine (HCN.out _ HC1.out.bel).mono ?_); rintro e w2 ⟨rfl, hb2⟩; have HC2 := Lib.hid (HC1.out.next hb2); obtain ⟨⟨r0, r1, r2, r3⟩, g0, g1, g2, g3⟩ := HC2.out.rc; clear hb2))
  refine bodyPost_ret (v := .tuple #[.agg #[.string ⟨#[]⟩, .slice none 0 0, .slice none 0 0, .slice none 0 0], .int .i64 0, .string ⟨#[]⟩, .int .i64 24]) (by simp [results, Tryz.results16, go_sem, r0, r1, r2, r3]) rfl ?_
  have hl : w.heap.size ≤ w.heap.size + 1 := Nat.le_succ _
  exact ⟨rfl, (((HC2.out.bel.setCell (p := ⟨w.heap.size + 1, 0, none⟩) hl _).setCell (p := ⟨w.heap.size + 1, 1, none⟩) hl _).setCell (p := ⟨w.heap.size + 1, 2, none⟩) hl _).setCell (p := ⟨w.heap.size + 1, 3, none⟩) hl _⟩
theorem wal_Use_inv (sec : ByteArray) (qs : List Az) (hs : List Hz) (us : List Uz) (Aa Ah Au : Option Addr) (na ca nh ch nu cu : Nat) (sc : ByteArray) (z lim : Int) (S : Nat → Prop) (w : World) (hq : qs.length = na) (hn : hs.length = nh) (hu : us.length = nu) (ho : WalOk qs hs us) (hval : validW sec qs hs us = false) (h : WalM w S qs hs us Aa Ah Au) (hS : ∀ g, S g → g < w.heap.size) :
    Calls Tryz.prog 16 #[.agg #[.string sec, .slice Aa na ca, .slice Ah nh ch, .slice Au nu cu], .string sc, .int .i64 z, .int .i64 lim] w fun e w' => e = .returned (.tuple #[.agg #[.string ⟨#[]⟩, .slice none 0 0, .slice none 0 0, .slice none 0 0], .int .i64 0, .string ⟨#[]⟩, .int .i64 3]) ∧ Below w.heap.size w w' := by
  have HV := Lib.hid (fun W (hb : Below w.heap.size w W) => wal_valid sec qs hs us Aa Ah Au na ca nh ch nu cu S W hq hn hu (by have := ho.na; omega) (by have := ho.nh; omega) (by have := ho.nu; omega) ho.nonce ho.att ho.scope (h.keep (fun q hq => hb.cell (hS _ hq))) (fun g hg => Nat.lt_of_lt_of_le (hS g hg) hb.size))
  rw [hval] at HV
  have HCP := Lib.hid (CpB.start (w := w) (sec := sec) (Aa := Aa) (na := na) (ca := ca) (Ah := Ah) (nh := nh) (ch := ch) (Au := Au) (nu := nu) (cu := cu))
  clear h hS hq hn hu ho hval
  go_enter Tryz.func16, Tryz.ntmps16
  go_wp2_with (go_at_call 17; (with_reducible refine (HV.out _ HCP.out.bel).mono ?_); rintro e w1 ⟨rfl, hb1⟩; have HC2 := Lib.hid (HCP.out.next hb1); obtain ⟨⟨r0, r1, r2, r3⟩, g0, g1, g2, g3⟩ := HC2.out.rc; clear hb1)
  refine bodyPost_ret (v := .tuple #[.agg #[.string ⟨#[]⟩, .slice none 0 0, .slice none 0 0, .slice none 0 0], .int .i64 0, .string ⟨#[]⟩, .int .i64 3]) (by simp [results, Tryz.results16, go_sem, r0, r1, r2, r3]) rfl ?_
  have hl : w.heap.size ≤ w.heap.size + 1 := Nat.le_succ _
  exact ⟨rfl, (((HC2.out.bel.setCell (p := ⟨w.heap.size + 1, 0, none⟩) hl _).setCell (p := ⟨w.heap.size + 1, 1, none⟩) hl _).setCell (p := ⟨w.heap.size + 1, 2, none⟩) hl _).setCell (p := ⟨w.heap.size + 1, 3, none⟩) hl _⟩
end Go.Proofs.YtjhlddlocpkhkaaGreat

namespace Go.Proofs.YtjhlddlocpkhkaaGreat
open Go.RowKit
set_option maxRecDepth 100000
set_option linter.unusedVariables false
theorem str_eq (a b : ByteArray) : (a.toList == b.toList) = true ↔ a = b := by
  constructor
  · intro h
    rw [ByteArray.toList_eq, ByteArray.toList_eq] at h
    obtain ⟨⟨x⟩⟩ := a
    obtain ⟨⟨y⟩⟩ := b
    simp at h
    rw [h]
  · rintro rfl
    simp
end Go.Proofs.YtjhlddlocpkhkaaGreat

namespace Go.Proofs.YtjhlddlocpkhkaaGreat
open Go.RowKit
set_option maxRecDepth 100000
set_option linter.unusedVariables false
set_option maxHeartbeats 4000000
/-- The result of a change: error, wallet, entry, count. -/
structure Rs where
  z : Int
  sec : ByteArray
  qs : List Az
  hs : List Hz
  us : List Uz
  s : ByteArray
  k : Int
def Rs.err (z : Int) : Rs := ⟨z, ⟨#[]⟩, [], [], [], ⟨#[]⟩, 0⟩
noncomputable def askR (sec : ByteArray) (qs : List Az) (hs : List Hz) (us : List Uz) (i s n x b : ByteArray) : Rs :=
  if askZ sec qs hs us i s n x b = 0 then ⟨0, sec, qs ++ [(i, s, n, x, b)], hs, us, (encS (entOf ⟨#[97, 115, 107, 101, 100]⟩ (askedL i s n x b))).1, 0⟩ else Rs.err (askZ sec qs hs us i s n x b)
noncomputable def storeR (sec : ByteArray) (qs : List Az) (hs : List Hz) (us : List Uz) (nc : ByteArray) (x : Hz) : Rs :=
  if storeZ sec qs hs us nc x = 0 then ⟨0, sec, qs.filter (fun y => !isA nc y), hs ++ [x], us, (encS (entOf ⟨#[104, 101, 108, 100]⟩ (heldI nc x))).1, 0⟩ else Rs.err (storeZ sec qs hs us nc x)
noncomputable def renewR (sec : ByteArray) (qs : List Az) (hs : List Hz) (us : List Uz) (k : Int) (x : Hz) : Rs :=
  if renewZ sec qs hs us k x = 0 then ⟨0, sec, qs, hs.set k.toNat x, us, (encS (entOf ⟨#[114, 101, 110, 101, 119, 101, 100]⟩ (renewI k x))).1, 0⟩ else Rs.err (renewZ sec qs hs us k x)
noncomputable def useZ (sec : ByteArray) (qs : List Az) (hs : List Hz) (us : List Uz) (sc : ByteArray) (p lim : Int) : Int :=
  if validW sec qs hs us = true then (if lim ≤ cntU (isU sc p) us then 24 else 0) else 3
noncomputable def useR (sec : ByteArray) (qs : List Az) (hs : List Hz) (us : List Uz) (sc : ByteArray) (p lim : Int) : Rs :=
  if useZ sec qs hs us sc p lim = 0 then ⟨0, sec, qs, hs, putU (sc, p, cntU (isU sc p) us + 1) us, (encS (entOf ⟨#[117, 115, 101, 100]⟩ (usedL sc p (cntU (isU sc p) us + 1)))).1, cntU (isU sc p) us⟩ else Rs.err (useZ sec qs hs us sc p lim)
/-- A result of three parts, of four parts. -/
def GotR3 (S : Nat → Prop) (w : World) (R : Rs) (o : Ending) (w' : World) : Prop :=
  ∃ A1 c1 A2 c2 A3 c3, o = .returned (.tuple #[.agg #[.string R.sec, .slice A1 R.qs.length c1, .slice A2 R.hs.length c2, .slice A3 R.us.length c3], .string R.s, .int .i64 R.z]) ∧ WalM w' (fun g => S g ∨ (w.heap.size ≤ g ∧ g < w'.heap.size)) R.qs R.hs R.us A1 A2 A3 ∧ Below w.heap.size w w'
def GotR4 (S : Nat → Prop) (w : World) (R : Rs) (o : Ending) (w' : World) : Prop :=
  ∃ A1 c1 A2 c2 A3 c3, o = .returned (.tuple #[.agg #[.string R.sec, .slice A1 R.qs.length c1, .slice A2 R.hs.length c2, .slice A3 R.us.length c3], .int .i64 R.k, .string R.s, .int .i64 R.z]) ∧ WalM w' (fun g => S g ∨ (w.heap.size ≤ g ∧ g < w'.heap.size)) R.qs R.hs R.us A1 A2 A3 ∧ Below w.heap.size w w'
section
variable {S : Nat → Prop} {w w' : World} {o : Ending}
theorem gotR3_err {z : Int} (h : ZeroErr w z o w') : GotR3 S w (Rs.err z) o w' := ⟨none, 0, none, 0, none, 0, h.1, walM_nil, h.2⟩
theorem gotR3_good {sec : ByteArray} {qs : List Az} {hs : List Hz} {us : List Uz} {s : ByteArray} (h : ChgGot w sec qs hs us s o w') : GotR3 S w ⟨0, sec, qs, hs, us, s, 0⟩ o w' := by
  obtain ⟨A1, n1, c1, A2, n2, c2, A3, n3, c3, e, rfl, rfl, rfl, hm, hb⟩ := h
  exact ⟨A1, c1, A2, c2, A3, c3, e, hm.mono (fun g hg => .inr hg), hb⟩
end
/-- In a valid wallet no two requests have the same nonce. -/
theorem validA_seen : ∀ (qs : List Az) (seen : List ByteArray) (nc : ByteArray), validA seen qs = true → (seen.any fun y => y.toList == nc.toList) = true → qs.any (isA nc) = false
  | [], _, _, _, _ => rfl
  | x :: r, seen, nc, h, hs => by
    unfold validA at h
    split at h
    · cases h
    · rename_i hx
      split at h
      · have h1 := validA_seen r _ nc h (by rw [List.any_cons, hs, Bool.or_true])
        rw [List.any_cons, h1, Bool.or_false]
        cases hi : isA nc x with
        | false => rfl
        | true =>
          exfalso
          apply hx
          unfold isA at hi
          rw [str_eq] at hi
          rw [hi]
          exact hs
      · cases h
theorem erase_filter : ∀ (qs : List Az) (seen : List ByteArray) (nc : ByteArray) (k j : Nat), validA seen qs = true → idxA (isA nc) qs k = ((k + j : Nat) : Int) → qs.eraseIdx j = qs.filter (fun y => !isA nc y)
  | [], _, _, k, j, _, h => by simp [idxA] at h; omega
  | x :: r, seen, nc, k, j, h, hi => by
    unfold validA at h
    split at h
    · cases h
    · split at h
      · unfold idxA at hi
        cases hx : isA nc x with
        | true =>
          rw [hx, if_pos rfl] at hi
          obtain rfl : j = 0 := by omega
          have h1 := validA_seen r _ nc h (by rw [List.any_cons]; unfold isA at hx; rw [hx, Bool.true_or])
          rw [List.eraseIdx_cons_zero, List.filter_cons, hx]
          simp only [Bool.not_true, Bool.false_eq_true, if_false]
          rw [List.filter_eq_self.2]
          intro y hy
          have := List.any_eq_false.1 h1 y hy
          simpa using this
        | false =>
          rw [hx] at hi
          simp only [Bool.false_eq_true, if_false] at hi
          obtain ⟨i, rfl⟩ : ∃ i, j = i + 1 := by
            cases j with
            | zero =>
              exfalso
              have : ∀ (l : List Az) (m : Nat), idxA (isA nc) l m = -1 ∨ (m : Int) ≤ idxA (isA nc) l m := by
                intro l
                induction l with
                | nil => intro m; exact .inl rfl
                | cons y t ih =>
                  intro m
                  unfold idxA
                  split
                  · exact .inr (Int.le_refl _)
                  · rcases ih (m + 1) with h | h
                    · exact .inl h
                    · right; omega
              rcases this r (k + 1) with h2 | h2 <;> omega
            | succ i => exact ⟨i, rfl⟩
          rw [List.eraseIdx_cons_succ, List.filter_cons, hx, erase_filter r _ nc (k + 1) i h (by rw [hi]; omega)]
          rfl
      · cases h
section
variable (sec : ByteArray) (qs : List Az) (hs : List Hz) (us : List Uz) (Aa Ah Au : Option Addr) (na ca nh ch nu cu : Nat) (S : Nat → Prop) (w : World) (ho : WalOk qs hs us) (hq : qs.length = na) (hn : hs.length = nh) (hu : us.length = nu) (h : WalM w S qs hs us Aa Ah Au) (hS : ∀ g, S g → g < w.heap.size)
include ho hq hn hu h hS
theorem ask_gotR (i s n x b : ByteArray) (hsz : i.size + s.size + n.size + x.size + b.size ≤ 100000) :
    Calls Tryz.prog 43 #[.agg #[.string sec, .slice Aa na ca, .slice Ah nh ch, .slice Au nu cu], .agg #[.string i, .string s, .string n, .string x, .string b]] w (GotR3 S w (askR sec qs hs us i s n x b)) := by
  refine (wal_Ask sec qs hs us Aa Ah Au na ca nh ch nu cu i s n x b S w hq hn hu ho hsz h hS).mono fun o w' hg => ?_
  rcases hg with ⟨z, hz, hzz, hg⟩ | ⟨hv, hc, hno, hok, hg⟩
  · unfold askR
    rw [hzz, if_neg hz]
    exact gotR3_err hg
  · unfold askR
    rw [show askZ sec qs hs us i s n x b = 0 by unfold askZ; rw [hv, hc, hno, ← hok]; rfl, if_pos rfl]
    exact gotR3_good hg
theorem store_gotR (nc : ByteArray) (x : Hz) (A : Option Addr) (n c : Nat) (hnc : nc.size ≤ 1000) (hx10 : x.att.length ≤ 10) (hxs : sizeH x ≤ 600) (hnx : x.att.length = n) (hxv : -9223372036854775808 ≤ x.ver ∧ x.ver ≤ 9223372036854775807) (hxe : -9223372036854775808 ≤ x.ep ∧ x.ep ≤ 9223372036854775807) (hrow : RowC w S A n (cellsN x.att)) :
    Calls Tryz.prog 44 #[.agg #[.string sec, .slice Aa na ca, .slice Ah nh ch, .slice Au nu cu], .string nc, valH x A n c] w (GotR3 S w (storeR sec qs hs us nc x)) := by
  refine (wal_Store sec qs hs us Aa Ah Au na ca nh ch nu cu nc x A n c S w hq hn hu (by have := ho.nh; omega) ho hnx (by omega) (by unfold numsH; rw [List.length_append]; simp; omega) hxv hxe (heldI_le nc x (by omega) hxv hxe (by omega) (by omega)) hrow h hS).mono fun o w' hg => ?_
  rcases hg with ⟨z, hz, hzz, hg⟩ | ⟨j, y, hidx, hy, hbad, hv, hc, hok, hg⟩
  · unfold storeR
    rw [hzz, if_neg hz]
    exact gotR3_err hg
  · have hany : qs.any (isA nc) = true := by
      cases ha : qs.any (isA nc) with
      | true => rfl
      | false => rw [idxA_none ha 0] at hidx; omega
    obtain ⟨j', y', hidx', hy', _, hfd⟩ := idxA_some hany 0
    rw [Nat.zero_add] at hidx'
    have hjj : j' = j := by rw [hidx] at hidx'; omega
    subst hjj
    rw [hy] at hy'
    injection hy' with hy'
    subst hy'
    have hva : validA [] qs = true := by
      unfold validW at hv
      simp only [Bool.and_eq_true] at hv
      exact hv.2.1
    unfold storeR
    rw [show storeZ sec qs hs us nc x = 0 by unfold storeZ; rw [hv, hc, if_pos rfl, if_pos rfl, hfd]; dsimp only; rw [hbad, ← hok]; rfl, if_pos rfl, ← erase_filter qs [] nc 0 j' hva (by rw [hidx, Nat.zero_add])]
    exact gotR3_good hg
theorem renew_gotR (k : Int) (x : Hz) (A : Option Addr) (n c : Nat) (hx10 : x.att.length ≤ 10) (hxs : sizeH x ≤ 600) (hnx : x.att.length = n) (hkb : -9223372036854775808 ≤ k ∧ k ≤ 9223372036854775807) (hxv : -9223372036854775808 ≤ x.ver ∧ x.ver ≤ 9223372036854775807) (hxe : -9223372036854775808 ≤ x.ep ∧ x.ep ≤ 9223372036854775807) (hrow : RowC w S A n (cellsN x.att)) :
    Calls Tryz.prog 45 #[.agg #[.string sec, .slice Aa na ca, .slice Ah nh ch, .slice Au nu cu], .int .i64 k, valH x A n c] w (GotR3 S w (renewR sec qs hs us k x)) := by
  refine (wal_Renew sec qs hs us Aa Ah Au na ca nh ch nu cu k x A n c S w hq hn hu ho hnx (by omega) (by unfold numsH; rw [List.length_append]; simp; omega) hkb hxv hxe (renewI_le k x hkb hxv hxe (by omega) (by omega)) hrow h hS).mono fun o w' hg => ?_
  rcases hg with ⟨z, hz, hzz, hg⟩ | ⟨j, y, hkj, hy, hsame, hep, hv, hc, hok, hg⟩
  · unfold renewR
    rw [hzz, if_neg hz]
    exact gotR3_err hg
  · subst hkj
    have hjl := (List.getElem?_eq_some_iff.1 hy).1
    unfold renewR
    rw [show renewZ sec qs hs us (j : Int) x = 0 by unfold renewZ; rw [hv, hc, if_pos rfl, if_pos rfl, if_neg (by omega), Int.toNat_natCast, hy]; dsimp only; rw [hsame, if_pos rfl, if_neg (by omega), hok], if_pos rfl, Int.toNat_natCast]
    exact gotR3_good hg
theorem use_gotR (sc : ByteArray) (z lim : Int) (hsc : sc.size ≤ 1000) (hz : -9223372036854775808 ≤ z ∧ z ≤ 9223372036854775807) (hlim : lim ≤ 9223372036854775807) (hpos : validW sec qs hs us = true → 0 ≤ cntU (isU sc z) us) :
    Calls Tryz.prog 16 #[.agg #[.string sec, .slice Aa na ca, .slice Ah nh ch, .slice Au nu cu], .string sc, .int .i64 z, .int .i64 lim] w (GotR4 S w (useR sec qs hs us sc z lim)) := by
  have herr : ∀ (e : Int) o w', (o = .returned (.tuple #[.agg #[.string ⟨#[]⟩, .slice none 0 0, .slice none 0 0, .slice none 0 0], .int .i64 0, .string ⟨#[]⟩, .int .i64 e]) ∧ Below w.heap.size w w') → GotR4 S w (Rs.err e) o w' := fun e o w' hg =>
    ⟨none, 0, none, 0, none, 0, hg.1, walM_nil, hg.2⟩
  cases hv : validW sec qs hs us with
  | false =>
    have e : useR sec qs hs us sc z lim = Rs.err 3 := by unfold useR; rw [show useZ sec qs hs us sc z lim = 3 by unfold useZ; rw [hv]; rfl]; rfl
    rw [e]
    exact (wal_Use_inv sec qs hs us Aa Ah Au na ca nh ch nu cu sc z lim S w hq hn hu ho hv h hS).mono fun o w' hg => herr 3 o w' hg
  | true =>
    by_cases hl : lim ≤ cntU (isU sc z) us
    · have e : useR sec qs hs us sc z lim = Rs.err 24 := by unfold useR; rw [show useZ sec qs hs us sc z lim = 24 by unfold useZ; rw [hv, if_pos rfl, if_pos hl]]; rfl
      rw [e]
      exact (wal_Use_lim sec qs hs us Aa Ah Au na ca nh ch nu cu sc z lim S w hq hn hu ho hv hl h hS).mono fun o w' hg => herr 24 o w' hg
    · have h0 := hpos hv
      have e : useZ sec qs hs us sc z lim = 0 := by unfold useZ; rw [hv, if_pos rfl, if_neg hl]
      unfold useR
      rw [e, if_pos rfl]
      refine (wal_Use_ok sec qs hs us Aa Ah Au na ca nh ch nu cu sc z lim S w hq hn hu ho hv h0 (by omega) hlim hz (by omega) h hS).mono fun o w' hg => ?_
      obtain ⟨A1, c1, A2, c2, A3, n3, c3, e, rfl, hm, hb⟩ := hg
      subst hq hn
      exact ⟨A1, c1, A2, c2, A3, c3, e, hm.mono (fun g hg => .inr hg), hb⟩
end
end Go.Proofs.YtjhlddlocpkhkaaGreat
