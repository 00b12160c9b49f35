/- The reference: Store where the entry is not well; printed by genNm.py. The reference: Store for all arguments. The reference: Renew, the early errors; printed by genNm.py. -/
import Derived.Test.YtjhlddlocpkhkaaGreatWgJ31
import Derived.Test.YtjhlddlocpkhkaaGreatWgNk
import Derived.Test.YtjhlddlocpkhkaaGreatWgNg
import Derived.Test.YtjhlddlocpkhkaaGreatWgJ23
namespace Go.Proofs.YtjhlddlocpkhkaaGreat
open Go.RowKit
set_option maxRecDepth 100000
set_option linter.unusedVariables false
set_option maxHeartbeats 8000000
theorem r56_Store_bad (sec : ByteArray) (qs : List Az) (hs : List Hz) (us : List Uz) (Aa Ah Au : Option Addr) (na ca nh ch nu cu : Nat) (nc : ByteArray) (x : Hz) (A : Option Addr) (n c : Nat) (S : Nat → Prop) (w : World) (hq : qs.length = na) (hn : hs.length = nh) (hu : us.length = nu) (ho : WalOk qs hs us) (hv : validW sec qs hs us = true) (hc : (numsH x).all valid = true) (hnx : x.att.length = n) (hmn : n ≤ 1000) (hnl : (numsH x).length ≤ 100000) (hxv : -9223372036854775808 ≤ x.ver ∧ x.ver ≤ 9223372036854775807) (hxe : -9223372036854775808 ≤ x.ep ∧ x.ep ≤ 9223372036854775807) (hrow : RowC w S A n (cellsN x.att)) (h : WalM w S qs hs us Aa Ah Au) (hS : ∀ g, S g → g < w.heap.size) (qs' : List Az) (hs' : List Hz) (z : Int) (hz : z ≠ 0) (hle : (encOne (entOf ⟨#[104, 101, 108, 100]⟩ (heldI nc x))).length ≤ 200000000) (hok : (encS (entOf ⟨#[104, 101, 108, 100]⟩ (heldI nc x))).2 = z) (hren : ∀ W, Below w.heap.size w W → Calls Tryz.prog 36 #[.agg #[.string sec, .slice Aa na ca, .slice Ah nh ch, .slice Au nu cu], .string nc, valH x A n c] W (ChS S W sec qs' hs' us)) :
    Calls Tryz.prog 47 #[.agg #[.string sec, .slice Aa na ca, .slice Ah nh ch, .slice Au nu cu], .string nc, valH x A n c] w (ZeroErr w z) := by
  have HV := Lib.hid (fun W (hb : Below w.heap.size w W) => r56_Valid sec qs hs us Aa Ah Au na ca nh ch nu cu S W hq hn hu (by have := ho.na; omega) (by have := ho.nh; omega) (by have := ho.nu; omega) ho.att (h.keep (fun q hq => hb.cell (hS _ hq))) (fun g hg => Nat.lt_of_lt_of_le (hS g hg) hb.size))
  rw [hv] at HV
  have HNM := Lib.hid (fun W (hb : Below w.heap.size w W) => r56_numbers x A n c S W hnx (by omega) (hrow.keep (fun q hq => hb.cell (hS _ hq))) (fun g hg => Nat.lt_of_lt_of_le (hS g hg) hb.size))
  have HHI := Lib.hid (fun W (hb : Below w.heap.size w W) => r56_heldItem x A n c S W hnx hmn hxv hxe (hrow.keep (fun q hq => hb.cell (hS _ hq))) (fun g hg => Nat.lt_of_lt_of_le (hS g hg) hb.size))
  have HREN := Lib.hid hren
  have HSS := Lib.hid hS
  unfold ItOut at HHI
  dsimp only at HHI
  have hl9 : (heldL x).len = 9 := rfl
  rw [hl9] at HHI
  unfold valH at HNM HHI HREN ⊢
  unfold ChS at HREN
  have HWH := Lib.hid (fun W => r08_Text nc W)
  have HCAN := Lib.hid (fun A' n' c' W (hn' : n' = (numsH x).length) (hs : SLs W W.heap.size A' (numsH x)) => r56_canonical (numsH x) A' n' c' W.heap.size W hn'.symm (by omega) hs)
  rw [hc] at HCAN
  have HB0 := Lib.hid (BxB.start (w := w) (sec := sec) (Aa := Aa) (na := na) (ca := ca) (Ah := Ah) (nh := nh) (ch := ch) (Au := Au) (nu := nu) (cu := cu) (cs := #[.string x.iss, .string x.sch, .int .i64 x.ver, .slice A n c, .string x.a, .string x.e, .string x.v, .int .i64 x.ep, .string x.wit]) (T := 47))
  have HAC : Hid (∀ W, BxB w sec Aa na ca Ah nh ch Au nu cu #[.string x.iss, .string x.sch, .int .i64 x.ver, .slice A n c, .string x.a, .string x.e, .string x.v, .int .i64 x.ep, .string x.wit] 47 W → W.cell? ⟨w.heap.size + 1, 0, none⟩ = some (.string x.iss) ∧ W.cell? ⟨w.heap.size + 1, 1, none⟩ = some (.string x.sch) ∧ W.cell? ⟨w.heap.size + 1, 2, none⟩ = some (.int .i64 x.ver) ∧ W.cell? ⟨w.heap.size + 1, 3, none⟩ = some (.slice A n c) ∧ W.cell? ⟨w.heap.size + 1, 4, none⟩ = some (.string x.a) ∧ W.cell? ⟨w.heap.size + 1, 5, none⟩ = some (.string x.e) ∧ W.cell? ⟨w.heap.size + 1, 6, none⟩ = some (.string x.v) ∧ W.cell? ⟨w.heap.size + 1, 7, none⟩ = some (.int .i64 x.ep) ∧ W.cell? ⟨w.heap.size + 1, 8, none⟩ = some (.string x.wit)) := Lib.hid (fun W h => ⟨cell_of_row _ _ 0 _ _ _ h.arg, cell_of_row _ _ 1 _ _ _ h.arg, cell_of_row _ _ 2 _ _ _ h.arg, cell_of_row _ _ 3 _ _ _ h.arg, cell_of_row _ _ 4 _ _ _ h.arg, cell_of_row _ _ 5 _ _ _ h.arg, cell_of_row _ _ 6 _ _ _ h.arg, cell_of_row _ _ 7 _ _ _ h.arg, cell_of_row _ _ 8 _ _ _ h.arg⟩)
  have HLE := Lib.hid hle
  have HOK := Lib.hid hok
  have HSZ : Hid ((heldI nc x).size ≤ 10000) := Lib.hid (by unfold heldI heldL intIt; simp only [Its.size, natsI_size]; omega)
  clear h hS ho hq hn hu hv hc hrow hnl hren hle hok
  go_enter Tryz.func47, Tryz.ntmps47
  go_upto_region 3 with (first
    | (go_at_call 28; (with_reducible refine (HV.out _ HB0.out.bel).mono ?_); rintro e w1 ⟨rfl, hb1⟩; have HB1 := Lib.hid (HB0.out.next hb1); obtain ⟨q0, q1, q2, q3, q4, q5, q6, q7, q8⟩ := HAC.out _ HB1.out; clear hb1)
    | (go_at_call 72; (with_reducible refine (HNM.out _ HB1.out.bel).mono ?_); rintro e w2 ⟨A', n', c', rfl, hn', hs', hb2⟩; have HB2 := Lib.hid (HB1.out.next hb2); have HC2 := Lib.hid (HCAN.out A' n' c' w2 hn' hs'); clear hb2 hn' hs')
    | (go_at_call 71; (with_reducible refine HC2.out.mono ?_); rintro e w3 ⟨rfl, rfl⟩))
  clear q0 q1 q2 q3 q4 q5 q6 q7 q8 HC2 HB1 HB0
  obtain ⟨q0, q1, q2, q3, q4, q5, q6, q7, q8⟩ := HAC.out _ HB2.out
  obtain ⟨⟨x0, x1, x2, x3⟩, -⟩ := HB2.out.bc
  go_upto_region 4 with (go_at_call 36; (with_reducible refine (HREN.out _ HB2.out.bel).mono ?_); rintro e w3 ⟨A1, n1, c1, A2, n2, c2, A3, n3, c3, rfl, l1, l2, l3, hm3, hb3⟩; have HD := Lib.hid (AqR.start (S := S) (sec' := sec) (n1 := n1) (c1 := c1) (n2 := n2) (c2 := c2) (n3 := n3) (c3 := c3) HSS.out HB2.out hb3 hm3); have HL := Lib.hid (And.intro l1 (And.intro l2 l3)); clear hb3 hm3 l1 l2 l3)
  obtain ⟨w4, hw4⟩ : ∃ w4, w3.alloc (.cells #[.string sec, .slice A1 n1 c1, .slice A2 n2 c2, .slice A3 n3 c3] 27) = w4 := ⟨_, rfl⟩
  rw [hw4] at HD ⊢
  clear hw4 q0 q1 q2 q3 q4 q5 q6 q7 q8 x0 x1 x2 x3
  obtain ⟨b7, hb7⟩ : ∃ b, w3.heap.size = b := ⟨_, rfl⟩
  rw [hb7] at HD
  rw [hb7]
  clear hb7 HB2
  obtain ⟨P, hP⟩ : ∃ P : World → Prop, P = (fun W => AqR S w sec Aa na ca Ah nh ch Au nu cu #[.string x.iss, .string x.sch, .int .i64 x.ver, .slice A n c, .string x.a, .string x.e, .string x.v, .int .i64 x.ep, .string x.wit] 47 sec qs' hs' us A1 n1 c1 A2 n2 c2 A3 n3 c3 b7 W) := ⟨_, rfl⟩
  have HPN : Hid (∀ W w', P W → Below W.heap.size W w' → P w') := Lib.hid (by rw [hP]; exact fun W w' h hb => h.next hb)
  have HPA : Hid (∀ W, P W → AqR S w sec Aa na ca Ah nh ch Au nu cu #[.string x.iss, .string x.sch, .int .i64 x.ver, .slice A n c, .string x.a, .string x.e, .string x.v, .int .i64 x.ep, .string x.wit] 47 sec qs' hs' us A1 n1 c1 A2 n2 c2 A3 n3 c3 b7 W) := Lib.hid (by rw [hP]; exact fun W h => h)
  have H0 : Hid (RwK P (b7 + 1) [] w4) := Lib.hid ⟨by rw [hP]; exact HD.out, HD.out.hi, fun q hq => absurd hq (by simp)⟩
  clear hP
  have HCC : Hid (∀ L W, RwK P (b7 + 1) L W → W.cell? ⟨b7, 0, none⟩ = some (.string sec) ∧ W.cell? ⟨b7, 1, none⟩ = some (.slice A1 n1 c1) ∧ W.cell? ⟨b7, 2, none⟩ = some (.slice A2 n2 c2) ∧ W.cell? ⟨b7, 3, none⟩ = some (.slice A3 n3 c3) ∧ W.cell? ⟨w.heap.size + 1, 0, none⟩ = some (.string x.iss) ∧ W.cell? ⟨w.heap.size + 1, 1, none⟩ = some (.string x.sch) ∧ W.cell? ⟨w.heap.size + 1, 2, none⟩ = some (.int .i64 x.ver) ∧ W.cell? ⟨w.heap.size + 1, 3, none⟩ = some (.slice A n c) ∧ W.cell? ⟨w.heap.size + 1, 4, none⟩ = some (.string x.a) ∧ W.cell? ⟨w.heap.size + 1, 5, none⟩ = some (.string x.e) ∧ W.cell? ⟨w.heap.size + 1, 6, none⟩ = some (.string x.v) ∧ W.cell? ⟨w.heap.size + 1, 7, none⟩ = some (.int .i64 x.ep) ∧ W.cell? ⟨w.heap.size + 1, 8, none⟩ = some (.string x.wit)) := Lib.hid (fun L W h => by
    have ha := HPA.out W h.p
    obtain ⟨e0, e1, e2, e3⟩ := ha.wc
    exact ⟨e0, e1, e2, e3, HAC.out W ha.bx⟩)
  have HCS : Hid (∀ L W, RwK P (b7 + 1) L W → ∀ v0 v1 v2 v3, ((((W.setCell ⟨w.heap.size + 1 + 1, 0, none⟩ v0).setCell ⟨w.heap.size + 1 + 1, 1, none⟩ v1).setCell ⟨w.heap.size + 1 + 1, 2, none⟩ v2).setCell ⟨w.heap.size + 1 + 1, 3, none⟩ v3).cell? ⟨b7, 0, none⟩ = some (.string sec) ∧ ((((W.setCell ⟨w.heap.size + 1 + 1, 0, none⟩ v0).setCell ⟨w.heap.size + 1 + 1, 1, none⟩ v1).setCell ⟨w.heap.size + 1 + 1, 2, none⟩ v2).setCell ⟨w.heap.size + 1 + 1, 3, none⟩ v3).cell? ⟨b7, 1, none⟩ = some (.slice A1 n1 c1) ∧ ((((W.setCell ⟨w.heap.size + 1 + 1, 0, none⟩ v0).setCell ⟨w.heap.size + 1 + 1, 1, none⟩ v1).setCell ⟨w.heap.size + 1 + 1, 2, none⟩ v2).setCell ⟨w.heap.size + 1 + 1, 3, none⟩ v3).cell? ⟨b7, 2, none⟩ = some (.slice A2 n2 c2) ∧ ((((W.setCell ⟨w.heap.size + 1 + 1, 0, none⟩ v0).setCell ⟨w.heap.size + 1 + 1, 1, none⟩ v1).setCell ⟨w.heap.size + 1 + 1, 2, none⟩ v2).setCell ⟨w.heap.size + 1 + 1, 3, none⟩ v3).cell? ⟨b7, 3, none⟩ = some (.slice A3 n3 c3) ∧ ((((W.setCell ⟨w.heap.size + 1 + 1, 0, none⟩ v0).setCell ⟨w.heap.size + 1 + 1, 1, none⟩ v1).setCell ⟨w.heap.size + 1 + 1, 2, none⟩ v2).setCell ⟨w.heap.size + 1 + 1, 3, none⟩ v3).cell? ⟨w.heap.size + 1, 0, none⟩ = some (.string x.iss) ∧ ((((W.setCell ⟨w.heap.size + 1 + 1, 0, none⟩ v0).setCell ⟨w.heap.size + 1 + 1, 1, none⟩ v1).setCell ⟨w.heap.size + 1 + 1, 2, none⟩ v2).setCell ⟨w.heap.size + 1 + 1, 3, none⟩ v3).cell? ⟨w.heap.size + 1, 1, none⟩ = some (.string x.sch) ∧ ((((W.setCell ⟨w.heap.size + 1 + 1, 0, none⟩ v0).setCell ⟨w.heap.size + 1 + 1, 1, none⟩ v1).setCell ⟨w.heap.size + 1 + 1, 2, none⟩ v2).setCell ⟨w.heap.size + 1 + 1, 3, none⟩ v3).cell? ⟨w.heap.size + 1, 2, none⟩ = some (.int .i64 x.ver) ∧ ((((W.setCell ⟨w.heap.size + 1 + 1, 0, none⟩ v0).setCell ⟨w.heap.size + 1 + 1, 1, none⟩ v1).setCell ⟨w.heap.size + 1 + 1, 2, none⟩ v2).setCell ⟨w.heap.size + 1 + 1, 3, none⟩ v3).cell? ⟨w.heap.size + 1, 3, none⟩ = some (.slice A n c) ∧ ((((W.setCell ⟨w.heap.size + 1 + 1, 0, none⟩ v0).setCell ⟨w.heap.size + 1 + 1, 1, none⟩ v1).setCell ⟨w.heap.size + 1 + 1, 2, none⟩ v2).setCell ⟨w.heap.size + 1 + 1, 3, none⟩ v3).cell? ⟨w.heap.size + 1, 4, none⟩ = some (.string x.a) ∧ ((((W.setCell ⟨w.heap.size + 1 + 1, 0, none⟩ v0).setCell ⟨w.heap.size + 1 + 1, 1, none⟩ v1).setCell ⟨w.heap.size + 1 + 1, 2, none⟩ v2).setCell ⟨w.heap.size + 1 + 1, 3, none⟩ v3).cell? ⟨w.heap.size + 1, 5, none⟩ = some (.string x.e) ∧ ((((W.setCell ⟨w.heap.size + 1 + 1, 0, none⟩ v0).setCell ⟨w.heap.size + 1 + 1, 1, none⟩ v1).setCell ⟨w.heap.size + 1 + 1, 2, none⟩ v2).setCell ⟨w.heap.size + 1 + 1, 3, none⟩ v3).cell? ⟨w.heap.size + 1, 6, none⟩ = some (.string x.v) ∧ ((((W.setCell ⟨w.heap.size + 1 + 1, 0, none⟩ v0).setCell ⟨w.heap.size + 1 + 1, 1, none⟩ v1).setCell ⟨w.heap.size + 1 + 1, 2, none⟩ v2).setCell ⟨w.heap.size + 1 + 1, 3, none⟩ v3).cell? ⟨w.heap.size + 1, 7, none⟩ = some (.int .i64 x.ep) ∧ ((((W.setCell ⟨w.heap.size + 1 + 1, 0, none⟩ v0).setCell ⟨w.heap.size + 1 + 1, 1, none⟩ v1).setCell ⟨w.heap.size + 1 + 1, 2, none⟩ v2).setCell ⟨w.heap.size + 1 + 1, 3, none⟩ v3).cell? ⟨w.heap.size + 1, 8, none⟩ = some (.string x.wit)) := Lib.hid (fun L W h v0 v1 v2 v3 => by
    obtain ⟨e0, e1, e2, e3, e4, e5, e6, e7, e8, e9, e10, e11, e12⟩ := HCC.out L W h
    have hlo := (HPA.out W h.p).lo
    have hne : ∀ (V : World) (i : Nat) (u : Value) (p : Addr), p.block ≠ w.heap.size + 1 + 1 → (V.setCell ⟨w.heap.size + 1 + 1, i, none⟩ u).cell? p = V.cell? p := fun V i u p hp => World.cell?_setCell_other _ _ _ _ (fun e => by have := congrArg Addr.block e; simp at this; omega)
    have key : ∀ p : Addr, p.block ≠ w.heap.size + 1 + 1 → ((((W.setCell ⟨w.heap.size + 1 + 1, 0, none⟩ v0).setCell ⟨w.heap.size + 1 + 1, 1, none⟩ v1).setCell ⟨w.heap.size + 1 + 1, 2, none⟩ v2).setCell ⟨w.heap.size + 1 + 1, 3, none⟩ v3).cell? p = W.cell? p := fun p hp => by rw [hne _ _ _ _ hp, hne _ _ _ _ hp, hne _ _ _ _ hp, hne _ _ _ _ hp]
    exact ⟨(key ⟨b7, 0, none⟩ (by show b7 ≠ _; omega)).trans e0, (key ⟨b7, 1, none⟩ (by show b7 ≠ _; omega)).trans e1, (key ⟨b7, 2, none⟩ (by show b7 ≠ _; omega)).trans e2, (key ⟨b7, 3, none⟩ (by show b7 ≠ _; omega)).trans e3, (key ⟨w.heap.size + 1, 0, none⟩ (by show w.heap.size + 1 ≠ _; omega)).trans e4, (key ⟨w.heap.size + 1, 1, none⟩ (by show w.heap.size + 1 ≠ _; omega)).trans e5, (key ⟨w.heap.size + 1, 2, none⟩ (by show w.heap.size + 1 ≠ _; omega)).trans e6, (key ⟨w.heap.size + 1, 3, none⟩ (by show w.heap.size + 1 ≠ _; omega)).trans e7, (key ⟨w.heap.size + 1, 4, none⟩ (by show w.heap.size + 1 ≠ _; omega)).trans e8, (key ⟨w.heap.size + 1, 5, none⟩ (by show w.heap.size + 1 ≠ _; omega)).trans e9, (key ⟨w.heap.size + 1, 6, none⟩ (by show w.heap.size + 1 ≠ _; omega)).trans e10, (key ⟨w.heap.size + 1, 7, none⟩ (by show w.heap.size + 1 ≠ _; omega)).trans e11, (key ⟨w.heap.size + 1, 8, none⟩ (by show w.heap.size + 1 ≠ _; omega)).trans e12⟩)
  have HCH := Lib.hid (fun L W (h : RwK P (b7 + 1) L W) (B2 : Option Addr) (d2 : Nat) (m2 : (B2, heldL x) ∈ L) => r56_changed_bad sec A1 A2 A3 n1 c1 n2 c2 n3 c3 ⟨#[104, 101, 108, 100]⟩ (heldI nc x) (some ⟨W.heap.size, 0, none⟩) 2 _ (W.alloc (.cells #[.int .i64 1, .string ⟨#[]⟩, .string nc, .slice none 0 0, .int .i64 2, .string ⟨#[]⟩, .string ⟨#[]⟩, .slice B2 9 d2] 63)) HSZ.out (pair_row (l1 := .nil) (A1 := none) (m1 := 0) (c1 := 0) SlI.nil_ (h.mem _ m2) (fun g hg => hg.2) rfl rfl) (fun g hg => by { rcases hg with hg | hg; { have := hg.2; simp; omega }; { rw [hg]; simp } }) HLE.out z HOK.out hz)
  unfold ZeroErr at HCH
  have hl2 : (heldI nc x).len = 2 := rfl
  rw [hl2] at HCH
  obtain ⟨k0, k1, k2, k3, k4, k5, k6, k7, k8, k9, k10, k11, k12⟩ := HCC.out _ _ H0.out
  go_region_held3 (fun w' => w'.cell? ⟨b7, 0, none⟩ = some (.string sec) ∧ w'.cell? ⟨b7, 1, none⟩ = some (.slice A1 n1 c1) ∧ w'.cell? ⟨b7, 2, none⟩ = some (.slice A2 n2 c2) ∧ w'.cell? ⟨b7, 3, none⟩ = some (.slice A3 n3 c3) ∧ w'.cell? ⟨w.heap.size + 1, 0, none⟩ = some (.string x.iss) ∧ w'.cell? ⟨w.heap.size + 1, 1, none⟩ = some (.string x.sch) ∧ w'.cell? ⟨w.heap.size + 1, 2, none⟩ = some (.int .i64 x.ver) ∧ w'.cell? ⟨w.heap.size + 1, 3, none⟩ = some (.slice A n c) ∧ w'.cell? ⟨w.heap.size + 1, 4, none⟩ = some (.string x.a) ∧ w'.cell? ⟨w.heap.size + 1, 5, none⟩ = some (.string x.e) ∧ w'.cell? ⟨w.heap.size + 1, 6, none⟩ = some (.string x.v) ∧ w'.cell? ⟨w.heap.size + 1, 7, none⟩ = some (.int .i64 x.ep) ∧ w'.cell? ⟨w.heap.size + 1, 8, none⟩ = some (.string x.wit)) (first | exact HCC.out _ _ H9.out | exact HCS.out _ _ H9.out _ _ _ _ | exact HCC.out _ _ H0.out | exact HCC.out _ _ (H0.out.next HPN.out (Below.refl _ _).drew) | exact HCC.out _ _ (H0.out.next HPN.out ((Below.refl _ _).alloc (Nat.le_refl _) _)) | exact HCC.out _ _ ((H0.out.next HPN.out (Below.refl _ _).drew).next HPN.out ((Below.refl _ _).alloc (Nat.le_refl _) _)) | go_keep) (first
    | (go_at_call 83; (with_reducible refine (HWH.out _).mono ?_); rintro e w1 ⟨rfl, hb1⟩; have n1' := (by first | exact H0.out.next HPN.out hb1 | exact (H0.out.next HPN.out (Below.refl _ _).drew).next HPN.out hb1 : RwK P (b7 + 1) _ w1); replace H0 := Lib.hid n1'; clear n1')
    | (go_at_call 84; (first | (with_reducible refine (HHI.out _ (HPA.out _ H0.out.p).bx.bel).mono ?_) | (with_reducible refine (HHI.out _ (HPA.out _ (H0.out.next HPN.out (Below.refl _ _).drew).p).bx.bel).mono ?_)); rintro e w1 ⟨A6, c6, rfl, hsl1, hb1⟩; have n1' := (by first | exact H0.out.add HPN.out hsl1 hb1 | exact (H0.out.next HPN.out (Below.refl _ _).drew).add HPN.out hsl1 hb1 : RwK P (b7 + 1) _ w1); replace H0 := Lib.hid n1'; clear n1')
    | (go_at_call 81; (first | (with_reducible refine (HCH.out _ _ H0.out A6 c6 (by simp)).mono ?_) | (with_reducible refine (HCH.out _ _ (H0.out.next HPN.out (Below.refl _ _).drew) A6 c6 (by simp)).mono ?_)); rintro e w9 ⟨rfl, hb9⟩; have n9 := (by first | exact (H0.out.next HPN.out ((Below.refl _ _).alloc (Nat.le_refl _) _)).next HPN.out hb9 | exact ((H0.out.next HPN.out (Below.refl _ _).drew).next HPN.out ((Below.refl _ _).alloc (Nat.le_refl _) _)).next HPN.out hb9 : RwK P (b7 + 1) _ w9); obtain ⟨⟨r0, r1, r2, r3⟩, g0, g1, g2, g3⟩ := (HPA.out _ n9.p).bx.rc; have H9 := Lib.hid n9; clear n9 hb9))
  all_goals
    go_wp2_with fail
    refine bodyPost_ret (v := .tuple #[.agg #[.string ⟨#[]⟩, .slice none 0 0, .slice none 0 0, .slice none 0 0], .string ⟨#[]⟩, .int .i64 z]) (by simp [results, Tryz.results47, go_sem, r0, r1, r2, r3]) rfl ?_
    exact ⟨rfl, (HPA.out _ H9.out.p).bx.zero _ _ _ _⟩
theorem r56_store_gotR (sec : ByteArray) (qs : List Az) (hs : List Hz) (us : List Uz) (Aa Ah Au : Option Addr) (na ca nh ch nu cu : Nat) (S : Nat → Prop) (w : World) (ho : WalOk qs hs us) (hq : qs.length = na) (hn : hs.length = nh) (hu : us.length = nu) (h : WalM w S qs hs us Aa Ah Au) (hS : ∀ g, S g → g < w.heap.size)
    (nc : ByteArray) (x : Hz) (A : Option Addr) (n c : Nat) (hnc : nc.size ≤ 1000) (hx10 : x.att.length ≤ 10) (hxs : sizeH x ≤ 600) (hnx : x.att.length = n) (hxv : -9223372036854775808 ≤ x.ver ∧ x.ver ≤ 9223372036854775807) (hxe : -9223372036854775808 ≤ x.ep ∧ x.ep ≤ 9223372036854775807) (hrow : RowC w S A n (cellsN x.att)) :
    Calls Tryz.prog 47 #[.agg #[.string sec, .slice Aa na ca, .slice Ah nh ch, .slice Au nu cu], .string nc, valH x A n c] w (GotR3 S w (storeR sec qs hs us nc x)) := by
  have hmn : n ≤ 1000 := by omega
  have hnl : (numsH x).length ≤ 100000 := by unfold numsH; rw [List.length_append]; simp; omega
  have hle := heldI_le nc x (by omega) hxv hxe (by omega) (by omega)
  have hk : ∀ W, Below w.heap.size w W → WalM W S qs hs us Aa Ah Au := fun W hb => h.keep (fun q hq => hb.cell (hS _ hq))
  have hr : ∀ W, Below w.heap.size w W → RowC W S A n (cellsN x.att) := fun W hb => hrow.keep (fun q hq => hb.cell (hS _ hq))
  have hs' : ∀ W, Below w.heap.size w W → ∀ g, S g → g < W.heap.size := fun W hb g hg => Nat.lt_of_lt_of_le (hS g hg) hb.size
  have herr : ∀ (z : Int) o w', z ≠ 0 → storeZ sec qs hs us nc x = z → ZeroErr w z o w' → GotR3 S w (storeR sec qs hs us nc x) o w' := fun z o w' hz hzz hg => by
    unfold storeR
    rw [hzz, if_neg hz]
    exact gotR3_err hg
  cases hv : validW sec qs hs us with
  | false => exact (r56_Store_inv sec qs hs us Aa Ah Au na ca nh ch nu cu nc x A n c S w hq hn hu ho hv h hS).mono fun o w' h => herr 3 o w' (by decide) (by unfold storeZ; rw [hv]; rfl) h
  | true =>
    have hva : validA [] qs = true := by
      have hv' := hv
      unfold validW at hv'
      simp only [Bool.and_eq_true] at hv'
      exact hv'.2.1
    cases hc : (numsH x).all valid with
    | false => exact (r56_Store_can sec qs hs us Aa Ah Au na ca nh ch nu cu nc x A n c S w hq hn hu ho hv hc hnx hmn hnl hrow h hS).mono fun o w' h => herr 3 o w' (by decide) (by unfold storeZ; rw [hv, hc]; rfl) h
    | true =>
      have hst := fun W hb => r56_store sec qs hs us Aa Ah Au na ca nh ch nu cu nc x A n c S W hq hn hu (by have := ho.na; omega) (by have := ho.nh; omega) hva hnx (hr W hb) (hk W hb) (hs' W hb)
      cases hfd : qs.find? (isA nc) with
      | none =>
        exact (r56_Store_err sec qs hs us Aa Ah Au na ca nh ch nu cu nc x A n c S w hq hn hu ho hv hc hnx hmn hnl hxv hxe hrow h hS 9 (by decide) (fun W hb => (hst W hb).mono fun o w' h' => by
          rcases h' with h' | ⟨y, h', _⟩
          · exact h'.2
          · rw [hfd] at h'; cases h')).mono fun o w' h => herr 9 o w' (by decide) (by unfold storeZ; rw [hv, hc, if_pos rfl, if_pos rfl, hfd]) h
      | some y =>
        have hZ : ∀ c : Int, (if badS x y = true then 1 else (encS (entOf ⟨#[104, 101, 108, 100]⟩ (heldI nc x))).2) = c → storeZ sec qs hs us nc x = c := fun c hc' => by
          unfold storeZ
          rw [hv, hc, if_pos rfl, if_pos rfl, hfd]
          exact hc'
        cases hbad : badS x y with
        | true =>
          exact (r56_Store_err sec qs hs us Aa Ah Au na ca nh ch nu cu nc x A n c S w hq hn hu ho hv hc hnx hmn hnl hxv hxe hrow h hS 1 (by decide) (fun W hb => (hst W hb).mono fun o w' h' => by
            rcases h' with h' | ⟨y', e, h' | h'⟩
            · rw [hfd] at h'; cases h'.1
            · exact h'.2
            · rw [hfd] at e; injection e with e; subst e; rw [hbad] at h'; cases h'.1)).mono fun o w' h => herr 1 o w' (by decide) (hZ 1 (by rw [hbad]; rfl)) h
        | false =>
          have hok := fun W hb => (hst W hb).mono (R' := ChS S W sec (qs.filter (fun y => !isA nc y)) (hs ++ [x]) us) fun o w' h' => by
            rcases h' with h' | ⟨y', e, h' | h'⟩
            · rw [hfd] at h'; cases h'.1
            · rw [hfd] at e; injection e with e; subst e; rw [hbad] at h'; cases h'.1
            · exact h'.2
          by_cases hz : (encS (entOf ⟨#[104, 101, 108, 100]⟩ (heldI nc x))).2 = 0
          · refine (r56_Store_good sec qs hs us Aa Ah Au na ca nh ch nu cu nc x A n c S w hq hn hu ho hv hc hnx hmn hnl hxv hxe hrow h hS _ _ hle hz hok).mono fun o w' h => ?_
            unfold storeR
            rw [hZ 0 (by rw [hbad]; exact hz), if_pos rfl]
            exact gotS3_good h
          · exact (r56_Store_bad sec qs hs us Aa Ah Au na ca nh ch nu cu nc x A n c S w hq hn hu ho hv hc hnx hmn hnl hxv hxe hrow h hS _ _ _ hz hle rfl hok).mono fun o w' h => herr _ o w' hz (hZ _ (by rw [hbad]; rfl)) h
theorem r56_Renew_inv (sec : ByteArray) (qs : List Az) (hs : List Hz) (us : List Uz) (Aa Ah Au : Option Addr) (na ca nh ch nu cu : Nat) (k : Int) (x : Hz) (A : Option Addr) (n c : Nat) (S : Nat → Prop) (w : World) (hq : qs.length = na) (hn : hs.length = nh) (hu : us.length = nu) (ho : WalOk qs hs us) (hv : validW sec qs hs us = false) (h : WalM w S qs hs us Aa Ah Au) (hS : ∀ g, S g → g < w.heap.size) :
    Calls Tryz.prog 48 #[.agg #[.string sec, .slice Aa na ca, .slice Ah nh ch, .slice Au nu cu], .int .i64 k, valH x A n c] w (ZeroErr w 3) := by
  unfold valH
  have HV := Lib.hid (fun W (hb : Below w.heap.size w W) => r56_Valid sec qs hs us Aa Ah Au na ca nh ch nu cu S W hq hn hu (by have := ho.na; omega) (by have := ho.nh; omega) (by have := ho.nu; omega) ho.att (h.keep (fun q hq => hb.cell (hS _ hq))) (fun g hg => Nat.lt_of_lt_of_le (hS g hg) hb.size))
  rw [hv] at HV
  have HB0 := Lib.hid (BxB.start (w := w) (sec := sec) (Aa := Aa) (na := na) (ca := ca) (Ah := Ah) (nh := nh) (ch := ch) (Au := Au) (nu := nu) (cu := cu) (cs := #[.string x.iss, .string x.sch, .int .i64 x.ver, .slice A n c, .string x.a, .string x.e, .string x.v, .int .i64 x.ep, .string x.wit]) (T := 47))
  clear h hS ho hq hn hu hv
  go_enter Tryz.func48, Tryz.ntmps48
  go_wp2_with (go_at_call 28; (with_reducible refine (HV.out _ HB0.out.bel).mono ?_); rintro e w1 ⟨rfl, hb1⟩; have HB1 := Lib.hid (HB0.out.next hb1); obtain ⟨⟨r0, r1, r2, r3⟩, g0, g1, g2, g3⟩ := HB1.out.rc; clear hb1)
  refine bodyPost_ret (v := .tuple #[.agg #[.string ⟨#[]⟩, .slice none 0 0, .slice none 0 0, .slice none 0 0], .string ⟨#[]⟩, .int .i64 3]) (by simp [results, Tryz.results48, go_sem, r0, r1, r2, r3]) rfl ?_
  exact ⟨rfl, HB1.out.zero _ _ _ _⟩
theorem r56_Renew_can (sec : ByteArray) (qs : List Az) (hs : List Hz) (us : List Uz) (Aa Ah Au : Option Addr) (na ca nh ch nu cu : Nat) (k : Int) (x : Hz) (A : Option Addr) (n c : Nat) (S : Nat → Prop) (w : World) (hq : qs.length = na) (hn : hs.length = nh) (hu : us.length = nu) (ho : WalOk qs hs us) (hv : validW sec qs hs us = true) (hc : (numsH x).all valid = false) (hnx : x.att.length = n) (hmn : n ≤ 1000) (hnl : (numsH x).length ≤ 100000) (hrow : RowC w S A n (cellsN x.att)) (h : WalM w S qs hs us Aa Ah Au) (hS : ∀ g, S g → g < w.heap.size) :
    Calls Tryz.prog 48 #[.agg #[.string sec, .slice Aa na ca, .slice Ah nh ch, .slice Au nu cu], .int .i64 k, valH x A n c] w (ZeroErr w 3) := by
  have HV := Lib.hid (fun W (hb : Below w.heap.size w W) => r56_Valid sec qs hs us Aa Ah Au na ca nh ch nu cu S W hq hn hu (by have := ho.na; omega) (by have := ho.nh; omega) (by have := ho.nu; omega) ho.att (h.keep (fun q hq => hb.cell (hS _ hq))) (fun g hg => Nat.lt_of_lt_of_le (hS g hg) hb.size))
  rw [hv] at HV
  have HNM := Lib.hid (fun W (hb : Below w.heap.size w W) => r56_numbers x A n c S W hnx (by omega) (hrow.keep (fun q hq => hb.cell (hS _ hq))) (fun g hg => Nat.lt_of_lt_of_le (hS g hg) hb.size))
  unfold valH at HNM ⊢
  have HCAN := Lib.hid (fun A' n' c' W (hn' : n' = (numsH x).length) (hs : SLs W W.heap.size A' (numsH x)) => r56_canonical (numsH x) A' n' c' W.heap.size W hn'.symm (by omega) hs)
  rw [hc] at HCAN
  have HB0 := Lib.hid (BxB.start (w := w) (sec := sec) (Aa := Aa) (na := na) (ca := ca) (Ah := Ah) (nh := nh) (ch := ch) (Au := Au) (nu := nu) (cu := cu) (cs := #[.string x.iss, .string x.sch, .int .i64 x.ver, .slice A n c, .string x.a, .string x.e, .string x.v, .int .i64 x.ep, .string x.wit]) (T := 47))
  have HAC : Hid (∀ W, BxB w sec Aa na ca Ah nh ch Au nu cu #[.string x.iss, .string x.sch, .int .i64 x.ver, .slice A n c, .string x.a, .string x.e, .string x.v, .int .i64 x.ep, .string x.wit] 47 W → W.cell? ⟨w.heap.size + 1, 0, none⟩ = some (.string x.iss) ∧ W.cell? ⟨w.heap.size + 1, 1, none⟩ = some (.string x.sch) ∧ W.cell? ⟨w.heap.size + 1, 2, none⟩ = some (.int .i64 x.ver) ∧ W.cell? ⟨w.heap.size + 1, 3, none⟩ = some (.slice A n c) ∧ W.cell? ⟨w.heap.size + 1, 4, none⟩ = some (.string x.a) ∧ W.cell? ⟨w.heap.size + 1, 5, none⟩ = some (.string x.e) ∧ W.cell? ⟨w.heap.size + 1, 6, none⟩ = some (.string x.v) ∧ W.cell? ⟨w.heap.size + 1, 7, none⟩ = some (.int .i64 x.ep) ∧ W.cell? ⟨w.heap.size + 1, 8, none⟩ = some (.string x.wit)) := Lib.hid (fun W h => ⟨cell_of_row _ _ 0 _ _ _ h.arg, cell_of_row _ _ 1 _ _ _ h.arg, cell_of_row _ _ 2 _ _ _ h.arg, cell_of_row _ _ 3 _ _ _ h.arg, cell_of_row _ _ 4 _ _ _ h.arg, cell_of_row _ _ 5 _ _ _ h.arg, cell_of_row _ _ 6 _ _ _ h.arg, cell_of_row _ _ 7 _ _ _ h.arg, cell_of_row _ _ 8 _ _ _ h.arg⟩)
  clear h hS ho hq hn hu hv hc hrow hnl
  go_enter Tryz.func48, Tryz.ntmps48
  go_wp2_with (first
    | (go_at_call 28; (with_reducible refine (HV.out _ HB0.out.bel).mono ?_); rintro e w1 ⟨rfl, hb1⟩; have HB1 := Lib.hid (HB0.out.next hb1); obtain ⟨q0, q1, q2, q3, q4, q5, q6, q7, q8⟩ := HAC.out _ HB1.out; clear hb1)
    | (go_at_call 72; (with_reducible refine (HNM.out _ HB1.out.bel).mono ?_); rintro e w2 ⟨A', n', c', rfl, hn', hs', hb2⟩; have HB2 := Lib.hid (HB1.out.next hb2); have HC2 := Lib.hid (HCAN.out A' n' c' w2 hn' hs'); obtain ⟨⟨r0, r1, r2, r3⟩, g0, g1, g2, g3⟩ := HB2.out.rc; clear hb2 hn' hs')
    | (go_at_call 71; (with_reducible refine HC2.out.mono ?_); rintro e w3 ⟨rfl, rfl⟩))
  refine bodyPost_ret (v := .tuple #[.agg #[.string ⟨#[]⟩, .slice none 0 0, .slice none 0 0, .slice none 0 0], .string ⟨#[]⟩, .int .i64 3]) (by simp [results, Tryz.results48, go_sem, r0, r1, r2, r3]) rfl ?_
  exact ⟨rfl, HB2.out.zero _ _ _ _⟩
end Go.Proofs.YtjhlddlocpkhkaaGreat
