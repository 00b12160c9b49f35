/- Wallet: the reference's comparisons, at two equal lists, credentials, wallets. -/
import Derived.Test.YtjhlddlocpkhkaaGreatWhJ28
namespace Go.Proofs.YtjhlddlocpkhkaaGreat
open Go.RowKit
set_option maxRecDepth 100000
set_option linter.unusedVariables false
set_option maxHeartbeats 8000000
theorem r06_SameRows (l : List ByteArray) (A A' : Option Addr) (n c c' : Nat) (S : Nat → Prop) (w : World) (hn : l.length = n) (hm : n ≤ 100000) (h : RowC w S A n (cellsN l)) (h' : RowC w S A' n (cellsN l)) (hS : ∀ g, S g → g < w.heap.size) :
    Calls Tryz.prog 111 #[.slice A n c, .slice A' n c'] w fun e w' => e = .returned (.bool true) ∧ Below w.heap.size w w' := by
  have HN := Lib.hid hn
  have HM := Lib.hid hm
  have H1 := Lib.hid h
  have H2 := Lib.hid h'
  have HS := Lib.hid hS
  clear h h' hn hm hS
  go_enter Tryz.func111, Tryz.ntmps111
  go_wp2_with fail
  go_loopw [5] (fun v wr => ∃ k : Nat, v = .int .i64 k ∧ k ≤ n ∧ Below w.heap.size w wr) (fun v _ => n - (intOf v).toNat)
  case atStart => exact ⟨0, rfl, Nat.zero_le _, Below.refl _ _⟩
  case round =>
    obtain ⟨k, rfl, hk, hb⟩ := hrel
    have HBE := Lib.hid hb
    by_cases hlt : k < n
    · obtain ⟨x, hx⟩ : ∃ x, l[k]? = some x := ⟨l[k]'(by rw [HN.out]; exact hlt), List.getElem?_eq_getElem _⟩
      have hxc : (cellsN l)[k]? = some (.string x) := by unfold cellsN; rw [List.getElem?_map, hx]; rfl
      obtain ⟨g, off, rfl, hsg, hc⟩ := H1.out (by omega)
      obtain ⟨g', off', rfl, hsg', hc'⟩ := H2.out (by omega)
      have z0 := (hb.cell (p := ⟨g, off + k, none⟩) (HS.out _ hsg)).trans (hc _ _ hxc)
      have z1 := (hb.cell (p := ⟨g', off' + k, none⟩) (HS.out _ hsg')).trans (hc' _ _ hxc)
      have HLT := Lib.hid hlt
      have k1 : decide ((k : Int) < (n : Int)) = true := decide_eq_true (by omega)
      have k2 : (k : Int) < (n : Int) := by omega
      have k3 : (0 : Int) ≤ (k : Int) := by omega
      have HW := Lib.hid (show wrap64 ((k : Int) + 1) = (k : Int) + 1 from IntWalk.wrap64_in _ (by have := HM.out; omega))
      clear hb hx hxc hlt hk hc hc' hsg hsg'
      go_wp2_with fail
      go_quiet (fail)
      go_wp2_with fail
      refine ⟨⟨k + 1, by rw [HW.out]; rfl, HLT.out, below_drewN HBE.out _⟩, ?_⟩
      rw [HW.out]
      have := HLT.out
      show n - ((k : Int) + 1).toNat < n - (k : Int).toNat
      omega
    · have k1 : decide ((k : Int) < (n : Int)) = false := decide_eq_false (by omega)
      obtain rfl : k = n := by omega
      clear hb hlt hk
      go_wp2_with fail
      go_ret
      exact ⟨rfl, HBE.out⟩
theorem r56_sameCredential (x : Hz) (A A' : Option Addr) (n c c' : Nat) (S : Nat → Prop) (w : World) (hn : x.att.length = n) (hm : n ≤ 100000) (h : RowC w S A n (cellsN x.att)) (h' : RowC w S A' n (cellsN x.att)) (hS : ∀ g, S g → g < w.heap.size) :
    Calls Tryz.prog 76 #[valC x A n c, valC x A' n c'] w fun e w' => e = .returned (.bool true) ∧ Below w.heap.size w w' := by
  unfold valC
  have HK := Lib.hid (fun W (hb : Below w.heap.size w W) => r06_SameRows x.att A A' n c c' S W hn hm (h.keep (fun p hp => hb.cell (hS _ hp))) (h'.keep (fun p hp => hb.cell (hS _ hp))) (fun g hg => Nat.lt_of_lt_of_le (hS g hg) hb.size))
  have HB : Hid (Below w.heap.size w ((w.alloc (.cells #[.string x.iss, .string x.sch, .int .i64 x.ver, .slice A n c, .string x.a, .string x.e, .string x.v] 45)).alloc (.cells #[.string x.iss, .string x.sch, .int .i64 x.ver, .slice A' n c', .string x.a, .string x.e, .string x.v] 45))) := Lib.hid (((Below.refl _ _).alloc (Nat.le_refl _) _).alloc (by simp) _)
  clear h h' hS hn hm
  go_enter Tryz.func76, Tryz.ntmps76
  go_wp2_with (go_at_call 111; (with_reducible refine (HK.out _ HB.out).mono ?_); rintro e w1 ⟨rfl, hb1⟩; have HB1 := Lib.hid (below2 HB.out hb1); clear hb1)
  go_ret
  exact ⟨rfl, HB1.out⟩
theorem r56_SameHeld (x : Hz) (A A' : Option Addr) (n c c' : Nat) (S : Nat → Prop) (w : World) (hn : x.att.length = n) (hm : n ≤ 100000) (h : RowC w S A n (cellsN x.att)) (h' : RowC w S A' n (cellsN x.att)) (hS : ∀ g, S g → g < w.heap.size) :
    Calls Tryz.prog 42 #[valH x A n c, valH x A' n c'] w fun e w' => e = .returned (.bool true) ∧ Below w.heap.size w w' := by
  have HK := Lib.hid (fun W (hb : Below w.heap.size w W) => r56_sameCredential x A A' n c c' S W hn hm (h.keep (fun p hp => hb.cell (hS _ hp))) (h'.keep (fun p hp => hb.cell (hS _ hp))) (fun g hg => Nat.lt_of_lt_of_le (hS g hg) hb.size))
  unfold valH
  unfold valC at HK
  have HB : Hid (Below w.heap.size w ((w.alloc (.cells #[.string x.iss, .string x.sch, .int .i64 x.ver, .slice A n c, .string x.a, .string x.e, .string x.v, .int .i64 x.ep, .string x.wit] 47)).alloc (.cells #[.string x.iss, .string x.sch, .int .i64 x.ver, .slice A' n c', .string x.a, .string x.e, .string x.v, .int .i64 x.ep, .string x.wit] 47))) := Lib.hid (((Below.refl _ _).alloc (Nat.le_refl _) _).alloc (by simp) _)
  have HE := Lib.hid (two_boxes w (.cells #[.string x.iss, .string x.sch, .int .i64 x.ver, .slice A n c, .string x.a, .string x.e, .string x.v, .int .i64 x.ep, .string x.wit] 47) (.cells #[.string x.iss, .string x.sch, .int .i64 x.ver, .slice A' n c', .string x.a, .string x.e, .string x.v, .int .i64 x.ep, .string x.wit] 47))
  clear h h' hS hn hm
  go_enter Tryz.func42, Tryz.ntmps42
  go_wp2_with (go_at_call 76; (with_reducible refine (HK.out _ HB.out).mono ?_); rintro e w1 ⟨rfl, hb1⟩; have HB1 := Lib.hid (below2 HB.out hb1); have he1 := (hb1.block _ (by simp; omega)).trans HE.out.1; have he2 := (hb1.block _ (by simp)).trans HE.out.2; have z7 := cell_of_row _ _ 7 _ _ _ he1; have z8 := cell_of_row _ _ 8 _ _ _ he1; have y7 := cell_of_row _ _ 7 _ _ _ he2; have y8 := cell_of_row _ _ 8 _ _ _ he2; clear hb1 he1 he2)
  go_ret
  exact ⟨rfl, HB1.out⟩
/-- The boxes of Same. -/
structure SmB (w : World) (ca cb : Array Value) (W : World) : Prop where
  one : W.heap[w.heap.size]? = some (.cells ca 27 (0, 0))
  two : W.heap[w.heap.size + 1]? = some (.cells cb 27 (0, 0))
  bel : Below w.heap.size w W
  size : w.heap.size + 2 ≤ W.heap.size
theorem SmB.next {w W w' : World} {ca cb : Array Value} (h : SmB w ca cb W) (hb : Below W.heap.size W w') : SmB w ca cb w' :=
  ⟨(hb.block _ (by have := h.size; omega)).trans h.one, (hb.block _ (by have := h.size; omega)).trans h.two, below2 h.bel hb, Nat.le_trans h.size hb.size⟩
theorem SmB.start {w : World} {ca cb : Array Value} : SmB w ca cb ((w.alloc (.cells ca 27)).alloc (.cells cb 27)) :=
  ⟨(two_boxes w _ _).1, (two_boxes w _ _).2, ((Below.refl _ _).alloc (Nat.le_refl _) _).alloc (by simp) _, by simp⟩
theorem r56_Same (sec : ByteArray) (qs : List Az) (hs : List Hz) (us : List Uz) (Aa Ah Au Ba Bh Bu : Option Addr) (na ca nh ch nu cu da dh du : Nat) (S : Nat → Prop) (w : World) (hq : qs.length = na) (hn : hs.length = nh) (hu : us.length = nu) (hma : na ≤ 100000) (hmh : nh ≤ 100000) (hmu : nu ≤ 100000) (hatt : ∀ x ∈ hs, x.att.length ≤ 100000) (h : WalM w S qs hs us Aa Ah Au) (h' : WalM w S qs hs us Ba Bh Bu) (hS : ∀ g, S g → g < w.heap.size) :
    Calls Tryz.prog 9 #[.agg #[.string sec, .slice Aa na ca, .slice Ah nh ch, .slice Au nu cu], .agg #[.string sec, .slice Ba na da, .slice Bh nh dh, .slice Bu nu du]] w fun e w' => e = .returned (.bool true) ∧ Below w.heap.size w w' := by
  have HB0 := Lib.hid (SmB.start (w := w) (ca := #[.string sec, .slice Aa na ca, .slice Ah nh ch, .slice Au nu cu]) (cb := #[.string sec, .slice Ba na da, .slice Bh nh dh, .slice Bu nu du]))
  have HQ := Lib.hid (And.intro hq (And.intro hn (And.intro hu (And.intro hma (And.intro hmh (And.intro hmu hatt))))))
  have HM := Lib.hid (And.intro h (And.intro h' hS))
  have HSH := Lib.hid (fun (x : Hz) (hx : x.att.length ≤ 100000) A A' c c' W (hb : Below w.heap.size w W) (r : RowC w S A x.att.length (cellsN x.att)) (r' : RowC w S A' x.att.length (cellsN x.att)) => r56_SameHeld x A A' x.att.length c c' S W rfl hx (r.keep (fun p hp => hb.cell (hS _ hp))) (r'.keep (fun p hp => hb.cell (hS _ hp))) (fun g hg => Nat.lt_of_lt_of_le (hS g hg) hb.size))
  unfold valH at HSH
  clear h h' hS hq hn hu hma hmh hmu hatt
  go_enter Tryz.func9, Tryz.ntmps9
  go_upto_region 3 with fail
  go_wp2_with fail
  go_loopw [5] (fun v wr => ∃ k : Nat, v = .int .i64 k ∧ k ≤ na ∧ SmB w #[.string sec, .slice Aa na ca, .slice Ah nh ch, .slice Au nu cu] #[.string sec, .slice Ba na da, .slice Bh nh dh, .slice Bu nu du] wr) (fun v _ => na - (intOf v).toNat)
  case atStart => exact ⟨0, rfl, Nat.zero_le _, HB0.out⟩
  case round =>
    obtain ⟨k, rfl, hk, hb⟩ := hrel
    have HBE := Lib.hid hb
    have a1 := cell_of_row _ _ 1 _ _ _ hb.one
    have b1 := cell_of_row _ _ 1 _ _ _ hb.two
    by_cases hlt : k < na
    · obtain ⟨⟨qi, qc, qn, qx, qb⟩, hx⟩ : ∃ u, qs[k]? = some u := ⟨qs[k]'(by rw [HQ.out.1]; exact hlt), List.getElem?_eq_getElem _⟩
      obtain ⟨g, off, rfl, hsg, y0, y1, y2, y3, y4⟩ := SlA.at_ (RowC.keep HM.out.1.a (fun p hp => hb.bel.cell (HM.out.2.2 _ hp))) hx
      obtain ⟨g', off', rfl, hsg', z0, z1, z2, z3, z4⟩ := SlA.at_ (RowC.keep HM.out.2.1.a (fun p hp => hb.bel.cell (HM.out.2.2 _ hp))) hx
      have HLT := Lib.hid hlt
      have k1 : decide ((k : Int) < (na : Int)) = true := decide_eq_true (by omega)
      have k2 : (k : Int) < (na : Int) := by omega
      have k3 : (0 : Int) ≤ (k : Int) := by omega
      have HW := Lib.hid (show wrap64 ((k : Int) + 1) = (k : Int) + 1 from IntWalk.wrap64_in _ (by have := HQ.out.2.2.2.1; omega))
      clear hb hx hlt hk hsg hsg' HM HSH HB0 HQ
      go_wp2_with fail
      go_quiet (fail)
      go_wp2_with fail
      refine ⟨⟨k + 1, by rw [HW.out]; rfl, HLT.out, HBE.out.next (below_drewN (Below.refl _ _) _)⟩, ?_⟩
      rw [HW.out]
      have := HLT.out
      show na - ((k : Int) + 1).toNat < na - (k : Int).toNat
      omega
    · have k1 : decide ((k : Int) < (na : Int)) = false := decide_eq_false (by omega)
      obtain rfl : na = k := by omega
      clear hb hlt hk HB0
      go_wp2_with fail
      go_loopw [6] (fun v wr => ∃ k : Nat, v = .int .i64 k ∧ k ≤ nh ∧ SmB w #[.string sec, .slice Aa na ca, .slice Ah nh ch, .slice Au nu cu] #[.string sec, .slice Ba na da, .slice Bh nh dh, .slice Bu nu du] wr) (fun v _ => nh - (intOf v).toNat)
      case atStart => exact ⟨0, rfl, Nat.zero_le _, HBE.out⟩
      case round =>
        clear HBE a1 b1 k1
        obtain ⟨k, rfl, hk, hb⟩ := hrel
        have HBE := Lib.hid hb
        have a1 := cell_of_row _ _ 2 _ _ _ hb.one
        have b1 := cell_of_row _ _ 2 _ _ _ hb.two
        by_cases hlt : k < nh
        · obtain ⟨x, hx⟩ : ∃ u, hs[k]? = some u := ⟨hs[k]'(by rw [HQ.out.2.1]; exact hlt), List.getElem?_eq_getElem _⟩
          obtain ⟨g, off, A1, c1, rfl, hsg, hr1, hc1⟩ := SlH.at_ HM.out.1.h hx
          obtain ⟨g', off', A2, c2, rfl, hsg', hr2, hc2⟩ := SlH.at_ HM.out.2.1.h hx
          have y0 : wr.cell? ⟨g, off + k * 9, none⟩ = some (.string x.iss) := (hb.bel.cell (HM.out.2.2 _ hsg)).trans (hc1 0 _ rfl)
          have z0 : wr.cell? ⟨g', off' + k * 9, none⟩ = some (.string x.iss) := (hb.bel.cell (HM.out.2.2 _ hsg')).trans (hc2 0 _ rfl)
          have y1 : wr.cell? ⟨g, off + k * 9 + 1, none⟩ = some (.string x.sch) := (hb.bel.cell (HM.out.2.2 _ hsg)).trans (hc1 1 _ rfl)
          have z1 : wr.cell? ⟨g', off' + k * 9 + 1, none⟩ = some (.string x.sch) := (hb.bel.cell (HM.out.2.2 _ hsg')).trans (hc2 1 _ rfl)
          have y2 : wr.cell? ⟨g, off + k * 9 + 2, none⟩ = some (.int .i64 x.ver) := (hb.bel.cell (HM.out.2.2 _ hsg)).trans (hc1 2 _ rfl)
          have z2 : wr.cell? ⟨g', off' + k * 9 + 2, none⟩ = some (.int .i64 x.ver) := (hb.bel.cell (HM.out.2.2 _ hsg')).trans (hc2 2 _ rfl)
          have y3 : wr.cell? ⟨g, off + k * 9 + 3, none⟩ = some (.slice A1 x.att.length c1) := (hb.bel.cell (HM.out.2.2 _ hsg)).trans (hc1 3 _ rfl)
          have z3 : wr.cell? ⟨g', off' + k * 9 + 3, none⟩ = some (.slice A2 x.att.length c2) := (hb.bel.cell (HM.out.2.2 _ hsg')).trans (hc2 3 _ rfl)
          have y4 : wr.cell? ⟨g, off + k * 9 + 4, none⟩ = some (.string x.a) := (hb.bel.cell (HM.out.2.2 _ hsg)).trans (hc1 4 _ rfl)
          have z4 : wr.cell? ⟨g', off' + k * 9 + 4, none⟩ = some (.string x.a) := (hb.bel.cell (HM.out.2.2 _ hsg')).trans (hc2 4 _ rfl)
          have y5 : wr.cell? ⟨g, off + k * 9 + 5, none⟩ = some (.string x.e) := (hb.bel.cell (HM.out.2.2 _ hsg)).trans (hc1 5 _ rfl)
          have z5 : wr.cell? ⟨g', off' + k * 9 + 5, none⟩ = some (.string x.e) := (hb.bel.cell (HM.out.2.2 _ hsg')).trans (hc2 5 _ rfl)
          have y6 : wr.cell? ⟨g, off + k * 9 + 6, none⟩ = some (.string x.v) := (hb.bel.cell (HM.out.2.2 _ hsg)).trans (hc1 6 _ rfl)
          have z6 : wr.cell? ⟨g', off' + k * 9 + 6, none⟩ = some (.string x.v) := (hb.bel.cell (HM.out.2.2 _ hsg')).trans (hc2 6 _ rfl)
          have y7 : wr.cell? ⟨g, off + k * 9 + 7, none⟩ = some (.int .i64 x.ep) := (hb.bel.cell (HM.out.2.2 _ hsg)).trans (hc1 7 _ rfl)
          have z7 : wr.cell? ⟨g', off' + k * 9 + 7, none⟩ = some (.int .i64 x.ep) := (hb.bel.cell (HM.out.2.2 _ hsg')).trans (hc2 7 _ rfl)
          have y8 : wr.cell? ⟨g, off + k * 9 + 8, none⟩ = some (.string x.wit) := (hb.bel.cell (HM.out.2.2 _ hsg)).trans (hc1 8 _ rfl)
          have z8 : wr.cell? ⟨g', off' + k * 9 + 8, none⟩ = some (.string x.wit) := (hb.bel.cell (HM.out.2.2 _ hsg')).trans (hc2 8 _ rfl)
          have HSA := Lib.hid (fun W (hb : Below w.heap.size w W) => HSH.out x (HQ.out.2.2.2.2.2.2 x (List.mem_of_getElem? hx)) A1 A2 c1 c2 W hb hr1 hr2)
          have HLT := Lib.hid hlt
          have k1 : decide ((k : Int) < (nh : Int)) = true := decide_eq_true (by omega)
          have k2 : (k : Int) < (nh : Int) := by omega
          have k3 : (0 : Int) ≤ (k : Int) := by omega
          have HW := Lib.hid (show wrap64 ((k : Int) + 1) = (k : Int) + 1 from IntWalk.wrap64_in _ (by have := HQ.out.2.2.2.2.1; omega))
          clear hb hx hlt hk hsg hsg' HM HSH HQ hr1 hr2 hc1 hc2
          go_upto_region 11 with fail
          go_region_with (go_at_call 42; (with_reducible refine (HSA.out _ HBE.out.bel.drew).mono ?_); rintro e w5 ⟨rfl, hb5⟩; have HB5 := Lib.hid ((HBE.out.next (Below.refl _ _).drew).next hb5); clear hb5)
          all_goals
            go_wp2_with fail
            refine ⟨⟨k + 1, by rw [HW.out]; rfl, HLT.out, HB5.out⟩, ?_⟩
            rw [HW.out]
            have := HLT.out
            show nh - ((k : Int) + 1).toNat < nh - (k : Int).toNat
            omega
        · have k1 : decide ((k : Int) < (nh : Int)) = false := decide_eq_false (by omega)
          obtain rfl : nh = k := by omega
          clear hb hlt hk
          go_wp2_with fail
          go_loopw [7] (fun v wr => ∃ k : Nat, v = .int .i64 k ∧ k ≤ nu ∧ SmB w #[.string sec, .slice Aa na ca, .slice Ah nh ch, .slice Au nu cu] #[.string sec, .slice Ba na da, .slice Bh nh dh, .slice Bu nu du] wr) (fun v _ => nu - (intOf v).toNat)
          case atStart => exact ⟨0, rfl, Nat.zero_le _, HBE.out⟩
          case round =>
            clear HBE a1 b1 k1
            obtain ⟨k, rfl, hk, hb⟩ := hrel
            have HBE := Lib.hid hb
            have a1 := cell_of_row _ _ 3 _ _ _ hb.one
            have b1 := cell_of_row _ _ 3 _ _ _ hb.two
            by_cases hlt : k < nu
            · obtain ⟨⟨us1, up, uc⟩, hx⟩ : ∃ u, us[k]? = some u := ⟨us[k]'(by rw [HQ.out.2.2.1]; exact hlt), List.getElem?_eq_getElem _⟩
              obtain ⟨g, off, rfl, hsg, y0, y1, y2⟩ := SlU.at_ (RowC.keep HM.out.1.u (fun p hp => hb.bel.cell (HM.out.2.2 _ hp))) hx
              obtain ⟨g', off', rfl, hsg', z0, z1, z2⟩ := SlU.at_ (RowC.keep HM.out.2.1.u (fun p hp => hb.bel.cell (HM.out.2.2 _ hp))) hx
              have HLT := Lib.hid hlt
              have k1 : decide ((k : Int) < (nu : Int)) = true := decide_eq_true (by omega)
              have k2 : (k : Int) < (nu : Int) := by omega
              have k3 : (0 : Int) ≤ (k : Int) := by omega
              have HW := Lib.hid (show wrap64 ((k : Int) + 1) = (k : Int) + 1 from IntWalk.wrap64_in _ (by have := HQ.out.2.2.2.2.2.1; omega))
              clear hb hx hlt hk hsg hsg' HM HSH HQ
              go_wp2_with fail
              go_quiet (fail)
              go_wp2_with fail
              refine ⟨⟨k + 1, by rw [HW.out]; rfl, HLT.out, HBE.out.next (below_drewN (Below.refl _ _) _)⟩, ?_⟩
              rw [HW.out]
              have := HLT.out
              show nu - ((k : Int) + 1).toNat < nu - (k : Int).toNat
              omega
            · have k1 : decide ((k : Int) < (nu : Int)) = false := decide_eq_false (by omega)
              obtain rfl : nu = k := by omega
              clear hb hlt hk
              go_wp2_with fail
              go_ret
              exact ⟨rfl, HBE.out.bel⟩
end Go.Proofs.YtjhlddlocpkhkaaGreat
