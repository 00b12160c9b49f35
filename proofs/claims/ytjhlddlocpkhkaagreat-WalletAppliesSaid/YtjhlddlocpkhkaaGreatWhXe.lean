/- Wallet: copied, for every wallet (the walk). -/
import Derived.Test.YtjhlddlocpkhkaaGreatWhJ13
namespace Go.Proofs.YtjhlddlocpkhkaaGreat
open Go.RowKit
set_option maxRecDepth 100000
set_option linter.unusedVariables false
set_option maxHeartbeats 8000000
theorem wal_copied (sec : ByteArray) (qs : List Az) (hs : List Hz) (us : List Uz) (Aa Ah Au : Option Addr) (na ca nh ch nu cu : Nat) (S : Nat → Prop) (w : World) (hq : qs.length = na) (hn : hs.length = nh) (hu : us.length = nu) (hma : na ≤ 100000) (hmh : nh ≤ 100000) (hmu : nu ≤ 100000) (hatt : ∀ x ∈ hs, x.att.length ≤ 100000) (h : WalM w S qs hs us Aa Ah Au) (hS : ∀ g, S g → g < w.heap.size) :
    Calls Tryz.prog 67 #[.agg #[.string sec, .slice Aa na ca, .slice Ah nh ch, .slice Au nu cu]] w fun e w' => ∃ A1 c1 A2 c2 A3 c3, e = .returned (.agg #[.string sec, .slice A1 na c1, .slice A2 nh c2, .slice A3 nu c3]) ∧ OwnW w' w.heap.size qs hs us (.slice A1 na c1) (.slice A2 nh c2) (.slice A3 nu c3) ∧ Below w.heap.size w w' := by
  obtain ⟨L0, hL0, hR0⟩ := h.h
  have HA := Lib.hid (fun W (hb : CpB w sec Aa na ca Ah nh ch Au nu cu W) => cloneR_A (cellsA qs) Aa na ca S W (by rw [cellsA_len, hq]) (cellsA_one qs) hma (by have := h.a; unfold SlA at this; rw [hq] at this; exact RowC.keep this (fun p hp => hb.bel.cell (hS _ hp))) (fun g hg => Nat.lt_of_lt_of_le (hS g hg) hb.bel.size))
  have HH := Lib.hid (fun W (hb : CpB w sec Aa na ca Ah nh ch Au nu cu W) => cloneR_H L0 Ah nh ch S W (by rw [hR0.length, hn]) hR0.one hmh (by rw [hn] at hL0; exact RowC.keep hL0 (fun p hp => hb.bel.cell (hS _ hp))) (fun g hg => Nat.lt_of_lt_of_le (hS g hg) hb.bel.size))
  have HU := Lib.hid (fun W (hb : CpB w sec Aa na ca Ah nh ch Au nu cu W) => cloneR_U (cellsU us) Au nu cu S W (by rw [cellsU_len, hu]) (cellsU_one us) hmu (by have := h.u; unfold SlU at this; rw [hu] at this; exact RowC.keep this (fun p hp => hb.bel.cell (hS _ hp))) (fun g hg => Nat.lt_of_lt_of_le (hS g hg) hb.bel.size))
  have HB0 := Lib.hid (CpB.start (w := w) (sec := sec) (Aa := Aa) (na := na) (ca := ca) (Ah := Ah) (nh := nh) (ch := ch) (Au := Au) (nu := nu) (cu := cu))
  have HQ := Lib.hid (And.intro hq (And.intro hn hu))
  have HREL := Lib.hid (fun W (hb : Below w.heap.size w W) => hR0.keep (w' := W) (fun p hp => hb.cell (hS _ hp)))
  have HS := Lib.hid hS
  have HATT := Lib.hid hatt
  clear h hL0 hR0 hS hq hn hu hatt
  go_enter Tryz.func67, Tryz.ntmps67
  go_wp2_with fail
  obtain ⟨⟨x0, x1, x2, x3⟩, y0, y1, y2, y3⟩ := HB0.out.bc
  go_cut [16] (fun _ wx => ∃ (A1 : Option Addr) (c1 : Nat) (A2 : Option Addr) (c2 : Nat) (A3 : Option Addr) (c3 : Nat) (M : Nat), CpW w sec qs L0 us A1 na c1 A2 nh c2 A3 nu c3 M wx)
  case first =>
    clear x0 x1 x2 x3 y0 y1 y2 y3
    go_region_with (first
      | (go_at_call 103; (with_reducible refine (HA.out _ (by first | exact HB0.out | exact HB0.out.drew)).mono ?_); rintro e w1 ⟨v1, rfl, ho1, hb1⟩; obtain ⟨A1, c1, rfl⟩ := owns_shape ho1; have HB1 := Lib.hid (show CpP1 w sec Aa na ca Ah nh ch Au nu cu qs A1 c1 w1 from by { first | exact HB0.out.cl ho1 hb1 | exact HB0.out.drew.cl ho1 hb1 }); obtain ⟨⟨x0, x1, x2, x3⟩, y0, y1, y2, y3⟩ := HB1.out.b.bc; clear hb1 ho1)
      | (go_at_call 97; (with_reducible refine (HH.out _ (by first | exact HB1.out.b | exact HB1.out.drew.b)).mono ?_); rintro e w2 ⟨v2, rfl, ho2, hb2⟩; obtain ⟨A2, c2, rfl⟩ := owns_shape ho2; have HB2 := Lib.hid (show CpP2 w sec Aa na ca Ah nh ch Au nu cu qs A1 c1 L0 A2 c2 w2 from by { first | exact HB1.out.cl ho2 hb2 | exact HB1.out.drew.cl ho2 hb2 }); obtain ⟨⟨x0, x1, x2, x3⟩, y0, y1, y2, y3⟩ := HB2.out.p.b.bc; clear hb2 ho2)
      | (go_at_call 104; (with_reducible refine (HU.out _ (by first | exact HB2.out.p.b | exact HB2.out.drew.p.b)).mono ?_); rintro e w3 ⟨v3, rfl, ho3, hb3⟩; obtain ⟨A3, c3, rfl⟩ := owns_shape ho3; have HB3 := Lib.hid (show CpP3 w sec Aa na ca Ah nh ch Au nu cu qs A1 c1 L0 A2 c2 us A3 c3 w3 from by { first | exact HB2.out.cl ho3 hb3 | exact HB2.out.drew.cl ho3 hb3 }); obtain ⟨⟨x0, x1, x2, x3⟩, y0, y1, y2, y3⟩ := HB3.out.q.p.b.bc; clear hb3 ho3))
    all_goals
      have HD := HB3.out.done
      first
      | (go_meet; exact ⟨_, _, _, _, _, _, _, HD⟩)
      | (go_wp2_with fail; go_meet; exact ⟨_, _, _, _, _, _, _, HD⟩)
  case rest =>
    obtain ⟨A1, c1, A2, c2, A3, c3, M, hcut⟩ := hcut
    have HC := Lib.hid hcut
    obtain ⟨⟨x0, x1, x2, x3⟩, y0, y1, y2, y3⟩ := hcut.b.bc
    clear hcut
    go_wp2_with fail
    go_loopw [20] (fun v wr => ∃ k : Nat, k ≤ nh ∧ v = .int .i64 k ∧ ∃ La Lb, CpW w sec qs (La ++ Lb) us A1 na c1 A2 nh c2 A3 nu c3 M wr ∧ RelH wr (newS M wr) (hs.take k) La ∧ RelH wr S (hs.drop k) Lb) (fun v _ => nh - (intOf v).toNat)
    case atStart => exact ⟨0, by omega, rfl, [], L0, HC.out, rfl, HREL.out _ HC.out.b.bel⟩
    case round =>
      obtain ⟨k, hk, rfl, La, Lb, hw, hra, hrb⟩ := hrel
      have HW := Lib.hid hw
      have HRA := Lib.hid hra
      have HRB := Lib.hid hrb
      clear hw hra hrb
      obtain ⟨⟨x0, x1, x2, x3⟩, y0, y1, y2, y3⟩ := HW.out.b.bc
      by_cases hlt : k < nh
      · obtain ⟨x, hx⟩ : ∃ x, hs[k]? = some x := ⟨hs[k]'(by rw [HQ.out.2.1]; exact hlt), List.getElem?_eq_getElem _⟩
        have hd : hs.drop k = x :: hs.drop (k + 1) := by
          obtain ⟨h1, h2⟩ := List.getElem?_eq_some_iff.1 hx
          rw [List.drop_eq_getElem_cons h1, h2]
        have hrb := HRB.out
        rw [hd] at hrb
        obtain ⟨A, c, R, hLb, hrow, hrest⟩ := hrb
        have hll : La.length = k * 9 := by rw [HRA.out.length, List.length_take, HQ.out.2.1, Nat.min_eq_left hk]
        obtain ⟨g2, rfl⟩ : ∃ g2, A2 = some ⟨g2, 0, none⟩ := by
          rcases HW.out.h.2 with ⟨_, h0⟩ | ⟨g, cap, cur, hv, _⟩
          · omega
          · injection hv with h1; exact ⟨g, h1⟩
        have hcell : wr.cell? ⟨g2, k * 9 + 3, none⟩ = some (.slice A x.att.length c) := by
          rw [HW.out.h.cellAt (k * 9 + 3) (by omega), List.getElem?_append_right (by omega), hll, show k * 9 + 3 - k * 9 = 3 by omega, hLb]
          rfl
        have HCN := Lib.hid (cloneR_N (cellsN x.att) A x.att.length c S wr (cellsN_len _) (cellsN_one _) (HATT.out x (List.mem_of_getElem? hx)) hrow (fun g hg => Nat.lt_of_lt_of_le (HS.out g hg) HW.out.b.bel.size))
        have HLB := Lib.hid hLb
        have HLL := Lib.hid hll
        have HX := Lib.hid hx
        have HREST := Lib.hid hrest
        have hil : (k : Int) < (nh : Int) := by omega
        have HLT := Lib.hid hlt
        obtain ⟨m, hm⟩ : ∃ m, x.att.length = m := ⟨_, rfl⟩
        rw [hm] at hcell HCN
        have HM := Lib.hid hm
        clear hLb hll hx hrest hd hrow hm
        go_wp2_with (go_at_call 102; (with_reducible refine HCN.out.mono ?_); rintro e w5 ⟨v5, rfl, ho5, hb5⟩; obtain ⟨A5, c5, rfl⟩ := owns_shape ho5; have HB5 := Lib.hid hb5; have HO5 := Lib.hid ho5; have HN5 := Lib.hid (HW.out.next hb5); have z0 := (hb5.cell (p := ⟨g2, k * 9 + 3, none⟩) (HW.out.h.lt g2 rfl).2).trans hcell; have z1 := HN5.out.h.frozenAt (k * 9 + 3); clear hb5 ho5)
        go_roundw
        case rel =>
          refine ⟨k + 1, HLT.out, by go_num, La ++ cellsH x A5 c5, R, ?_, ?_, ?_⟩
          · have hw := HW.out
            rw [HLB.out] at hw
            have := hw.step (A' := A5) (c' := c5) HLL.out HB5.out
            rw [HM.out] at this
            exact this
          · rw [List.take_add_one, HX.out]
            have hg2 := HW.out.m2 g2 rfl
            refine RelH.app (rel_old HRA.out (fun g hg => ⟨hg.2, by have := hg.1; omega⟩) HB5.out |>.mono ?_) (RelH.single ?_)
            · intro g hg
              exact ⟨hg.1, by simpa using Nat.lt_of_lt_of_le hg.2 HB5.out.size⟩
            · have := HO5.out
              rw [← HM.out] at this
              rw [← HM.out]
              exact row_new this HW.out.mz hg2
          · exact rel_old HREST.out (fun g hg => ⟨Nat.lt_of_lt_of_le (HS.out g hg) HW.out.b.bel.size, fun e => by have := HS.out g hg; have := (HW.out.h.lt g2 rfl).1; omega⟩) HB5.out
        case measure => have := HLT.out; simp only [intOf]; omega
      · obtain rfl : k = nh := by omega
        obtain ⟨⟨r0, r1, r2, r3⟩, g0, g1, g2, g3⟩ := HW.out.b.rc
        go_wp2_with fail
        have hra := HRA.out
        have hrb := HRB.out
        have hw := HW.out
        rw [List.take_of_length_le (by rw [HQ.out.2.1]; exact Nat.le_refl _)] at hra
        rw [List.drop_eq_nil_of_le (by rw [HQ.out.2.1]; exact Nat.le_refl _)] at hrb
        have hrb : Lb = [] := hrb
        subst hrb
        rw [List.append_nil] at hw
        have HF := hw.fin hra HQ.out.1 HQ.out.2.1 HQ.out.2.2 (.string sec) (.slice A1 na c1) (.slice A2 k c2) (.slice A3 nu c3)
        refine bodyPost_ret (v := .agg #[.string sec, .slice A1 na c1, .slice A2 k c2, .slice A3 nu c3]) (by simp [results, Tryz.results67, go_sem, r0, r1, r2, r3]) rfl ?_
        exact ⟨A1, c1, A2, c2, A3, c3, rfl, HF.1, HF.2⟩
end Go.Proofs.YtjhlddlocpkhkaaGreat
