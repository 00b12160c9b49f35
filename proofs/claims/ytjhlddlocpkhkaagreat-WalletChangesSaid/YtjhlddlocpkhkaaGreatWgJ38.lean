/- Wallet: the law file's few. Wallet: the law file's short; printed by genVbd.py. Encoding: (*reader).size where it reads a length. -/
import Derived.Test.YtjhlddlocpkhkaaGreatWgJ37
import Derived.Test.YtjhlddlocpkhkaaGreatWgJ05
import Derived.Deep.DeepCutAuto
import Derived.Deep.CutBlock
namespace Go.Proofs.YtjhlddlocpkhkaaGreat
open Go.RowKit
set_option maxRecDepth 100000
set_option linter.unusedVariables false
set_option maxHeartbeats 16000000
/-- The box of few. -/
structure FwB (w : World) (cs : Array Value) (W : World) : Prop where
  box : W.heap[w.heap.size]? = some (.cells cs 27 (0, 0))
  bel : Below w.heap.size w W
  size : w.heap.size + 1 ≤ W.heap.size
theorem FwB.next {w W w' : World} {cs : Array Value} (h : FwB w cs W) (hb : Below W.heap.size W w') : FwB w cs w' :=
  ⟨(hb.block _ (by have := h.size; omega)).trans h.box, below2 h.bel hb, Nat.le_trans h.size hb.size⟩
theorem FwB.alloc {w W : World} {cs : Array Value} (h : FwB w cs W) (o : Obj) : FwB w cs (W.alloc o) := h.next ((Below.refl _ _).alloc (Nat.le_refl _) _)
theorem FwB.start {w : World} {cs : Array Value} : FwB w cs (w.alloc (.cells cs 27)) := ⟨heap_alloc_new _ _, (Below.refl _ _).alloc (Nat.le_refl _) _, by simp⟩
theorem law56_few (sec : ByteArray) (qs : List Az) (hs : List Hz) (us : List Uz) (Aa Ah Au : Option Addr) (na ca nh ch nu cu : Nat) (S : Nat → Prop) (w : World) (r : Nat) (hr : r ≤ 140737488355328) (hba : ∀ x ∈ qs, BndA r x) (hbh : ∀ x ∈ hs, BndH r x) (hbu : ∀ x ∈ us, x.1.size ≤ r) (hq : qs.length = na) (hn : hs.length = nh) (hu : us.length = nu) (h : WalM w S qs hs us Aa Ah Au) (hS : ∀ g, S g → g < w.heap.size) :
    Calls Tryz.prog 5 #[.agg #[.string sec, .slice Aa na ca, .slice Ah nh ch, .slice Au nu cu]] w fun e w' => e = .returned (.bool (fewB sec qs hs us)) ∧ Below w.heap.size w w' := by
  by_cases hall : na ≤ 8 ∧ nh ≤ 8 ∧ nu ≤ 8 ∧ sec.size ≤ 200
  · obtain ⟨l1, l2, l3, l4⟩ := hall
    have HCO := Lib.hid (fun W (hb : Below w.heap.size w W) => contains_few hs Ah nh ch S W r hr hbh hn (by omega) ((h.keep (fun p hp => hb.cell (hS _ hp))).h) (fun g hg => Nat.lt_of_lt_of_le (hS g hg) hb.size))
    have HM := Lib.hid (And.intro h hS)
    have HQ := Lib.hid (And.intro hq (And.intro hn hu))
    have HBA : Hid (∀ x ∈ qs, BndA 140737488355328 x) := Lib.hid (fun x hx => by obtain ⟨a1, a2, a3, a4, a5⟩ := hba x hx; exact ⟨by omega, by omega, by omega, by omega, by omega⟩)
    have HBU : Hid (∀ x ∈ us, x.1.size ≤ 140737488355328) := Lib.hid (fun x hx => Nat.le_trans (hbu x hx) hr)
    have HL := Lib.hid (And.intro l1 (And.intro l2 (And.intro l3 l4)))
    have d1 : decide ((8 : Int) < (na : Int)) = false := decide_eq_false (by omega)
    have d2 : decide ((8 : Int) < (nh : Int)) = false := decide_eq_false (by omega)
    have d3 : decide ((8 : Int) < (nu : Int)) = false := decide_eq_false (by omega)
    have d4 : decide ((200 : Int) < (sec.size : Int)) = false := decide_eq_false (by omega)
    clear h hS hr hba hbh hbu l4
    go_enter Tryz.func5, Tryz.ntmps5
    go_upto_region 3 with fail
    go_wp2_with fail
    go_loopw [3, 33] (fun vn v wr => ∃ k : Nat, v = .int .i64 k ∧ k ≤ na ∧ vn = .int .i64 ((sumA (qs.take k) : Nat) : Int) ∧ FwB w #[.string sec, .slice Aa na ca, .slice Ah nh ch, .slice Au nu cu] wr) (fun _ v _ => na - (intOf v).toNat)
    case atStart => exact ⟨0, rfl, Nat.zero_le _, by simp [sumA], FwB.start⟩
    case round =>
      obtain ⟨k, rfl, hk, rfl, hb⟩ := hrel
      obtain ⟨T, hT⟩ : ∃ T, sumA (qs.take k) = T := ⟨_, rfl⟩
      rw [hT]
      have HBE := Lib.hid hb
      by_cases hlt : k < na
      · obtain ⟨⟨qi, qc, qn, qx, qb⟩, hx⟩ : ∃ u, qs[k]? = some u := ⟨qs[k]'(by rw [HQ.out.1]; exact hlt), List.getElem?_eq_getElem _⟩
        obtain ⟨g, off, rfl, hsg, y0, y1, y2, y3, y4⟩ := SlA.at_ (RowC.keep HM.out.1.a (fun p hp => hb.bel.cell (HM.out.2 _ hp))) hx
        have HT1 : Hid (sumA (qs.take (k + 1)) = T + sizeA (qi, qc, qn, qx, qb)) := Lib.hid (by rw [sumA_take hx]; omega)
        have hle : sumA (qs.take k) ≤ 8 * (5 * 140737488355328) := Nat.le_trans (sumA_bound (fun z hz => HBA.out z (List.mem_of_mem_take hz))) (Nat.mul_le_mul_right _ (by rw [List.length_take]; omega))
        obtain ⟨b1, b2, b3, b4, b5⟩ := HBA.out _ (List.mem_of_getElem? hx)
        dsimp only at b1 b2 b3 b4 b5
        obtain ⟨s2, hs2⟩ : ∃ s, qi.size + qc.size = s := ⟨_, rfl⟩
        obtain ⟨s3, hs3⟩ : ∃ s, s2 + qn.size = s := ⟨_, rfl⟩
        obtain ⟨s4, hs4⟩ : ∃ s, s3 + qx.size = s := ⟨_, rfl⟩
        obtain ⟨s5, hs5⟩ : ∃ s, s4 + qb.size = s := ⟨_, rfl⟩
        obtain ⟨s6, hs6⟩ : ∃ s, T + s5 = s := ⟨_, rfl⟩
        have e2 : IntKind.i64.wrap ((qi.size : Int) + (qc.size : Int)) = (s2 : Int) := by rw [wr64 _ (by omega)]; omega
        have e3 : IntKind.i64.wrap ((s2 : Int) + (qn.size : Int)) = (s3 : Int) := by rw [wr64 _ (by omega)]; omega
        have e4 : IntKind.i64.wrap ((s3 : Int) + (qx.size : Int)) = (s4 : Int) := by rw [wr64 _ (by omega)]; omega
        have e5 : IntKind.i64.wrap ((s4 : Int) + (qb.size : Int)) = (s5 : Int) := by rw [wr64 _ (by omega)]; omega
        have e6 : IntKind.i64.wrap ((T : Int) + (s5 : Int)) = (s6 : Int) := by rw [wr64 _ (by omega)]; omega
        have HT2 : Hid (sumA (qs.take (k + 1)) = s6) := Lib.hid (by rw [HT1.out]; unfold sizeA; dsimp only; omega)
        have HLT := Lib.hid hlt
        have k2 : (k : Int) < (na : Int) := by omega
        have k3 : (0 : Int) ≤ (k : Int) := by omega
        have k4 : k < 10 := by omega
        have HN1 := Lib.hid (HBE.out.alloc (.cells #[.string qi, .string qc, .string qn, .string qx, .string qb] 40))
        clear hb hx hlt hk hsg hT hle b1 b2 b3 b4 b5 hs2 hs3 hs4 hs5 hs6 HT1 HBE HCO HM HBA HBU
        go_wp2_with fail
        go_roundw
        case rel => exact ⟨k + 1, by go_num, HLT.out, by rw [HT2.out], HN1.out⟩
        case measure => have := HLT.out; simp only [intOf]; omega
      · obtain rfl : na = k := by omega
        have HTA : Hid (sumA qs = T) := Lib.hid (by rw [← hT, List.take_of_length_le (by rw [HQ.out.1]; exact Nat.le_refl _)])
        have hTl : T ≤ 8 * (5 * 140737488355328) := by rw [← HTA.out]; exact Nat.le_trans (sumA_bound HBA.out) (Nat.mul_le_mul_right _ (by rw [HQ.out.1]; omega))
        have HTL := Lib.hid hTl
        have a3 := cell_of_row _ _ 3 _ _ _ hb.box
        clear hb hlt hk hT hTl
        go_wp2_with fail
        go_loopw [3, 64] (fun vn v wr => ∃ k : Nat, v = .int .i64 k ∧ k ≤ nu ∧ vn = .int .i64 ((T + sumU (us.take k) : Nat) : Int) ∧ FwB w #[.string sec, .slice Aa na ca, .slice Ah nh ch, .slice Au nu cu] wr) (fun _ v _ => nu - (intOf v).toNat)
        case atStart => exact ⟨0, rfl, Nat.zero_le _, by simp [sumU], HBE.out⟩
        case round =>
          clear HBE a3
          obtain ⟨k, rfl, hk, rfl, hb⟩ := hrel
          obtain ⟨V, hV⟩ : ∃ V, T + sumU (us.take k) = V := ⟨_, rfl⟩
          rw [hV]
          have HBE := Lib.hid hb
          by_cases hlt : k < nu
          · obtain ⟨⟨us1, up, uc⟩, hx⟩ : ∃ u, us[k]? = some u := ⟨us[k]'(by rw [HQ.out.2.2]; exact hlt), List.getElem?_eq_getElem _⟩
            obtain ⟨g, off, rfl, hsg, y0, y1, y2⟩ := SlU.at_ (RowC.keep HM.out.1.u (fun p hp => hb.bel.cell (HM.out.2 _ hp))) hx
            have HT1 : Hid (T + sumU (us.take (k + 1)) = V + us1.size) := Lib.hid (by rw [sumU_take hx]; dsimp only; omega)
            have hle : sumU (us.take k) ≤ 8 * 140737488355328 := Nat.le_trans (sumU_bound (fun z hz => HBU.out z (List.mem_of_mem_take hz))) (Nat.mul_le_mul_right _ (by rw [List.length_take]; omega))
            have b1 := HBU.out _ (List.mem_of_getElem? hx)
            dsimp only at b1
            have hTl := HTL.out
            obtain ⟨s6, hs6⟩ : ∃ s, V + us1.size = s := ⟨_, rfl⟩
            have e6 : IntKind.i64.wrap ((V : Int) + (us1.size : Int)) = (s6 : Int) := by rw [wr64 _ (by omega)]; omega
            have HT2 : Hid (T + sumU (us.take (k + 1)) = s6) := Lib.hid (by rw [HT1.out, hs6])
            have HLT := Lib.hid hlt
            have k2 : (k : Int) < (nu : Int) := by omega
            have k3 : (0 : Int) ≤ (k : Int) := by omega
            have k4 : k < 10 := by omega
            have HN1 := Lib.hid (HBE.out.alloc (.cells #[.string us1, .int .i64 up, .int .i64 uc] 57))
            clear hb hx hlt hk hsg hV hle b1 hs6 HT1 HBE HCO HM HBA HBU hTl
            go_wp2_with fail
            go_roundw
            case rel => exact ⟨k + 1, by go_num, HLT.out, by rw [HT2.out], HN1.out⟩
            case measure => have := HLT.out; simp only [intOf]; omega
          · obtain rfl : nu = k := by omega
            have HVA : Hid (sumA qs + sumU us = V) := Lib.hid (by rw [← hV, HTA.out, List.take_of_length_le (by rw [HQ.out.2.2]; exact Nat.le_refl _)])
            have a2 := cell_of_row _ _ 2 _ _ _ hb.box
            by_cases h12 : V ≤ 1200
            · have HF : Hid (fewB sec qs hs us = !(hs.any (fun x => !smallB x))) := Lib.hid (by
                have hd : decide (qs.length ≤ 8 ∧ hs.length ≤ 8 ∧ us.length ≤ 8 ∧ sec.size ≤ 200 ∧ sumA qs + sumU us ≤ 1200) = true := decide_eq_true ⟨by rw [HQ.out.1]; exact HL.out.1, by rw [HQ.out.2.1]; exact HL.out.2.1, by rw [HQ.out.2.2]; exact HL.out.2.2.1, HL.out.2.2.2, by rw [HVA.out]; exact h12⟩
                unfold fewB
                rw [hd, Bool.true_and, List.not_any_eq_all_not]
                simp)
              have d6 : decide ((V : Int) ≤ 1200) = true := decide_eq_true (by omega)
              obtain ⟨cb, hcb⟩ : ∃ cb, hs.any (fun x => !smallB x) = cb := ⟨_, rfl⟩
              rw [hcb] at HF HCO
              have HCW := Lib.hid (HCO.out _ hb.bel)
              clear hb hlt hk hV hcb
              go_wp2_with (go_at_call 13; (with_reducible refine HCW.out.mono ?_); rintro e w5 ⟨rfl, hb5⟩; have HB5 := Lib.hid (below2 HBE.out.bel hb5); clear hb5)
              go_ret
              exact ⟨by rw [HF.out]; simp, HB5.out⟩
            · have HF : Hid (fewB sec qs hs us = false) := Lib.hid (by
                have hd : decide (qs.length ≤ 8 ∧ hs.length ≤ 8 ∧ us.length ≤ 8 ∧ sec.size ≤ 200 ∧ sumA qs + sumU us ≤ 1200) = false := decide_eq_false (fun h => h12 (by rw [← HVA.out]; exact h.2.2.2.2))
                unfold fewB
                rw [hd, Bool.false_and])
              have d6 : decide ((V : Int) ≤ 1200) = false := decide_eq_false (by omega)
              clear hb hlt hk hV
              go_wp2_with fail
              go_ret
              exact ⟨by rw [HF.out]; simp, HBE.out.bel⟩
  · have HF : Hid (fewB sec qs hs us = false) := Lib.hid (by
      have hd : decide (qs.length ≤ 8 ∧ hs.length ≤ 8 ∧ us.length ≤ 8 ∧ sec.size ≤ 200 ∧ sumA qs + sumU us ≤ 1200) = false := decide_eq_false (fun h => hall ⟨by rw [← hq]; exact h.1, by rw [← hn]; exact h.2.1, by rw [← hu]; exact h.2.2.1, h.2.2.2.1⟩)
      unfold fewB
      rw [hd, Bool.false_and])
    have HB : Hid (Below w.heap.size w (w.alloc (.cells #[.string sec, .slice Aa na ca, .slice Ah nh ch, .slice Au nu cu] 27))) := Lib.hid ((Below.refl _ _).alloc (Nat.le_refl _) _)
    clear h hS hr hba hbh hbu hq hn hu
    by_cases l1 : na ≤ 8
    · have d1 : decide ((8 : Int) < (na : Int)) = false := decide_eq_false (by omega)
      by_cases l2 : nh ≤ 8
      · have d2 : decide ((8 : Int) < (nh : Int)) = false := decide_eq_false (by omega)
        by_cases l3 : nu ≤ 8
        · have d3 : decide ((8 : Int) < (nu : Int)) = false := decide_eq_false (by omega)
          have d4 : decide ((200 : Int) < (sec.size : Int)) = true := decide_eq_true (by by_cases l4 : sec.size ≤ 200; { exact absurd ⟨l1, l2, l3, l4⟩ hall }; { omega })
          clear hall l1 l2 l3
          go_enter Tryz.func5, Tryz.ntmps5
          go_wp2_with fail
          go_ret
          exact ⟨by rw [HF.out]; rfl, HB.out⟩
        · have d3 : decide ((8 : Int) < (nu : Int)) = true := decide_eq_true (by omega)
          clear hall l1 l2 l3
          go_enter Tryz.func5, Tryz.ntmps5
          go_wp2_with fail
          go_ret
          exact ⟨by rw [HF.out]; rfl, HB.out⟩
      · have d2 : decide ((8 : Int) < (nh : Int)) = true := decide_eq_true (by omega)
        clear hall l1 l2
        go_enter Tryz.func5, Tryz.ntmps5
        go_wp2_with fail
        go_ret
        exact ⟨by rw [HF.out]; rfl, HB.out⟩
    · have d1 : decide ((8 : Int) < (na : Int)) = true := decide_eq_true (by omega)
      clear hall l1
      go_enter Tryz.func5, Tryz.ntmps5
      go_wp2_with fail
      go_ret
      exact ⟨by rw [HF.out]; rfl, HB.out⟩
/-- The box of a change. -/
structure ChB (w : World) (cs : Array Value) (W : World) : Prop where
  box : W.heap[w.heap.size]? = some (.cells cs 49 (0, 0))
  bel : Below w.heap.size w W
  size : w.heap.size + 1 ≤ W.heap.size
theorem ChB.next {w W w' : World} {cs : Array Value} (h : ChB w cs W) (hb : Below W.heap.size W w') : ChB w cs w' :=
  ⟨(hb.block _ (by have := h.size; omega)).trans h.box, below2 h.bel hb, Nat.le_trans h.size hb.size⟩
theorem ChB.start {w : World} {cs : Array Value} : ChB w cs (w.alloc (.cells cs 49)) := ⟨heap_alloc_new _ _, (Below.refl _ _).alloc (Nat.le_refl _) _, by simp⟩
/-- What short says. -/
def shortB (y : Az) (x : Hz) (nc sc : ByteArray) : Bool := fewB ⟨#[]⟩ [y] [] [] && (smallB x && decide (nc.size + sc.size ≤ 400))
theorem law56_short (kd : Int) (qi qc qn qx qb nc : ByteArray) (ix : Int) (x : Hz) (A : Option Addr) (n c : Nat) (sc : ByteArray) (pd lm : Int) (S : Nat → Prop) (w : World) (r : Nat) (hr : r ≤ 140737488355328) (hba : BndA r (qi, qc, qn, qx, qb)) (hbh : BndH r x) (hbn : nc.size ≤ r) (hbs : sc.size ≤ r) (hn : x.att.length = n) (hrow : RowC w S A n (cellsN x.att)) (hS : ∀ g, S g → g < w.heap.size) :
    Calls Tryz.prog 10 #[.agg #[.int .u8 kd, .string qi, .string qc, .string qn, .string qx, .string qb, .string nc, .int .i64 ix, .string x.iss, .string x.sch, .int .i64 x.ver, .slice A n c, .string x.a, .string x.e, .string x.v, .int .i64 x.ep, .string x.wit, .string sc, .int .i64 pd, .int .i64 lm]] w fun e w' => e = .returned (.bool (shortB (qi, qc, qn, qx, qb) x nc sc)) ∧ Below w.heap.size w w' := by
  have HB0 := Lib.hid (ChB.start (w := w) (cs := #[.int .u8 kd, .string qi, .string qc, .string qn, .string qx, .string qb, .string nc, .int .i64 ix, .string x.iss, .string x.sch, .int .i64 x.ver, .slice A n c, .string x.a, .string x.e, .string x.v, .int .i64 x.ep, .string x.wit, .string sc, .int .i64 pd, .int .i64 lm]))
  have HF := Lib.hid (fun (W : World) (c1 : Nat) => law56_few ⟨#[]⟩ [(qi, qc, qn, qx, qb)] [] [] (some ⟨W.heap.size, 0, none⟩) none none 1 c1 0 0 0 0 (fun g => g = W.heap.size) (W.alloc (.cells #[.string qi, .string qc, .string qn, .string qx, .string qb] 40)) r hr (by intro y hy; rw [List.mem_singleton.1 hy]; exact hba) (by intro y hy; cases hy) (by intro y hy; cases hy) rfl rfl rfl ⟨fun _ => ⟨_, 0, rfl, rfl, fun j u hu => by rw [Nat.zero_add, cell_of_row _ _ j _ _ _ (heap_alloc_new W _), ← hu]; simp [cellsA]⟩, ⟨[], fun h => absurd h (by simp), rfl⟩, fun h => absurd h (by simp)⟩ (fun g hg => by rw [hg]; simp))
  have HSM := Lib.hid (fun W (hb : Below w.heap.size w W) => law56_small x A n c S W r hr hbh hn (hrow.keep (fun p hp => hb.cell (hS _ hp))) (fun g hg => Nat.lt_of_lt_of_le (hS g hg) hb.size))
  unfold valH at HSM
  have HCC : Hid (∀ W, ChB w #[.int .u8 kd, .string qi, .string qc, .string qn, .string qx, .string qb, .string nc, .int .i64 ix, .string x.iss, .string x.sch, .int .i64 x.ver, .slice A n c, .string x.a, .string x.e, .string x.v, .int .i64 x.ep, .string x.wit, .string sc, .int .i64 pd, .int .i64 lm] W → W.cell? ⟨w.heap.size, 0, none⟩ = some (.int .u8 kd) ∧ W.cell? ⟨w.heap.size, 1, none⟩ = some (.string qi) ∧ W.cell? ⟨w.heap.size, 2, none⟩ = some (.string qc) ∧ W.cell? ⟨w.heap.size, 3, none⟩ = some (.string qn) ∧ W.cell? ⟨w.heap.size, 4, none⟩ = some (.string qx) ∧ W.cell? ⟨w.heap.size, 5, none⟩ = some (.string qb) ∧ W.cell? ⟨w.heap.size, 6, none⟩ = some (.string nc) ∧ W.cell? ⟨w.heap.size, 7, none⟩ = some (.int .i64 ix) ∧ W.cell? ⟨w.heap.size, 8, none⟩ = some (.string x.iss) ∧ W.cell? ⟨w.heap.size, 9, none⟩ = some (.string x.sch) ∧ W.cell? ⟨w.heap.size, 10, none⟩ = some (.int .i64 x.ver) ∧ W.cell? ⟨w.heap.size, 11, none⟩ = some (.slice A n c) ∧ W.cell? ⟨w.heap.size, 12, none⟩ = some (.string x.a) ∧ W.cell? ⟨w.heap.size, 13, none⟩ = some (.string x.e) ∧ W.cell? ⟨w.heap.size, 14, none⟩ = some (.string x.v) ∧ W.cell? ⟨w.heap.size, 15, none⟩ = some (.int .i64 x.ep) ∧ W.cell? ⟨w.heap.size, 16, none⟩ = some (.string x.wit) ∧ W.cell? ⟨w.heap.size, 17, none⟩ = some (.string sc) ∧ W.cell? ⟨w.heap.size, 18, none⟩ = some (.int .i64 pd) ∧ W.cell? ⟨w.heap.size, 19, none⟩ = some (.int .i64 lm)) := Lib.hid (fun W h => ⟨cell_of_row _ _ 0 _ _ _ h.box, cell_of_row _ _ 1 _ _ _ h.box, cell_of_row _ _ 2 _ _ _ h.box, cell_of_row _ _ 3 _ _ _ h.box, cell_of_row _ _ 4 _ _ _ h.box, cell_of_row _ _ 5 _ _ _ h.box, cell_of_row _ _ 6 _ _ _ h.box, cell_of_row _ _ 7 _ _ _ h.box, cell_of_row _ _ 8 _ _ _ h.box, cell_of_row _ _ 9 _ _ _ h.box, cell_of_row _ _ 10 _ _ _ h.box, cell_of_row _ _ 11 _ _ _ h.box, cell_of_row _ _ 12 _ _ _ h.box, cell_of_row _ _ 13 _ _ _ h.box, cell_of_row _ _ 14 _ _ _ h.box, cell_of_row _ _ 15 _ _ _ h.box, cell_of_row _ _ 16 _ _ _ h.box, cell_of_row _ _ 17 _ _ _ h.box, cell_of_row _ _ 18 _ _ _ h.box, cell_of_row _ _ 19 _ _ _ h.box⟩)
  have HWR : Hid (IntKind.i64.wrap ((nc.size : Int) + (sc.size : Int)) = ((nc.size + sc.size : Nat) : Int)) := Lib.hid (by rw [wr64 _ (by omega)]; omega)
  obtain ⟨T, hT⟩ : ∃ T, nc.size + sc.size = T := ⟨_, rfl⟩
  obtain ⟨bf, hbf⟩ : ∃ b, fewB ⟨#[]⟩ [(qi, qc, qn, qx, qb)] [] [] = b := ⟨_, rfl⟩
  obtain ⟨bs, hbs2⟩ : ∃ b, smallB x = b := ⟨_, rfl⟩
  unfold shortB
  rw [hbf] at HF ⊢
  rw [hbs2] at HSM ⊢
  rw [hT] at HWR ⊢
  clear hr hba hbh hbn hbs hn hrow hS hT hbf hbs2
  cases bf with
  | false =>
    go_enter Tryz.func10, Tryz.ntmps10
    go_upto_region 1 with fail
    obtain ⟨W0, hW0⟩ : ∃ W0, w.alloc (.cells #[.int .u8 kd, .string qi, .string qc, .string qn, .string qx, .string qb, .string nc, .int .i64 ix, .string x.iss, .string x.sch, .int .i64 x.ver, .slice A n c, .string x.a, .string x.e, .string x.v, .int .i64 x.ep, .string x.wit, .string sc, .int .i64 pd, .int .i64 lm] 49) = W0 := ⟨_, rfl⟩
    rw [hW0] at HB0 ⊢
    clear hW0
    obtain ⟨z0, z1, z2, z3, z4, z5, z6, z7, z8, z9, z10, z11, z12, z13, z14, z15, z16, z17, z18, z19⟩ := HCC.out _ HB0.out
    go_wp2_with (go_at_call 5; (with_reducible refine (HF.out W0 1).mono ?_); rintro e w1 ⟨rfl, hb1⟩; have HB1 := Lib.hid ((HB0.out.next ((Below.refl _ _).alloc (Nat.le_refl _) (.cells #[.string qi, .string qc, .string qn, .string qx, .string qb] 40))).next hb1); clear hb1)
    go_ret
    exact ⟨rfl, HB1.out.bel⟩
  | true =>
    cases bs with
    | false =>
      go_enter Tryz.func10, Tryz.ntmps10
      go_upto_region 1 with fail
      obtain ⟨W0, hW0⟩ : ∃ W0, w.alloc (.cells #[.int .u8 kd, .string qi, .string qc, .string qn, .string qx, .string qb, .string nc, .int .i64 ix, .string x.iss, .string x.sch, .int .i64 x.ver, .slice A n c, .string x.a, .string x.e, .string x.v, .int .i64 x.ep, .string x.wit, .string sc, .int .i64 pd, .int .i64 lm] 49) = W0 := ⟨_, rfl⟩
      rw [hW0] at HB0 ⊢
      clear hW0
      obtain ⟨z0, z1, z2, z3, z4, z5, z6, z7, z8, z9, z10, z11, z12, z13, z14, z15, z16, z17, z18, z19⟩ := HCC.out _ HB0.out
      go_wp2_with (first
        | (go_at_call 5; (with_reducible refine (HF.out W0 1).mono ?_); rintro e w1 ⟨rfl, hb1⟩; have HB1 := Lib.hid ((HB0.out.next ((Below.refl _ _).alloc (Nat.le_refl _) (.cells #[.string qi, .string qc, .string qn, .string qx, .string qb] 40))).next hb1); clear hb1 z0 z1 z2 z3 z4 z5 z6 z7 z8 z9 z10 z11 z12 z13 z14 z15 z16 z17 z18 z19; obtain ⟨z0, z1, z2, z3, z4, z5, z6, z7, z8, z9, z10, z11, z12, z13, z14, z15, z16, z17, z18, z19⟩ := HCC.out _ HB1.out)
        | (go_at_call 15; (with_reducible refine (HSM.out _ HB1.out.bel).mono ?_); rintro e w2 ⟨rfl, hb2⟩; have HB2 := Lib.hid (HB1.out.next hb2); clear hb2))
      go_ret
      exact ⟨rfl, HB2.out.bel⟩
    | true =>
      have HWO := HWR.out
      by_cases h4 : T ≤ 400
      · have d1 : decide ((T : Int) ≤ 400) = true := decide_eq_true (by omega)
        have HD : Hid (decide (T ≤ 400) = true) := Lib.hid (decide_eq_true h4)
        go_enter Tryz.func10, Tryz.ntmps10
        go_upto_region 1 with fail
        obtain ⟨W0, hW0⟩ : ∃ W0, w.alloc (.cells #[.int .u8 kd, .string qi, .string qc, .string qn, .string qx, .string qb, .string nc, .int .i64 ix, .string x.iss, .string x.sch, .int .i64 x.ver, .slice A n c, .string x.a, .string x.e, .string x.v, .int .i64 x.ep, .string x.wit, .string sc, .int .i64 pd, .int .i64 lm] 49) = W0 := ⟨_, rfl⟩
        rw [hW0] at HB0 ⊢
        clear hW0
        obtain ⟨z0, z1, z2, z3, z4, z5, z6, z7, z8, z9, z10, z11, z12, z13, z14, z15, z16, z17, z18, z19⟩ := HCC.out _ HB0.out
        go_wp2_with (first
          | (go_at_call 5; (with_reducible refine (HF.out W0 1).mono ?_); rintro e w1 ⟨rfl, hb1⟩; have HB1 := Lib.hid ((HB0.out.next ((Below.refl _ _).alloc (Nat.le_refl _) (.cells #[.string qi, .string qc, .string qn, .string qx, .string qb] 40))).next hb1); clear hb1 z0 z1 z2 z3 z4 z5 z6 z7 z8 z9 z10 z11 z12 z13 z14 z15 z16 z17 z18 z19; obtain ⟨z0, z1, z2, z3, z4, z5, z6, z7, z8, z9, z10, z11, z12, z13, z14, z15, z16, z17, z18, z19⟩ := HCC.out _ HB1.out)
          | (go_at_call 15; (with_reducible refine (HSM.out _ HB1.out.bel).mono ?_); rintro e w2 ⟨rfl, hb2⟩; have HB2 := Lib.hid (HB1.out.next hb2); clear hb2 z0 z1 z2 z3 z4 z5 z6 z7 z8 z9 z10 z11 z12 z13 z14 z15 z16 z17 z18 z19; obtain ⟨z0, z1, z2, z3, z4, z5, z6, z7, z8, z9, z10, z11, z12, z13, z14, z15, z16, z17, z18, z19⟩ := HCC.out _ HB2.out))
        go_ret
        exact ⟨by rw [HD.out]; simp, HB2.out.bel⟩
      · have d1 : decide ((T : Int) ≤ 400) = false := decide_eq_false (by omega)
        have HD : Hid (decide (T ≤ 400) = false) := Lib.hid (decide_eq_false h4)
        go_enter Tryz.func10, Tryz.ntmps10
        go_upto_region 1 with fail
        obtain ⟨W0, hW0⟩ : ∃ W0, w.alloc (.cells #[.int .u8 kd, .string qi, .string qc, .string qn, .string qx, .string qb, .string nc, .int .i64 ix, .string x.iss, .string x.sch, .int .i64 x.ver, .slice A n c, .string x.a, .string x.e, .string x.v, .int .i64 x.ep, .string x.wit, .string sc, .int .i64 pd, .int .i64 lm] 49) = W0 := ⟨_, rfl⟩
        rw [hW0] at HB0 ⊢
        clear hW0
        obtain ⟨z0, z1, z2, z3, z4, z5, z6, z7, z8, z9, z10, z11, z12, z13, z14, z15, z16, z17, z18, z19⟩ := HCC.out _ HB0.out
        go_wp2_with (first
          | (go_at_call 5; (with_reducible refine (HF.out W0 1).mono ?_); rintro e w1 ⟨rfl, hb1⟩; have HB1 := Lib.hid ((HB0.out.next ((Below.refl _ _).alloc (Nat.le_refl _) (.cells #[.string qi, .string qc, .string qn, .string qx, .string qb] 40))).next hb1); clear hb1 z0 z1 z2 z3 z4 z5 z6 z7 z8 z9 z10 z11 z12 z13 z14 z15 z16 z17 z18 z19; obtain ⟨z0, z1, z2, z3, z4, z5, z6, z7, z8, z9, z10, z11, z12, z13, z14, z15, z16, z17, z18, z19⟩ := HCC.out _ HB1.out)
          | (go_at_call 15; (with_reducible refine (HSM.out _ HB1.out.bel).mono ?_); rintro e w2 ⟨rfl, hb2⟩; have HB2 := Lib.hid (HB1.out.next hb2); clear hb2 z0 z1 z2 z3 z4 z5 z6 z7 z8 z9 z10 z11 z12 z13 z14 z15 z16 z17 z18 z19; obtain ⟨z0, z1, z2, z3, z4, z5, z6, z7, z8, z9, z10, z11, z12, z13, z14, z15, z16, z17, z18, z19⟩ := HCC.out _ HB2.out))
        go_ret
        exact ⟨by rw [HD.out]; simp, HB2.out.bel⟩
end Go.Proofs.YtjhlddlocpkhkaaGreat

namespace Go.Proofs.YtjhlddlocpkhkaaGreat
open Go.RowKit
set_option maxRecDepth 100000
set_option linter.unusedVariables false
set_option maxHeartbeats 4000000
/-- A reader's box. -/
def RdB (s : ByteArray) (at_ rb : Nat) (w : World) : Prop := w.heap[rb]? = some (.cells #[.string s, .int .i64 (at_ : Int)] 145 (0, 0))
section
variable {s : ByteArray} {a rb : Nat} {w w' : World}
theorem RdB.cells (h : RdB s a rb w) : (w.cell? ⟨rb, 0, none⟩ = some (.string s) ∧ w.cell? ⟨rb, 1, none⟩ = some (.int .i64 (a : Int))) ∧ w.frozen? ⟨rb, 1, none⟩ = false :=
  ⟨⟨cell_of_row w _ 0 _ _ _ h, cell_of_row w _ 1 _ _ _ h⟩, frozen_of_row w _ 1 _ _ h⟩
theorem RdB.drew (h : RdB s a rb w) : RdB s a rb w.drew := h
theorem RdB.put (h : RdB s a rb w) (a' : Nat) : RdB s a' rb (w.setCell ⟨rb, 1, none⟩ (.int .i64 (a' : Int))) := heap_setCell_same w rb 1 _ _ _ h
theorem RdB.keep (h : RdB s a rb w) (hb : Below w.heap.size w w') (hl : rb < w.heap.size) : RdB s a rb w' := (hb.block _ hl).trans h
theorem RdB.lt (h : RdB s a rb w) : rb < w.heap.size := (Array.getElem?_eq_some_iff.1 h).1
end
theorem wrap64_byte (b : UInt8) : wrap64 (b.toNat : Int) = (b.toNat : Int) := by
  have := b.toNat_lt
  unfold wrap64
  omega
theorem gb_drewN {w : World} {row : Option Nat} {n : Nat} : w.grownBy (w.drewN n) row := ⟨rfl, rfl, rfl, Nat.le_refl _, fun _ _ _ => rfl⟩
theorem wOr {x y k : Nat} (hx : x < 2 ^ k) (hy : y < 128) (hk : k ≤ 14) : bits .or .i64 (x : Int) ((y : Int) * 2 ^ k) = ((x + 2 ^ k * y : Nat) : Int) := by
  have hp : 2 ^ k ≤ 2 ^ 14 := Nat.pow_le_pow_right (by decide) hk
  have hb : y * 2 ^ k < 128 * 2 ^ 14 := Nat.lt_of_lt_of_le (Nat.mul_lt_mul_of_pos_right hy (Nat.two_pow_pos k)) (Nat.mul_le_mul_left _ hp)
  have e1 : ((y : Int) * 2 ^ k) = ((y * 2 ^ k : Nat) : Int) := by simp
  have hx2 : x ||| y * 2 ^ k < 2 ^ 63 := Nat.or_lt_two_pow (by omega) (by omega)
  rw [e1]
  show IntKind.i64.wrap ((BitVec.ofInt 64 (x : Int) ||| BitVec.ofInt 64 ((y * 2 ^ k : Nat) : Int)).toNat : Int) = _
  rw [BitVec.toNat_or, ofInt_u64 x (by omega), ofInt_u64 (y * 2 ^ k) (by omega)]
  have e2 : x ||| y * 2 ^ k = x + 2 ^ k * y := by
    rw [Nat.or_comm, Nat.mul_comm y]
    have := Nat.two_pow_add_eq_or_of_lt hx y
    omega
  rw [e2] at hx2 ⊢
  generalize x + 2 ^ k * y = c at hx2 ⊢
  simp only [IntKind.wrap, IntKind.bits, IntKind.signed]
  simp
  omega
theorem wAnd {y : Nat} (hy : y < 256) : bits .and .i64 (y : Int) 127 = ((y % 128 : Nat) : Int) := by
  have hx : y &&& 127 < 2 ^ 63 := Nat.and_lt_two_pow _ (by omega)
  show IntKind.i64.wrap ((BitVec.ofInt 64 (y : Int) &&& BitVec.ofInt 64 ((127 : Nat) : Int)).toNat : Int) = _
  rw [BitVec.toNat_and, ofInt_u64 y (by omega), ofInt_u64 127 (by omega)]
  have e2 : y &&& 127 = y % 128 := Nat.and_two_pow_sub_one_eq_mod y 7
  rw [e2]
  simp only [IntKind.wrap, IntKind.bits, IntKind.signed]
  simp
  omega
theorem enc_size (s : ByteArray) (a e n a2 rb : Nat) (w : World) (he : e ≤ s.size) (hs : s.size ≤ 65536) (h : szS 5 0 (seg s a e) = some (n, seg s a2 e)) (h2 : a2 ≤ e) (hn : n ≤ e - a2) (hb : RdB s a rb w) :
    Calls Tryz.prog 123 #[.pointer (some ⟨rb, 0, none⟩), .int .i64 (e : Int)] w fun o w' => o = .returned (.int .i64 (n : Int)) ∧ RdB s a2 rb w' ∧ w.grownBy w' (some rb) := by
  have HP := Lib.hid (And.intro he (And.intro hs (And.intro h2 hn)))
  have HB := Lib.hid hb
  have HZ := Lib.hid h
  clear h hb
  go_enter Tryz.func123, Tryz.ntmps123
  go_wp2_with fail
  go_loopw [5, 6] (fun v5 v6 wr => ∃ k c acc m : Nat, k ≤ 2 ∧ v5 = .int .i64 (acc : Int) ∧ v6 = .int .i64 (k : Int) ∧ acc < 2 ^ (7 * k) ∧ szS (5 - k) k (seg s c e) = some (m, seg s a2 e) ∧ acc + 2 ^ (7 * k) * m = n ∧ RdB s c rb wr ∧ w.grownBy wr (some rb)) (fun _ v6 _ => 3 - (intOf v6).toNat)
  case atStart => exact ⟨0, a, 0, n, by omega, rfl, rfl, by decide, HZ.out, by simp, HB.out, gb_refl⟩
  case round =>
    obtain ⟨k, c, acc, m, hk, rfl, rfl, hacc, hsz, hsum, hbx, hgr⟩ := hrel
    have hce : c < e := by
      apply Classical.byContradiction
      intro hh
      rw [seg_nil (by omega), show 5 - k = (4 - k) + 1 by omega] at hsz
      simp [szS] at hsz
    have hcs : c < s.size := by omega
    rw [seg_cons hce he, show 5 - k = (4 - k) + 1 by omega] at hsz
    obtain ⟨b, hbv⟩ : ∃ b, s[c]'hcs = b := ⟨_, rfl⟩
    rw [hbv] at hsz
    have hst := szS_step hsz
    have HBX := Lib.hid hbx
    have HGR := Lib.hid hgr
    obtain ⟨⟨c0, c1⟩, f1⟩ := hbx.cells
    have HSTEP := Lib.hid hst
    have HACC := Lib.hid hacc
    have HSUM := Lib.hid hsum
    have HBV := Lib.hid hbv
    have i1 : (c : Int) < (s.size : Int) := by omega
    have d1 : decide ((e : Int) ≤ (c : Int)) = false := decide_eq_false (by omega)
    have d2 : decide (e ≤ c) = false := decide_eq_false (by omega)
    have i2 : decide (c < s.size) = true := decide_eq_true (by omega)
    clear hst hsz hbx hgr hacc hsum hbv
    obtain ⟨y, hy⟩ : ∃ y, b.toNat = y := ⟨_, rfl⟩
    have hy8 : y < 256 := by rw [← hy]; exact b.toNat_lt
    have HY : Hid (wrap64 (((s[c]'hcs).toNat : Nat) : Int) = (y : Int)) := Lib.hid (by rw [HBV.out, hy, ← hy]; exact wrap64_byte b)
    have HSTY := HSTEP.out
    rw [hy] at HSTY
    have HST := Lib.hid HSTY
    have HA := Lib.hid (wAnd hy8)
    clear HSTY HSTEP hy
    have hacc' := HACC.out
    rcases (show k = 0 ∨ k = 1 ∨ k = 2 by omega) with rfl | rfl | rfl
    · rw [show ((0 : Nat) : Int) = 0 from rfl]
      go_upto_region 6 with fail
      go_quiet ((fail))
      rw [HY.out]
      by_cases hl : y < 128
      · have l1 : decide ((y : Int) < 128) = true := decide_eq_true (by omega)
        have l2 : decide (y < 128) = true := decide_eq_true hl
        cases hy0 : ((y : Int) == 0)
        · 
          have hl1 : n = acc + 2 ^ (7 * 0) * y ∧ c + 1 = a2 := by
            rcases HST.out.2 with ⟨_, h1, h3⟩ | ⟨h1, _⟩
            · refine ⟨by rw [← HSUM.out, h1], ?_⟩
              have := congrArg List.length h3
              rw [seg_len HP.out.1, seg_len HP.out.1] at this
              omega
            · omega
          obtain ⟨hn1, ha2⟩ := hl1
          have HV : Hid (bits .or .i64 (acc : Int) (wrap64 (bits .and .i64 (y : Int) 127)) = (n : Int)) := Lib.hid (by
            have hor := wOr (x := acc) (y := y) (k := 7 * 0) HACC.out hl (by decide)
            rw [HA.out, Nat.mod_eq_of_lt hl]
            rw [show wrap64 ((y : Int)) = (y : Int) * 2 ^ (7 * 0) by unfold wrap64; omega, hor, hn1])
          obtain ⟨q, hq⟩ : ∃ q, e - a2 = q := ⟨_, rfl⟩
          have hqn : n ≤ q := by rw [← hq]; exact HP.out.2.2.2
          have hwr : wrap64 ((e : Int) - ((c : Int) + 1)) = (q : Int) := by have := HP.out; unfold wrap64; omega
          have d5 : decide (q < n) = false := decide_eq_false (by omega)
          have d6 : decide ((q : Int) < (n : Int)) = false := decide_eq_false (by omega)
          have hac : ((c : Int) + 1) = ((a2 : Nat) : Int) := by omega
          have HAC := Lib.hid hac
          clear hac hn1 hq hqn
          go_upto_region 12 with fail
          rw [HV.out]
          go_wp2_with fail
          go_ret
          rw [HAC.out]
          exact ⟨rfl, (HBX.out).put a2, HGR.out.trans (gb_drewN.trans gb_set)⟩
        · 
          have hl1 : n = acc + 2 ^ (7 * 0) * y ∧ c + 1 = a2 := by
            rcases HST.out.2 with ⟨_, h1, h3⟩ | ⟨h1, _⟩
            · refine ⟨by rw [← HSUM.out, h1], ?_⟩
              have := congrArg List.length h3
              rw [seg_len HP.out.1, seg_len HP.out.1] at this
              omega
            · omega
          obtain ⟨hn1, ha2⟩ := hl1
          have HV : Hid (bits .or .i64 (acc : Int) (wrap64 (bits .and .i64 (y : Int) 127)) = (n : Int)) := Lib.hid (by
            have hor := wOr (x := acc) (y := y) (k := 7 * 0) HACC.out hl (by decide)
            rw [HA.out, Nat.mod_eq_of_lt hl]
            rw [show wrap64 ((y : Int)) = (y : Int) * 2 ^ (7 * 0) by unfold wrap64; omega, hor, hn1])
          obtain ⟨q, hq⟩ : ∃ q, e - a2 = q := ⟨_, rfl⟩
          have hqn : n ≤ q := by rw [← hq]; exact HP.out.2.2.2
          have hwr : wrap64 ((e : Int) - ((c : Int) + 1)) = (q : Int) := by have := HP.out; unfold wrap64; omega
          have d5 : decide (q < n) = false := decide_eq_false (by omega)
          have d6 : decide ((q : Int) < (n : Int)) = false := decide_eq_false (by omega)
          have hac : ((c : Int) + 1) = ((a2 : Nat) : Int) := by omega
          have HAC := Lib.hid hac
          clear hac hn1 hq hqn
          go_upto_region 12 with fail
          rw [HV.out]
          go_wp2_with fail
          go_ret
          rw [HAC.out]
          exact ⟨rfl, (HBX.out).put a2, HGR.out.trans (gb_drewN.trans gb_set)⟩
      · have l1 : decide ((y : Int) < 128) = false := decide_eq_false (by omega)
        have l2 : decide (y < 128) = false := decide_eq_false hl
        have hy0 : ((y : Int) == 0) = false := by simp; omega
        have hl1 : ∃ m', szS (5 - (0 + 1)) (0 + 1) (seg s (c + 1) e) = some (m', seg s a2 e) ∧ acc + 2 ^ (7 * 0) * (y - 128 + 128 * m') = n := by
          rcases HST.out.2 with ⟨h1, _⟩ | ⟨_, m', h1, h3⟩
          · omega
          · exact ⟨m', h1, by rw [← HSUM.out, h3]⟩
        obtain ⟨m', hm1, hm2⟩ := hl1
        have HM := Lib.hid (And.intro hm1 hm2)
        have HV : Hid (bits .or .i64 (acc : Int) (wrap64 (bits .and .i64 (y : Int) 127)) = ((acc + 2 ^ (7 * 0) * (y - 128) : Nat) : Int)) := Lib.hid (by
          have hor := wOr (x := acc) (y := y - 128) (k := 7 * 0) HACC.out (by omega) (by decide)
          rw [HA.out, show y % 128 = y - 128 by omega]
          rw [show wrap64 (((y - 128 : Nat) : Int)) = ((y - 128 : Nat) : Int) * 2 ^ (7 * 0) by unfold wrap64; omega, hor])
        clear hm1 hm2
        go_wp2_with fail
        go_roundw
        case rel => exact ⟨0 + 1, c + 1, acc + 2 ^ (7 * 0) * (y - 128), m', by omega, by rw [HV.out], rfl, by have := HACC.out; omega, HM.out.1, by have := HM.out.2; omega, HBX.out.put (c + 1), HGR.out.trans (gb_drewN.trans gb_set)⟩
        case measure => simp [intOf]
    · rw [show ((1 : Nat) : Int) = 1 from rfl]
      go_upto_region 6 with fail
      go_quiet ((fail))
      rw [HY.out]
      by_cases hl : y < 128
      · have l1 : decide ((y : Int) < 128) = true := decide_eq_true (by omega)
        have l2 : decide (y < 128) = true := decide_eq_true hl
        have hy0 : ((y : Int) == 0) = false := by
          have := HST.out.1
          simp
          omega
        have hl1 : n = acc + 2 ^ (7 * 1) * y ∧ c + 1 = a2 := by
          rcases HST.out.2 with ⟨_, h1, h3⟩ | ⟨h1, _⟩
          · refine ⟨by rw [← HSUM.out, h1], ?_⟩
            have := congrArg List.length h3
            rw [seg_len HP.out.1, seg_len HP.out.1] at this
            omega
          · omega
        obtain ⟨hn1, ha2⟩ := hl1
        have HV : Hid (bits .or .i64 (acc : Int) (wrap64 (bits .and .i64 (y : Int) 127 * 128)) = (n : Int)) := Lib.hid (by
          have hor := wOr (x := acc) (y := y) (k := 7 * 1) HACC.out hl (by decide)
          rw [HA.out, Nat.mod_eq_of_lt hl]
          rw [show wrap64 ((y : Int) * 128) = (y : Int) * 2 ^ (7 * 1) by unfold wrap64; omega, hor, hn1])
        obtain ⟨q, hq⟩ : ∃ q, e - a2 = q := ⟨_, rfl⟩
        have hqn : n ≤ q := by rw [← hq]; exact HP.out.2.2.2
        have hwr : wrap64 ((e : Int) - ((c : Int) + 1)) = (q : Int) := by have := HP.out; unfold wrap64; omega
        have d5 : decide (q < n) = false := decide_eq_false (by omega)
        have d6 : decide ((q : Int) < (n : Int)) = false := decide_eq_false (by omega)
        have hac : ((c : Int) + 1) = ((a2 : Nat) : Int) := by omega
        have HAC := Lib.hid hac
        clear hac hn1 hq hqn
        go_upto_region 12 with fail
        rw [HV.out]
        go_wp2_with fail
        go_ret
        rw [HAC.out]
        exact ⟨rfl, (HBX.out).put a2, HGR.out.trans (gb_drewN.trans gb_set)⟩
      · have l1 : decide ((y : Int) < 128) = false := decide_eq_false (by omega)
        have l2 : decide (y < 128) = false := decide_eq_false hl
        have hy0 : ((y : Int) == 0) = false := by simp; omega
        have hl1 : ∃ m', szS (5 - (1 + 1)) (1 + 1) (seg s (c + 1) e) = some (m', seg s a2 e) ∧ acc + 2 ^ (7 * 1) * (y - 128 + 128 * m') = n := by
          rcases HST.out.2 with ⟨h1, _⟩ | ⟨_, m', h1, h3⟩
          · omega
          · exact ⟨m', h1, by rw [← HSUM.out, h3]⟩
        obtain ⟨m', hm1, hm2⟩ := hl1
        have HM := Lib.hid (And.intro hm1 hm2)
        have HV : Hid (bits .or .i64 (acc : Int) (wrap64 (bits .and .i64 (y : Int) 127 * 128)) = ((acc + 2 ^ (7 * 1) * (y - 128) : Nat) : Int)) := Lib.hid (by
          have hor := wOr (x := acc) (y := y - 128) (k := 7 * 1) HACC.out (by omega) (by decide)
          rw [HA.out, show y % 128 = y - 128 by omega]
          rw [show wrap64 (((y - 128 : Nat) : Int) * 128) = ((y - 128 : Nat) : Int) * 2 ^ (7 * 1) by unfold wrap64; omega, hor])
        clear hm1 hm2
        go_wp2_with fail
        go_roundw
        case rel => exact ⟨1 + 1, c + 1, acc + 2 ^ (7 * 1) * (y - 128), m', by omega, by rw [HV.out], rfl, by have := HACC.out; omega, HM.out.1, by have := HM.out.2; omega, HBX.out.put (c + 1), HGR.out.trans (gb_drewN.trans gb_set)⟩
        case measure => simp [intOf]
    · rw [show ((2 : Nat) : Int) = 2 from rfl]
      go_upto_region 6 with fail
      go_quiet ((fail))
      rw [HY.out]
      by_cases hl : y < 128
      · have l1 : decide ((y : Int) < 128) = true := decide_eq_true (by omega)
        have l2 : decide (y < 128) = true := decide_eq_true hl
        have hy0 : ((y : Int) == 0) = false := by
          have := HST.out.1
          simp
          omega
        have hl1 : n = acc + 2 ^ (7 * 2) * y ∧ c + 1 = a2 := by
          rcases HST.out.2 with ⟨_, h1, h3⟩ | ⟨h1, _⟩
          · refine ⟨by rw [← HSUM.out, h1], ?_⟩
            have := congrArg List.length h3
            rw [seg_len HP.out.1, seg_len HP.out.1] at this
            omega
          · omega
        obtain ⟨hn1, ha2⟩ := hl1
        have HV : Hid (bits .or .i64 (acc : Int) (wrap64 (bits .and .i64 (y : Int) 127 * 16384)) = (n : Int)) := Lib.hid (by
          have hor := wOr (x := acc) (y := y) (k := 7 * 2) HACC.out hl (by decide)
          rw [HA.out, Nat.mod_eq_of_lt hl]
          rw [show wrap64 ((y : Int) * 16384) = (y : Int) * 2 ^ (7 * 2) by unfold wrap64; omega, hor, hn1])
        obtain ⟨q, hq⟩ : ∃ q, e - a2 = q := ⟨_, rfl⟩
        have hqn : n ≤ q := by rw [← hq]; exact HP.out.2.2.2
        have hwr : wrap64 ((e : Int) - ((c : Int) + 1)) = (q : Int) := by have := HP.out; unfold wrap64; omega
        have d5 : decide (q < n) = false := decide_eq_false (by omega)
        have d6 : decide ((q : Int) < (n : Int)) = false := decide_eq_false (by omega)
        have hac : ((c : Int) + 1) = ((a2 : Nat) : Int) := by omega
        have HAC := Lib.hid hac
        clear hac hn1 hq hqn
        go_upto_region 12 with fail
        rw [HV.out]
        go_wp2_with fail
        go_ret
        rw [HAC.out]
        exact ⟨rfl, (HBX.out).put a2, HGR.out.trans (gb_drewN.trans gb_set)⟩
      · exfalso
        rcases HST.out.2 with ⟨h1, _⟩ | ⟨_, m', h1, h3⟩
        · exact hl h1
        · have := szS_pos h1 (by omega)
          have h4 := HSUM.out
          have := HP.out
          rw [h3] at h4
          omega
end Go.Proofs.YtjhlddlocpkhkaaGreat
