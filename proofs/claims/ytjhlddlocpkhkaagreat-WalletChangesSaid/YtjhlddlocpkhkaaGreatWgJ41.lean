/- Wallet: the law file's awake. Wallet: the law WalletChanges; printed by genNy.py. Wallet: words that open the arguments of a row: a wallet, a change; each string within the form's reach. Wallet: words that open the arguments of a row: slices, the wallet, the change. -/
import Derived.Test.YtjhlddlocpkhkaaGreatWgJ40
import Derived.Test.YtjhlddlocpkhkaaGreatWgJ37
import Derived.Test.YtjhlddlocpkhkaaGreatWgJ38
import Derived.Test.YtjhlddlocpkhkaaGreatWgJ00
import Derived.SizedLaws
namespace Go.Proofs.YtjhlddlocpkhkaaGreat
open Go.RowKit
set_option maxRecDepth 100000
set_option linter.unusedVariables false
set_option maxHeartbeats 8000000
/-- The example's entry, and what it says. -/
theorem lit_dec : decS ⟨#[2, 11, 1, 6, 115, 101, 99, 114, 101, 116, 0, 1, 5]⟩ = .ok (2, ⟨#[]⟩, ⟨#[]⟩, .cons 1 ⟨#[]⟩ ⟨#[115, 101, 99, 114, 101, 116]⟩ .nil (.cons 0 ⟨#[5]⟩ ⟨#[]⟩ .nil .nil)) := by
  have h2 : (encS (2, ⟨#[]⟩, ⟨#[]⟩, .cons 1 ⟨#[]⟩ ⟨#[115, 101, 99, 114, 101, 116]⟩ .nil (.cons 0 ⟨#[5]⟩ ⟨#[]⟩ .nil .nil))).2 = 0 := by decide +kernel
  have h1 : (encS (2, ⟨#[]⟩, ⟨#[]⟩, .cons 1 ⟨#[]⟩ ⟨#[115, 101, 99, 114, 101, 116]⟩ .nil (.cons 0 ⟨#[5]⟩ ⟨#[]⟩ .nil .nil))).1 = ⟨#[2, 11, 1, 6, 115, 101, 99, 114, 101, 116, 0, 1, 5]⟩ := by decide +kernel
  have := dec_enc h2
  rwa [h1] at this
theorem lit_apply (w : World) : Calls Tryz.prog 7 #[.agg #[.string ⟨#[]⟩, .slice none 0 0, .slice none 0 0, .slice none 0 0], .string ⟨#[2, 11, 1, 6, 115, 101, 99, 114, 101, 116, 0, 1, 5]⟩] w (ApGot w ⟨#[5]⟩ [] [] []) :=
  apply_secret ⟨#[]⟩ [] [] [] none none none 0 0 0 0 0 0 (fun _ => False) w rfl rfl rfl ok_nil (val_nil (by decide)) WalM.nil_ (fun g hg => hg.elim) _ _ _ _ _ _ lit_dec (by decide) ⟨#[5]⟩ [] [] [] (fun W A c rb S1 S2 hc hb hsl hS _ _ => wal_secret ⟨#[]⟩ none none none 0 0 0 0 0 0 ⟨#[5]⟩ ⟨#[]⟩ .nil A c rb S1 W hc hb hsl hS)
theorem law56_awake (w : World) : Calls Tryz.prog 6 #[] w fun e w' => e = .returned (.bool true) ∧ Below w.heap.size w w' := by
  have HAP := Lib.hid (fun W => lit_apply W)
  have hv5 : valid ⟨#[5]⟩ = true := by decide
  have HV := Lib.hid hv5
  clear hv5
  go_enter Tryz.func6, Tryz.ntmps6
  go_upto_region 2 with (go_at_call 7; (with_reducible refine (HAP.out _).mono ?_); rintro e w1 ⟨A1, n1, c1, A2, n2, c2, A3, n3, c3, rfl, l1, l2, l3, hm, hb⟩; have HB1 := Lib.hid (AwB.start (sec := ⟨#[5]⟩) (us := []) (c1 := c1) (c2 := c2) (c3 := c3) hb l1 l2 l3 hm); clear hm hb l1 l2 l3)
  obtain ⟨b1, hb1⟩ : ∃ b, w1.heap.size = b := ⟨_, rfl⟩
  obtain ⟨w2, hw2⟩ : ∃ w2, w1.alloc (.cells #[.string ⟨#[5]⟩, .slice A1 n1 c1, .slice A2 n2 c2, .slice A3 n3 c3] 27) = w2 := ⟨_, rfl⟩
  rw [hw2] at HB1 ⊢
  rw [hb1] at HB1 ⊢
  clear hw2 hb1
  obtain ⟨⟨x0, x1, x2, x3⟩, y0, y1, y2, y3⟩ := HB1.out.bc
  have HU1 := Lib.hid (HB1.out.use ⟨#[115]⟩ 1 2 0 [(⟨#[115]⟩, 1, 1)] ok_nil (val_nil HV.out) rfl rfl (by decide) (by decide) (by decide) (by decide) (by decide))
  go_upto_region 3 with (go_at_call 16; (with_reducible refine HU1.out.mono ?_); rintro e w3 ⟨B1, m1, d1, B2, m2, d2, B3, m3, d3, s3, rfl, l1, l2, l3, hm, hb⟩; have HB2 := Lib.hid ((HB1.out.next hb).put (d1 := d1) (d2 := d2) (d3 := d3) hm (fun g hg => ⟨Nat.le_trans HB1.out.bel.size hg.1, hg.2, by have := HB1.out.lt; have := hg.1; omega⟩) l1 l2 l3); obtain ⟨⟨x0, x1, x2, x3⟩, y0, y1, y2, y3⟩ := (HB1.out.next hb).bc; clear hm hb l1 l2 l3)
  clear x0 x1 x2 x3 y0 y1 y2 y3
  obtain ⟨w4, hw4⟩ : ∃ w4, ((((w3.setCell ⟨b1, 0, none⟩ (.string ⟨#[5]⟩)).setCell ⟨b1, 1, none⟩ (.slice B1 m1 d1)).setCell ⟨b1, 2, none⟩ (.slice B2 m2 d2)).setCell ⟨b1, 3, none⟩ (.slice B3 m3 d3)) = w4 := ⟨_, rfl⟩
  rw [hw4] at HB2 ⊢
  clear hw4
  obtain ⟨⟨x0, x1, x2, x3⟩, y0, y1, y2, y3⟩ := HB2.out.bc
  have HU2 := Lib.hid (HB2.out.use ⟨#[115]⟩ 1 2 1 [(⟨#[115]⟩, 1, 2)] (ok_one (by decide) (by decide)) (val_one HV.out (by decide)) (cnt_one _ _ _) (put_one _ _ _ _) (by decide) (by decide) (by decide) (by decide) (by decide))
  go_upto_region 4 with (go_at_call 16; (with_reducible refine HU2.out.mono ?_); rintro e w5 ⟨C1, o1, e1, C2, o2, e2, C3, o3, e3, s5, rfl, l1, l2, l3, hm, hb⟩; have HB3 := Lib.hid ((HB2.out.next hb).put (d1 := e1) (d2 := e2) (d3 := e3) hm (fun g hg => ⟨Nat.le_trans HB2.out.bel.size hg.1, hg.2, by have := HB2.out.lt; have := hg.1; omega⟩) l1 l2 l3); obtain ⟨⟨x0, x1, x2, x3⟩, y0, y1, y2, y3⟩ := (HB2.out.next hb).bc; clear hm hb l1 l2 l3)
  clear x0 x1 x2 x3 y0 y1 y2 y3
  obtain ⟨w6, hw6⟩ : ∃ w6, ((((w5.setCell ⟨b1, 0, none⟩ (.string ⟨#[5]⟩)).setCell ⟨b1, 1, none⟩ (.slice C1 o1 e1)).setCell ⟨b1, 2, none⟩ (.slice C2 o2 e2)).setCell ⟨b1, 3, none⟩ (.slice C3 o3 e3)) = w6 := ⟨_, rfl⟩
  rw [hw6] at HB3 ⊢
  clear hw6
  obtain ⟨⟨x0, x1, x2, x3⟩, y0, y1, y2, y3⟩ := HB3.out.bc
  have HU3 := Lib.hid (HB3.out.lim ⟨#[115]⟩ 1 2 (ok_one (by decide) (by decide)) (val_one HV.out (by decide)) (by rw [cnt_one]; decide))
  go_upto_region 5 with (go_at_call 16; (with_reducible refine HU3.out.mono ?_); rintro e w7 ⟨rfl, hb⟩; have HB4 := Lib.hid ((HB3.out.next hb).alloc (.cells #[.string ⟨#[]⟩, .slice none 0 0, .slice none 0 0, .slice none 0 0] 27)); clear hb)
  clear x0 x1 x2 x3 y0 y1 y2 y3
  obtain ⟨w8, hw8⟩ : ∃ w8, w7.alloc (.cells #[.string ⟨#[]⟩, .slice none 0 0, .slice none 0 0, .slice none 0 0] 27) = w8 := ⟨_, rfl⟩
  rw [hw8] at HB4 ⊢
  clear hw8
  obtain ⟨⟨x0, x1, x2, x3⟩, y0, y1, y2, y3⟩ := HB4.out.bc
  have HU4 := Lib.hid (HB4.out.use ⟨#[115]⟩ 2 2 0 [(⟨#[115]⟩, 1, 2), (⟨#[115]⟩, 2, 1)] (ok_one (by decide) (by decide)) (val_one HV.out (by decide)) (cnt_not (isU_off _ _ _ _ _ (by decide))) (by unfold putU; rw [isU_off _ _ _ _ _ (by decide)]; rfl) (by decide) (by decide) (by decide) (by decide) (by decide))
  go_upto_region 6 with (go_at_call 16; (with_reducible refine HU4.out.mono ?_); rintro e w9 ⟨D1, q1, f1, D2, q2, f2, D3, q3, f3, s9, rfl, l1, l2, l3, hm, hb⟩; have HB5 := Lib.hid ((HB4.out.next hb).alloc (.cells #[.string ⟨#[5]⟩, .slice D1 q1 f1, .slice D2 q2 f2, .slice D3 q3 f3] 27)); clear hm hb l1 l2 l3)
  clear x0 x1 x2 x3 y0 y1 y2 y3
  obtain ⟨w10, hw10⟩ : ∃ w10, w9.alloc (.cells #[.string ⟨#[5]⟩, .slice D1 q1 f1, .slice D2 q2 f2, .slice D3 q3 f3] 27) = w10 := ⟨_, rfl⟩
  rw [hw10] at HB5 ⊢
  clear hw10
  obtain ⟨⟨x0, x1, x2, x3⟩, y0, y1, y2, y3⟩ := HB5.out.bc
  go_wp2_with fail
  go_ret
  exact ⟨rfl, HB5.out.bel⟩
end Go.Proofs.YtjhlddlocpkhkaaGreat

namespace Go.Proofs.YtjhlddlocpkhkaaGreat
open Go.RowKit
set_option maxRecDepth 100000
set_option linter.unusedVariables false
set_option maxHeartbeats 16000000
theorem validU_pos : ∀ (us : List Uz) (seen : List (ByteArray × Int)), validU seen us = true → ∀ x ∈ us, 1 ≤ x.2.2
  | [], _, _, x, hx => by cases hx
  | y :: r, seen, h, x, hx => by
    unfold validU at h
    split at h
    · cases h
    · split at h
      · cases h
      · rcases List.mem_cons.1 hx with rfl | hx
        · omega
        · exact validU_pos r _ h x hx
theorem cnt_pos {sec : ByteArray} {qs : List Az} {hs : List Hz} {us : List Uz} (h : validW sec qs hs us = true) (f : Uz → Bool) : 0 ≤ cntU f us := by
  unfold validW at h
  simp only [Bool.and_eq_true] at h
  unfold cntU
  split
  · rename_i x hx
    have := validU_pos us [] h.2.2.2 x (List.mem_of_find?_eq_some hx)
    omega
  · exact Int.le_refl _
theorem sumA_mem {l : List Az} {y : Az} (h : y ∈ l) : sizeA y ≤ sumA l := by
  induction l with
  | nil => cases h
  | cons z r ih =>
    rcases List.mem_cons.1 h with rfl | h
    · simp only [sumA]; omega
    · have := ih h; simp only [sumA]; omega
theorem sumU_mem {l : List Uz} {y : Uz} (h : y ∈ l) : y.1.size ≤ sumU l := by
  induction l with
  | nil => cases h
  | cons z r ih =>
    rcases List.mem_cons.1 h with rfl | h
    · simp only [sumU]; omega
    · have := ih h; simp only [sumU]; omega
theorem few_all {sec : ByteArray} {qs : List Az} {hs : List Hz} {us : List Uz} (h : fewB sec qs hs us = true) : (qs.length ≤ 8 ∧ hs.length ≤ 8 ∧ us.length ≤ 8 ∧ sec.size ≤ 200 ∧ sumA qs + sumU us ≤ 1200) ∧ ∀ x ∈ hs, x.att.length ≤ 10 ∧ sizeH x ≤ 600 := by
  unfold fewB at h
  rw [Bool.and_eq_true] at h
  refine ⟨of_decide_eq_true h.1, fun x hx => ?_⟩
  have := List.all_eq_true.1 h.2 x hx
  exact of_decide_eq_true this
theorem few_okR {sec : ByteArray} {qs : List Az} {hs : List Hz} {us : List Uz} (h : fewB sec qs hs us = true) (hwf : ∀ x ∈ us, (Lit.int .i64 x.2.1).wf = true) : WalOk qs hs us := by
  obtain ⟨⟨h1, h2, h3, h4, h5⟩, h6⟩ := few_all h
  refine ⟨by omega, by omega, by omega, fun x hx => ?_, fun x hx => by have := (h6 x hx).1; omega, fun x hx => ⟨?_, hwf x hx⟩⟩
  · have := sumA_mem hx; unfold sizeA at this; omega
  · have := sumU_mem hx; omega
theorem short_all {y : Az} {x : Hz} {nc sc : ByteArray} (h : shortB y x nc sc = true) : sizeA y ≤ 1200 ∧ (x.att.length ≤ 10 ∧ sizeH x ≤ 600) ∧ nc.size + sc.size ≤ 400 := by
  unfold shortB at h
  simp only [Bool.and_eq_true] at h
  have h1 := (few_all h.1).1.2.2.2.2
  simp only [sumA, sumU] at h1
  exact ⟨by omega, of_decide_eq_true h.2.1, of_decide_eq_true h.2.2⟩
/-- The boxes of the law: the wallet and the change. -/
structure LwB (w : World) (bc cs : Array Value) (W : World) : Prop where
  one : W.heap[w.heap.size]? = some (.cells bc 27 (0, 0))
  two : W.heap[w.heap.size + 1]? = some (.cells cs 49 (0, 0))
  bel : Below w.heap.size w W
  size : w.heap.size + 2 ≤ W.heap.size
theorem LwB.next {w W w' : World} {bc cs : Array Value} (h : LwB w bc cs W) (hb : Below W.heap.size W w') : LwB w bc cs w' :=
  ⟨(hb.block _ (by have := h.size; omega)).trans h.one, (hb.block _ (by have := h.size; omega)).trans h.two, below2 h.bel hb, Nat.le_trans h.size hb.size⟩
theorem LwB.start {w : World} {bc cs : Array Value} : LwB w bc cs ((w.alloc (.cells bc 27)).alloc (.cells cs 49)) :=
  ⟨(two_boxes w _ _).1, (two_boxes w _ _).2, ((Below.refl _ _).alloc (Nat.le_refl _) _).alloc (by simp) _, by simp⟩
theorem wpList_look {P : Program} {ops : Array Oper} {rest : List Oper} {o : Oper} {a : Act} {w : World} {Q : Exit → Act → World → Prop} (h : wpList P ops Q (o :: rest) a w) : wpList P ops Q (o :: rest) a w := h
theorem wpList_load_row_g {P : Program} {ops : Array Oper} {rest : List Oper} {o : Oper} {a : Act} {w : World} {Q : Exit → Act → World → Prop} (hw : Region.wanted o (yielded ops a.tmps) = true) (ty : TypeId) (x : Operand) (ho : o.op = .load ty x)
    (g : Nat) (hx : a.eval x = .pointer (some ⟨g, 0, none⟩)) (t : TypeId) (cs : Array Value) (fr : Nat × Nat) (d : TypeDesc) (hg : w.heap[g]? = some (.cells cs t fr))
    (hu : P.underlying ty = some d) (hd : (match d with | .struct _ | .array _ _ => true | _ => false) = true) (hi : (P.info? ty).map (·.size) = some cs.size)
    (h : wpList P ops Q rest (a.put o.dst (.agg cs)) w) : wpList P ops Q (o :: rest) a w :=
  wpList_step fun K hK => by rw [if_pos hw]; exact wp_load_row ty x ho g hx t cs fr d hg hu hd hi (hK _ _ h)
theorem info20 : (Tryz.prog.info? 49).map (·.size) = some 20 := by kernel_rfl
/-- What do hands back is small. -/
def SmallR (R : Rs) : Prop := R.qs.length ≤ 100000 ∧ R.hs.length ≤ 100000 ∧ R.us.length ≤ 100000 ∧ ∀ x ∈ R.hs, x.att.length ≤ 100000
theorem smallR_err (z : Int) : SmallR (Rs.err z) := ⟨by simp [Rs.err], by simp [Rs.err], by simp [Rs.err], fun x hx => by simp [Rs.err] at hx⟩
theorem doR_small {sec : ByteArray} {qs : List Az} {hs : List Hz} {us : List Uz} {kd : Int} {qi qc qn qx qb nc : ByteArray} {ix : Int} {x : Hz} {sc : ByteArray} {pd lm : Int} (h1 : qs.length ≤ 8) (h2 : hs.length ≤ 8) (h3 : us.length ≤ 8) (h4 : ∀ x ∈ hs, x.att.length ≤ 10) (h5 : x.att.length ≤ 10) :
    SmallR (doR sec qs hs us kd qi qc qn qx qb nc ix x sc pd lm) := by
  have h4' : ∀ y ∈ hs, y.att.length ≤ 100000 := fun y hy => by have := h4 y hy; omega
  unfold doR
  split
  · unfold askR
    split
    · exact ⟨by simp; omega, by simp; omega, by simp; omega, h4'⟩
    · exact smallR_err _
  · split
    · unfold storeR
      split
      · refine ⟨Nat.le_trans (List.length_filter_le _ _) (by omega), by simp; omega, by simp; omega, fun y hy => ?_⟩
        rcases List.mem_append.1 hy with hy | hy
        · exact h4' y hy
        · rw [List.mem_singleton.1 hy]; omega
      · exact smallR_err _
    · split
      · unfold renewR
        split
        · refine ⟨by simp; omega, by simp; omega, by simp; omega, fun y hy => ?_⟩
          rcases List.mem_or_eq_of_mem_set hy with hy | hy
          · exact h4' y hy
          · rw [hy]; omega
        · exact smallR_err _
      · unfold useR
        split
        · exact ⟨by simp; omega, by simp; omega, Nat.le_trans (putU_len _ _) (by simp; omega), h4'⟩
        · exact smallR_err _
theorem changes_many (sec : ByteArray) (qs : List Az) (hs : List Hz) (us : List Uz) (Aa Ah Au : Option Addr) (na ca nh ch nu cu : Nat) (kd : Int) (qi qc qn qx qb nc : ByteArray) (ix : Int) (x : Hz) (A : Option Addr) (n c : Nat) (sc : ByteArray) (pd lm : Int) (S : Nat → Prop) (w : World) (r : Nat) (hr : r ≤ 140737488355328) (hba : ∀ x ∈ qs, BndA r x) (hbh : ∀ x ∈ hs, BndH r x) (hbu : ∀ x ∈ us, x.1.size ≤ r) (hwf : ∀ x ∈ us, (Lit.int .i64 x.2.1).wf = true) (hbc : BndA r (qi, qc, qn, qx, qb)) (hbx : BndH r x) (hbn : nc.size ≤ r) (hbs : sc.size ≤ r) (hq : qs.length = na) (hn : hs.length = nh) (hu : us.length = nu) (h : WalM w S qs hs us Aa Ah Au) (hS : ∀ g, S g → g < w.heap.size) (hkd : 0 ≤ kd ∧ kd ≤ 255) (hnx : x.att.length = n) (hix : -9223372036854775808 ≤ ix ∧ ix ≤ 9223372036854775807) (hxv : -9223372036854775808 ≤ x.ver ∧ x.ver ≤ 9223372036854775807) (hxe : -9223372036854775808 ≤ x.ep ∧ x.ep ≤ 9223372036854775807) (hpd : -9223372036854775808 ≤ pd ∧ pd ≤ 9223372036854775807) (hlm : lm ≤ 9223372036854775807) (hrow : RowC w S A n (cellsN x.att)) (hfw : fewB sec qs hs us = false) :
    Calls Tryz.prog 4 #[.agg #[.string sec, .slice Aa na ca, .slice Ah nh ch, .slice Au nu cu], .agg #[.int .u8 kd, .string qi, .string qc, .string qn, .string qx, .string qb, .string nc, .int .i64 ix, .string x.iss, .string x.sch, .int .i64 x.ver, .slice A n c, .string x.a, .string x.e, .string x.v, .int .i64 x.ep, .string x.wit, .string sc, .int .i64 pd, .int .i64 lm]] w fun e w' => e = .returned (.bool true) ∧ Below w.heap.size w w' := by
  have HAW := Lib.hid (fun W => law56_awake W)
  have HB0 := Lib.hid (LwB.start (w := w) (bc := #[.string sec, .slice Aa na ca, .slice Ah nh ch, .slice Au nu cu]) (cs := #[.int .u8 kd, .string qi, .string qc, .string qn, .string qx, .string qb, .string nc, .int .i64 ix, .string x.iss, .string x.sch, .int .i64 x.ver, .slice A n c, .string x.a, .string x.e, .string x.v, .int .i64 x.ep, .string x.wit, .string sc, .int .i64 pd, .int .i64 lm]))
  have HCC : Hid (∀ W, LwB w #[.string sec, .slice Aa na ca, .slice Ah nh ch, .slice Au nu cu] #[.int .u8 kd, .string qi, .string qc, .string qn, .string qx, .string qb, .string nc, .int .i64 ix, .string x.iss, .string x.sch, .int .i64 x.ver, .slice A n c, .string x.a, .string x.e, .string x.v, .int .i64 x.ep, .string x.wit, .string sc, .int .i64 pd, .int .i64 lm] W → W.cell? ⟨w.heap.size, 0, none⟩ = some (.string sec) ∧ W.cell? ⟨w.heap.size, 1, none⟩ = some (.slice Aa na ca) ∧ W.cell? ⟨w.heap.size, 2, none⟩ = some (.slice Ah nh ch) ∧ W.cell? ⟨w.heap.size, 3, none⟩ = some (.slice Au nu cu) ∧ W.cell? ⟨w.heap.size + 1, 0, none⟩ = some (.int .u8 kd) ∧ W.cell? ⟨w.heap.size + 1, 1, none⟩ = some (.string qi) ∧ W.cell? ⟨w.heap.size + 1, 2, none⟩ = some (.string qc) ∧ W.cell? ⟨w.heap.size + 1, 3, none⟩ = some (.string qn) ∧ W.cell? ⟨w.heap.size + 1, 4, none⟩ = some (.string qx) ∧ W.cell? ⟨w.heap.size + 1, 5, none⟩ = some (.string qb) ∧ W.cell? ⟨w.heap.size + 1, 6, none⟩ = some (.string nc) ∧ W.cell? ⟨w.heap.size + 1, 7, none⟩ = some (.int .i64 ix) ∧ W.cell? ⟨w.heap.size + 1, 8, none⟩ = some (.string x.iss) ∧ W.cell? ⟨w.heap.size + 1, 9, none⟩ = some (.string x.sch) ∧ W.cell? ⟨w.heap.size + 1, 10, none⟩ = some (.int .i64 x.ver) ∧ W.cell? ⟨w.heap.size + 1, 11, none⟩ = some (.slice A n c) ∧ W.cell? ⟨w.heap.size + 1, 12, none⟩ = some (.string x.a) ∧ W.cell? ⟨w.heap.size + 1, 13, none⟩ = some (.string x.e) ∧ W.cell? ⟨w.heap.size + 1, 14, none⟩ = some (.string x.v) ∧ W.cell? ⟨w.heap.size + 1, 15, none⟩ = some (.int .i64 x.ep) ∧ W.cell? ⟨w.heap.size + 1, 16, none⟩ = some (.string x.wit) ∧ W.cell? ⟨w.heap.size + 1, 17, none⟩ = some (.string sc) ∧ W.cell? ⟨w.heap.size + 1, 18, none⟩ = some (.int .i64 pd) ∧ W.cell? ⟨w.heap.size + 1, 19, none⟩ = some (.int .i64 lm)) := Lib.hid (fun W h => ⟨cell_of_row _ _ 0 _ _ _ h.one, cell_of_row _ _ 1 _ _ _ h.one, cell_of_row _ _ 2 _ _ _ h.one, cell_of_row _ _ 3 _ _ _ h.one, cell_of_row _ _ 0 _ _ _ h.two, cell_of_row _ _ 1 _ _ _ h.two, cell_of_row _ _ 2 _ _ _ h.two, cell_of_row _ _ 3 _ _ _ h.two, cell_of_row _ _ 4 _ _ _ h.two, cell_of_row _ _ 5 _ _ _ h.two, cell_of_row _ _ 6 _ _ _ h.two, cell_of_row _ _ 7 _ _ _ h.two, cell_of_row _ _ 8 _ _ _ h.two, cell_of_row _ _ 9 _ _ _ h.two, cell_of_row _ _ 10 _ _ _ h.two, cell_of_row _ _ 11 _ _ _ h.two, cell_of_row _ _ 12 _ _ _ h.two, cell_of_row _ _ 13 _ _ _ h.two, cell_of_row _ _ 14 _ _ _ h.two, cell_of_row _ _ 15 _ _ _ h.two, cell_of_row _ _ 16 _ _ _ h.two, cell_of_row _ _ 17 _ _ _ h.two, cell_of_row _ _ 18 _ _ _ h.two, cell_of_row _ _ 19 _ _ _ h.two⟩)
  have hk : ∀ W, Below w.heap.size w W → WalM W S qs hs us Aa Ah Au := fun W hb => h.keep (fun q hq => hb.cell (hS _ hq))
  have hr' : ∀ W, Below w.heap.size w W → RowC W S A n (cellsN x.att) := fun W hb => hrow.keep (fun q hq => hb.cell (hS _ hq))
  have hs' : ∀ W, Below w.heap.size w W → ∀ g, S g → g < W.heap.size := fun W hb g hg => Nat.lt_of_lt_of_le (hS g hg) hb.size
  have HMEM := Lib.hid (And.intro hk hs')
  have HF := Lib.hid (fun W (hb : Below w.heap.size w W) => law56_few sec qs hs us Aa Ah Au na ca nh ch nu cu S W r hr hba hbh hbu hq hn hu (hk W hb) (hs' W hb))
  have HSH := Lib.hid (fun W (hb : Below w.heap.size w W) => law56_short kd qi qc qn qx qb nc ix x A n c sc pd lm S W r hr hbc hbx hbn hbs hnx (hr' W hb) (hs' W hb))
  rw [hfw] at HF
  clear hr hba hbh hbu hwf hbc hbx hbn hbs hq hn hu h hS hkd hnx hix hxv hxe hpd hlm hrow hk hr' hs' hfw
  go_enter Tryz.func4, Tryz.ntmps4
  go_upto_region 1 with fail
  obtain ⟨W0, hW0⟩ : ∃ W0, ((w.alloc (.cells #[.string sec, .slice Aa na ca, .slice Ah nh ch, .slice Au nu cu] 27)).alloc (.cells #[.int .u8 kd, .string qi, .string qc, .string qn, .string qx, .string qb, .string nc, .int .i64 ix, .string x.iss, .string x.sch, .int .i64 x.ver, .slice A n c, .string x.a, .string x.e, .string x.v, .int .i64 x.ep, .string x.wit, .string sc, .int .i64 pd, .int .i64 lm] 49)) = W0 := ⟨_, rfl⟩
  rw [hW0] at HB0 ⊢
  clear hW0
  obtain ⟨x0, x1, x2, x3, z0, z1, z2, z3, z4, z5, z6, z7, z8, z9, z10, z11, z12, z13, z14, z15, z16, z17, z18, z19⟩ := HCC.out _ HB0.out
  go_wp2_with (first
    | ((with_reducible refine wpList_look ?_); refine wpList_load_row_g (by rfl) 49 (.tmp 3) rfl (w.heap.size + 1) rfl 49 #[.int .u8 kd, .string qi, .string qc, .string qn, .string qx, .string qb, .string nc, .int .i64 ix, .string x.iss, .string x.sch, .int .i64 x.ver, .slice A n c, .string x.a, .string x.e, .string x.v, .int .i64 x.ep, .string x.wit, .string sc, .int .i64 pd, .int .i64 lm] (0, 0) _ HB2.out.two Tryz.underlying49 rfl (info20.trans rfl) ?_)
    | ((with_reducible refine wpList_look ?_); refine wpList_load_row_g (by rfl) 49 (.tmp 3) rfl (w.heap.size + 1) rfl 49 #[.int .u8 kd, .string qi, .string qc, .string qn, .string qx, .string qb, .string nc, .int .i64 ix, .string x.iss, .string x.sch, .int .i64 x.ver, .slice A n c, .string x.a, .string x.e, .string x.v, .int .i64 x.ep, .string x.wit, .string sc, .int .i64 pd, .int .i64 lm] (0, 0) _ HB1.out.two Tryz.underlying49 rfl (info20.trans rfl) ?_)
    | ((with_reducible refine wpList_look ?_); refine wpList_load_row_g (by rfl) 49 (.tmp 3) rfl (w.heap.size + 1) rfl 49 #[.int .u8 kd, .string qi, .string qc, .string qn, .string qx, .string qb, .string nc, .int .i64 ix, .string x.iss, .string x.sch, .int .i64 x.ver, .slice A n c, .string x.a, .string x.e, .string x.v, .int .i64 x.ep, .string x.wit, .string sc, .int .i64 pd, .int .i64 lm] (0, 0) _ HB0.out.two Tryz.underlying49 rfl (info20.trans rfl) ?_)
    | (go_at_call 5; (with_reducible refine (HF.out _ HB0.out.bel).mono ?_); rintro e w1 ⟨rfl, hb1⟩; have HB1 := Lib.hid (HB0.out.next hb1); clear hb1)
    | (go_at_call 6; (with_reducible refine (HAW.out _).mono ?_); rintro e w2 ⟨rfl, hb2⟩; have HB2 := Lib.hid (HB1.out.next hb2); clear hb2))
  go_ret
  exact ⟨rfl, HB2.out.bel⟩
theorem changes_long (sec : ByteArray) (qs : List Az) (hs : List Hz) (us : List Uz) (Aa Ah Au : Option Addr) (na ca nh ch nu cu : Nat) (kd : Int) (qi qc qn qx qb nc : ByteArray) (ix : Int) (x : Hz) (A : Option Addr) (n c : Nat) (sc : ByteArray) (pd lm : Int) (S : Nat → Prop) (w : World) (r : Nat) (hr : r ≤ 140737488355328) (hba : ∀ x ∈ qs, BndA r x) (hbh : ∀ x ∈ hs, BndH r x) (hbu : ∀ x ∈ us, x.1.size ≤ r) (hwf : ∀ x ∈ us, (Lit.int .i64 x.2.1).wf = true) (hbc : BndA r (qi, qc, qn, qx, qb)) (hbx : BndH r x) (hbn : nc.size ≤ r) (hbs : sc.size ≤ r) (hq : qs.length = na) (hn : hs.length = nh) (hu : us.length = nu) (h : WalM w S qs hs us Aa Ah Au) (hS : ∀ g, S g → g < w.heap.size) (hkd : 0 ≤ kd ∧ kd ≤ 255) (hnx : x.att.length = n) (hix : -9223372036854775808 ≤ ix ∧ ix ≤ 9223372036854775807) (hxv : -9223372036854775808 ≤ x.ver ∧ x.ver ≤ 9223372036854775807) (hxe : -9223372036854775808 ≤ x.ep ∧ x.ep ≤ 9223372036854775807) (hpd : -9223372036854775808 ≤ pd ∧ pd ≤ 9223372036854775807) (hlm : lm ≤ 9223372036854775807) (hrow : RowC w S A n (cellsN x.att)) (hfw : fewB sec qs hs us = true) (hsw : shortB (qi, qc, qn, qx, qb) x nc sc = false) :
    Calls Tryz.prog 4 #[.agg #[.string sec, .slice Aa na ca, .slice Ah nh ch, .slice Au nu cu], .agg #[.int .u8 kd, .string qi, .string qc, .string qn, .string qx, .string qb, .string nc, .int .i64 ix, .string x.iss, .string x.sch, .int .i64 x.ver, .slice A n c, .string x.a, .string x.e, .string x.v, .int .i64 x.ep, .string x.wit, .string sc, .int .i64 pd, .int .i64 lm]] w fun e w' => e = .returned (.bool true) ∧ Below w.heap.size w w' := by
  have HAW := Lib.hid (fun W => law56_awake W)
  have HB0 := Lib.hid (LwB.start (w := w) (bc := #[.string sec, .slice Aa na ca, .slice Ah nh ch, .slice Au nu cu]) (cs := #[.int .u8 kd, .string qi, .string qc, .string qn, .string qx, .string qb, .string nc, .int .i64 ix, .string x.iss, .string x.sch, .int .i64 x.ver, .slice A n c, .string x.a, .string x.e, .string x.v, .int .i64 x.ep, .string x.wit, .string sc, .int .i64 pd, .int .i64 lm]))
  have HCC : Hid (∀ W, LwB w #[.string sec, .slice Aa na ca, .slice Ah nh ch, .slice Au nu cu] #[.int .u8 kd, .string qi, .string qc, .string qn, .string qx, .string qb, .string nc, .int .i64 ix, .string x.iss, .string x.sch, .int .i64 x.ver, .slice A n c, .string x.a, .string x.e, .string x.v, .int .i64 x.ep, .string x.wit, .string sc, .int .i64 pd, .int .i64 lm] W → W.cell? ⟨w.heap.size, 0, none⟩ = some (.string sec) ∧ W.cell? ⟨w.heap.size, 1, none⟩ = some (.slice Aa na ca) ∧ W.cell? ⟨w.heap.size, 2, none⟩ = some (.slice Ah nh ch) ∧ W.cell? ⟨w.heap.size, 3, none⟩ = some (.slice Au nu cu) ∧ W.cell? ⟨w.heap.size + 1, 0, none⟩ = some (.int .u8 kd) ∧ W.cell? ⟨w.heap.size + 1, 1, none⟩ = some (.string qi) ∧ W.cell? ⟨w.heap.size + 1, 2, none⟩ = some (.string qc) ∧ W.cell? ⟨w.heap.size + 1, 3, none⟩ = some (.string qn) ∧ W.cell? ⟨w.heap.size + 1, 4, none⟩ = some (.string qx) ∧ W.cell? ⟨w.heap.size + 1, 5, none⟩ = some (.string qb) ∧ W.cell? ⟨w.heap.size + 1, 6, none⟩ = some (.string nc) ∧ W.cell? ⟨w.heap.size + 1, 7, none⟩ = some (.int .i64 ix) ∧ W.cell? ⟨w.heap.size + 1, 8, none⟩ = some (.string x.iss) ∧ W.cell? ⟨w.heap.size + 1, 9, none⟩ = some (.string x.sch) ∧ W.cell? ⟨w.heap.size + 1, 10, none⟩ = some (.int .i64 x.ver) ∧ W.cell? ⟨w.heap.size + 1, 11, none⟩ = some (.slice A n c) ∧ W.cell? ⟨w.heap.size + 1, 12, none⟩ = some (.string x.a) ∧ W.cell? ⟨w.heap.size + 1, 13, none⟩ = some (.string x.e) ∧ W.cell? ⟨w.heap.size + 1, 14, none⟩ = some (.string x.v) ∧ W.cell? ⟨w.heap.size + 1, 15, none⟩ = some (.int .i64 x.ep) ∧ W.cell? ⟨w.heap.size + 1, 16, none⟩ = some (.string x.wit) ∧ W.cell? ⟨w.heap.size + 1, 17, none⟩ = some (.string sc) ∧ W.cell? ⟨w.heap.size + 1, 18, none⟩ = some (.int .i64 pd) ∧ W.cell? ⟨w.heap.size + 1, 19, none⟩ = some (.int .i64 lm)) := Lib.hid (fun W h => ⟨cell_of_row _ _ 0 _ _ _ h.one, cell_of_row _ _ 1 _ _ _ h.one, cell_of_row _ _ 2 _ _ _ h.one, cell_of_row _ _ 3 _ _ _ h.one, cell_of_row _ _ 0 _ _ _ h.two, cell_of_row _ _ 1 _ _ _ h.two, cell_of_row _ _ 2 _ _ _ h.two, cell_of_row _ _ 3 _ _ _ h.two, cell_of_row _ _ 4 _ _ _ h.two, cell_of_row _ _ 5 _ _ _ h.two, cell_of_row _ _ 6 _ _ _ h.two, cell_of_row _ _ 7 _ _ _ h.two, cell_of_row _ _ 8 _ _ _ h.two, cell_of_row _ _ 9 _ _ _ h.two, cell_of_row _ _ 10 _ _ _ h.two, cell_of_row _ _ 11 _ _ _ h.two, cell_of_row _ _ 12 _ _ _ h.two, cell_of_row _ _ 13 _ _ _ h.two, cell_of_row _ _ 14 _ _ _ h.two, cell_of_row _ _ 15 _ _ _ h.two, cell_of_row _ _ 16 _ _ _ h.two, cell_of_row _ _ 17 _ _ _ h.two, cell_of_row _ _ 18 _ _ _ h.two, cell_of_row _ _ 19 _ _ _ h.two⟩)
  have hk : ∀ W, Below w.heap.size w W → WalM W S qs hs us Aa Ah Au := fun W hb => h.keep (fun q hq => hb.cell (hS _ hq))
  have hr' : ∀ W, Below w.heap.size w W → RowC W S A n (cellsN x.att) := fun W hb => hrow.keep (fun q hq => hb.cell (hS _ hq))
  have hs' : ∀ W, Below w.heap.size w W → ∀ g, S g → g < W.heap.size := fun W hb g hg => Nat.lt_of_lt_of_le (hS g hg) hb.size
  have HMEM := Lib.hid (And.intro hk hs')
  have HF := Lib.hid (fun W (hb : Below w.heap.size w W) => law56_few sec qs hs us Aa Ah Au na ca nh ch nu cu S W r hr hba hbh hbu hq hn hu (hk W hb) (hs' W hb))
  have HSH := Lib.hid (fun W (hb : Below w.heap.size w W) => law56_short kd qi qc qn qx qb nc ix x A n c sc pd lm S W r hr hbc hbx hbn hbs hnx (hr' W hb) (hs' W hb))
  rw [hfw] at HF
  rw [hsw] at HSH
  clear hr hba hbh hbu hwf hbc hbx hbn hbs hq hn hu h hS hkd hnx hix hxv hxe hpd hlm hrow hk hr' hs' hfw hsw
  go_enter Tryz.func4, Tryz.ntmps4
  go_upto_region 1 with fail
  obtain ⟨W0, hW0⟩ : ∃ W0, ((w.alloc (.cells #[.string sec, .slice Aa na ca, .slice Ah nh ch, .slice Au nu cu] 27)).alloc (.cells #[.int .u8 kd, .string qi, .string qc, .string qn, .string qx, .string qb, .string nc, .int .i64 ix, .string x.iss, .string x.sch, .int .i64 x.ver, .slice A n c, .string x.a, .string x.e, .string x.v, .int .i64 x.ep, .string x.wit, .string sc, .int .i64 pd, .int .i64 lm] 49)) = W0 := ⟨_, rfl⟩
  rw [hW0] at HB0 ⊢
  clear hW0
  obtain ⟨x0, x1, x2, x3, z0, z1, z2, z3, z4, z5, z6, z7, z8, z9, z10, z11, z12, z13, z14, z15, z16, z17, z18, z19⟩ := HCC.out _ HB0.out
  go_wp2_with (first
    | ((with_reducible refine wpList_look ?_); refine wpList_load_row_g (by rfl) 49 (.tmp 3) rfl (w.heap.size + 1) rfl 49 #[.int .u8 kd, .string qi, .string qc, .string qn, .string qx, .string qb, .string nc, .int .i64 ix, .string x.iss, .string x.sch, .int .i64 x.ver, .slice A n c, .string x.a, .string x.e, .string x.v, .int .i64 x.ep, .string x.wit, .string sc, .int .i64 pd, .int .i64 lm] (0, 0) _ HB2.out.two Tryz.underlying49 rfl (info20.trans rfl) ?_)
    | ((with_reducible refine wpList_look ?_); refine wpList_load_row_g (by rfl) 49 (.tmp 3) rfl (w.heap.size + 1) rfl 49 #[.int .u8 kd, .string qi, .string qc, .string qn, .string qx, .string qb, .string nc, .int .i64 ix, .string x.iss, .string x.sch, .int .i64 x.ver, .slice A n c, .string x.a, .string x.e, .string x.v, .int .i64 x.ep, .string x.wit, .string sc, .int .i64 pd, .int .i64 lm] (0, 0) _ HB1.out.two Tryz.underlying49 rfl (info20.trans rfl) ?_)
    | ((with_reducible refine wpList_look ?_); refine wpList_load_row_g (by rfl) 49 (.tmp 3) rfl (w.heap.size + 1) rfl 49 #[.int .u8 kd, .string qi, .string qc, .string qn, .string qx, .string qb, .string nc, .int .i64 ix, .string x.iss, .string x.sch, .int .i64 x.ver, .slice A n c, .string x.a, .string x.e, .string x.v, .int .i64 x.ep, .string x.wit, .string sc, .int .i64 pd, .int .i64 lm] (0, 0) _ HB0.out.two Tryz.underlying49 rfl (info20.trans rfl) ?_)
    | (go_at_call 5; (with_reducible refine (HF.out _ HB0.out.bel).mono ?_); rintro e w1 ⟨rfl, hb1⟩; have HB1 := Lib.hid (HB0.out.next hb1); clear hb1 x0 x1 x2 x3 z0 z1 z2 z3 z4 z5 z6 z7 z8 z9 z10 z11 z12 z13 z14 z15 z16 z17 z18 z19; obtain ⟨x0, x1, x2, x3, z0, z1, z2, z3, z4, z5, z6, z7, z8, z9, z10, z11, z12, z13, z14, z15, z16, z17, z18, z19⟩ := HCC.out _ HB1.out)
    | (go_at_call 10; (with_reducible refine (HSH.out _ HB1.out.bel).mono ?_); rintro e w2 ⟨rfl, hb2⟩; have HB2 := Lib.hid (HB1.out.next hb2); clear hb2)
    | (go_at_call 6; (with_reducible refine (HAW.out _).mono ?_); rintro e w3 ⟨rfl, hb3⟩; have HB3 := Lib.hid (HB2.out.next hb3); clear hb3))
  go_ret
  exact ⟨rfl, HB3.out.bel⟩
theorem changes_short (sec : ByteArray) (qs : List Az) (hs : List Hz) (us : List Uz) (Aa Ah Au : Option Addr) (na ca nh ch nu cu : Nat) (kd : Int) (qi qc qn qx qb nc : ByteArray) (ix : Int) (x : Hz) (A : Option Addr) (n c : Nat) (sc : ByteArray) (pd lm : Int) (S : Nat → Prop) (w : World) (r : Nat) (hr : r ≤ 140737488355328) (hba : ∀ x ∈ qs, BndA r x) (hbh : ∀ x ∈ hs, BndH r x) (hbu : ∀ x ∈ us, x.1.size ≤ r) (hwf : ∀ x ∈ us, (Lit.int .i64 x.2.1).wf = true) (hbc : BndA r (qi, qc, qn, qx, qb)) (hbx : BndH r x) (hbn : nc.size ≤ r) (hbs : sc.size ≤ r) (hq : qs.length = na) (hn : hs.length = nh) (hu : us.length = nu) (h : WalM w S qs hs us Aa Ah Au) (hS : ∀ g, S g → g < w.heap.size) (hkd : 0 ≤ kd ∧ kd ≤ 255) (hnx : x.att.length = n) (hix : -9223372036854775808 ≤ ix ∧ ix ≤ 9223372036854775807) (hxv : -9223372036854775808 ≤ x.ver ∧ x.ver ≤ 9223372036854775807) (hxe : -9223372036854775808 ≤ x.ep ∧ x.ep ≤ 9223372036854775807) (hpd : -9223372036854775808 ≤ pd ∧ pd ≤ 9223372036854775807) (hlm : lm ≤ 9223372036854775807) (hrow : RowC w S A n (cellsN x.att)) (hfw : fewB sec qs hs us = true) (hsw : shortB (qi, qc, qn, qx, qb) x nc sc = true) :
    Calls Tryz.prog 4 #[.agg #[.string sec, .slice Aa na ca, .slice Ah nh ch, .slice Au nu cu], .agg #[.int .u8 kd, .string qi, .string qc, .string qn, .string qx, .string qb, .string nc, .int .i64 ix, .string x.iss, .string x.sch, .int .i64 x.ver, .slice A n c, .string x.a, .string x.e, .string x.v, .int .i64 x.ep, .string x.wit, .string sc, .int .i64 pd, .int .i64 lm]] w fun e w' => e = .returned (.bool true) ∧ Below w.heap.size w w' := by
  have HAW := Lib.hid (fun W => law56_awake W)
  have HB0 := Lib.hid (LwB.start (w := w) (bc := #[.string sec, .slice Aa na ca, .slice Ah nh ch, .slice Au nu cu]) (cs := #[.int .u8 kd, .string qi, .string qc, .string qn, .string qx, .string qb, .string nc, .int .i64 ix, .string x.iss, .string x.sch, .int .i64 x.ver, .slice A n c, .string x.a, .string x.e, .string x.v, .int .i64 x.ep, .string x.wit, .string sc, .int .i64 pd, .int .i64 lm]))
  have HCC : Hid (∀ W, LwB w #[.string sec, .slice Aa na ca, .slice Ah nh ch, .slice Au nu cu] #[.int .u8 kd, .string qi, .string qc, .string qn, .string qx, .string qb, .string nc, .int .i64 ix, .string x.iss, .string x.sch, .int .i64 x.ver, .slice A n c, .string x.a, .string x.e, .string x.v, .int .i64 x.ep, .string x.wit, .string sc, .int .i64 pd, .int .i64 lm] W → W.cell? ⟨w.heap.size, 0, none⟩ = some (.string sec) ∧ W.cell? ⟨w.heap.size, 1, none⟩ = some (.slice Aa na ca) ∧ W.cell? ⟨w.heap.size, 2, none⟩ = some (.slice Ah nh ch) ∧ W.cell? ⟨w.heap.size, 3, none⟩ = some (.slice Au nu cu) ∧ W.cell? ⟨w.heap.size + 1, 0, none⟩ = some (.int .u8 kd) ∧ W.cell? ⟨w.heap.size + 1, 1, none⟩ = some (.string qi) ∧ W.cell? ⟨w.heap.size + 1, 2, none⟩ = some (.string qc) ∧ W.cell? ⟨w.heap.size + 1, 3, none⟩ = some (.string qn) ∧ W.cell? ⟨w.heap.size + 1, 4, none⟩ = some (.string qx) ∧ W.cell? ⟨w.heap.size + 1, 5, none⟩ = some (.string qb) ∧ W.cell? ⟨w.heap.size + 1, 6, none⟩ = some (.string nc) ∧ W.cell? ⟨w.heap.size + 1, 7, none⟩ = some (.int .i64 ix) ∧ W.cell? ⟨w.heap.size + 1, 8, none⟩ = some (.string x.iss) ∧ W.cell? ⟨w.heap.size + 1, 9, none⟩ = some (.string x.sch) ∧ W.cell? ⟨w.heap.size + 1, 10, none⟩ = some (.int .i64 x.ver) ∧ W.cell? ⟨w.heap.size + 1, 11, none⟩ = some (.slice A n c) ∧ W.cell? ⟨w.heap.size + 1, 12, none⟩ = some (.string x.a) ∧ W.cell? ⟨w.heap.size + 1, 13, none⟩ = some (.string x.e) ∧ W.cell? ⟨w.heap.size + 1, 14, none⟩ = some (.string x.v) ∧ W.cell? ⟨w.heap.size + 1, 15, none⟩ = some (.int .i64 x.ep) ∧ W.cell? ⟨w.heap.size + 1, 16, none⟩ = some (.string x.wit) ∧ W.cell? ⟨w.heap.size + 1, 17, none⟩ = some (.string sc) ∧ W.cell? ⟨w.heap.size + 1, 18, none⟩ = some (.int .i64 pd) ∧ W.cell? ⟨w.heap.size + 1, 19, none⟩ = some (.int .i64 lm)) := Lib.hid (fun W h => ⟨cell_of_row _ _ 0 _ _ _ h.one, cell_of_row _ _ 1 _ _ _ h.one, cell_of_row _ _ 2 _ _ _ h.one, cell_of_row _ _ 3 _ _ _ h.one, cell_of_row _ _ 0 _ _ _ h.two, cell_of_row _ _ 1 _ _ _ h.two, cell_of_row _ _ 2 _ _ _ h.two, cell_of_row _ _ 3 _ _ _ h.two, cell_of_row _ _ 4 _ _ _ h.two, cell_of_row _ _ 5 _ _ _ h.two, cell_of_row _ _ 6 _ _ _ h.two, cell_of_row _ _ 7 _ _ _ h.two, cell_of_row _ _ 8 _ _ _ h.two, cell_of_row _ _ 9 _ _ _ h.two, cell_of_row _ _ 10 _ _ _ h.two, cell_of_row _ _ 11 _ _ _ h.two, cell_of_row _ _ 12 _ _ _ h.two, cell_of_row _ _ 13 _ _ _ h.two, cell_of_row _ _ 14 _ _ _ h.two, cell_of_row _ _ 15 _ _ _ h.two, cell_of_row _ _ 16 _ _ _ h.two, cell_of_row _ _ 17 _ _ _ h.two, cell_of_row _ _ 18 _ _ _ h.two, cell_of_row _ _ 19 _ _ _ h.two⟩)
  have hk : ∀ W, Below w.heap.size w W → WalM W S qs hs us Aa Ah Au := fun W hb => h.keep (fun q hq => hb.cell (hS _ hq))
  have hr' : ∀ W, Below w.heap.size w W → RowC W S A n (cellsN x.att) := fun W hb => hrow.keep (fun q hq => hb.cell (hS _ hq))
  have hs' : ∀ W, Below w.heap.size w W → ∀ g, S g → g < W.heap.size := fun W hb g hg => Nat.lt_of_lt_of_le (hS g hg) hb.size
  have HMEM := Lib.hid (And.intro hk hs')
  have HF := Lib.hid (fun W (hb : Below w.heap.size w W) => law56_few sec qs hs us Aa Ah Au na ca nh ch nu cu S W r hr hba hbh hbu hq hn hu (hk W hb) (hs' W hb))
  have HSH := Lib.hid (fun W (hb : Below w.heap.size w W) => law56_short kd qi qc qn qx qb nc ix x A n c sc pd lm S W r hr hbc hbx hbn hbs hnx (hr' W hb) (hs' W hb))
  rw [hfw] at HF
  rw [hsw] at HSH
  have hfo := few_okR hfw hwf
  obtain ⟨⟨e1, e2, e3, -, -⟩, e6⟩ := few_all hfw
  obtain ⟨t1, ⟨t2, t3⟩, t4⟩ := short_all hsw
  have HDO := Lib.hid (fun W (hb : Below w.heap.size w W) => law56_doR sec qs hs us Aa Ah Au na ca nh ch nu cu kd qi qc qn qx qb nc ix x A n c sc pd lm S W hfo hq hn hu (hk W hb) (hs' W hb) hkd (by unfold sizeA at t1; dsimp only at t1; omega) (by omega) (by omega) t2 t3 hnx hix hxv hxe hpd hlm (hr' W hb) (fun hv => cnt_pos hv _))
  have HSD := Lib.hid (fun W (hb : Below w.heap.size w W) => law56_shouldR sec qs hs us Aa Ah Au na ca nh ch nu cu kd qi qc qn qx qb nc ix x A n c sc pd lm S W hfo hq hn hu (hk W hb) (hs' W hb) hkd (by unfold sizeA at t1; dsimp only at t1; omega) (by omega) (by omega) t2 t3 hnx hix hxv hxe hpd hlm (hr' W hb) (fun hv => cnt_pos hv _))
  obtain ⟨R, hR⟩ : ∃ R, doR sec qs hs us kd qi qc qn qx qb nc ix x sc pd lm = R := ⟨_, rfl⟩
  have HLIM : Hid (SmallR R) := Lib.hid (by rw [← hR]; exact doR_small e1 e2 e3 (fun y hy => (e6 y hy).1) t2)
  rw [hR] at HDO HSD
  unfold GotR4 at HDO HSD
  have HSS := Lib.hid hS
  have d1 : (R.s.toList == R.s.toList) = true := by simp
  have d2 : (R.k == R.k) = true := by simp
  have d3 : (R.z == R.z) = true := by simp
  clear hR e1 e2 e3 e6
  clear hr hba hbh hbu hwf hbc hbx hbn hbs hq hn hu h hS hkd hnx hix hxv hxe hpd hlm hrow hk hr' hs' hfw hsw hfo t1 t2 t3 t4
  go_enter Tryz.func4, Tryz.ntmps4
  go_upto_region 1 with fail
  obtain ⟨W0, hW0⟩ : ∃ W0, ((w.alloc (.cells #[.string sec, .slice Aa na ca, .slice Ah nh ch, .slice Au nu cu] 27)).alloc (.cells #[.int .u8 kd, .string qi, .string qc, .string qn, .string qx, .string qb, .string nc, .int .i64 ix, .string x.iss, .string x.sch, .int .i64 x.ver, .slice A n c, .string x.a, .string x.e, .string x.v, .int .i64 x.ep, .string x.wit, .string sc, .int .i64 pd, .int .i64 lm] 49)) = W0 := ⟨_, rfl⟩
  rw [hW0] at HB0 ⊢
  clear hW0
  obtain ⟨x0, x1, x2, x3, z0, z1, z2, z3, z4, z5, z6, z7, z8, z9, z10, z11, z12, z13, z14, z15, z16, z17, z18, z19⟩ := HCC.out _ HB0.out
  go_upto_region 3 with (first
    | ((with_reducible refine wpList_look ?_); refine wpList_load_row_g (by rfl) 49 (.tmp 3) rfl (w.heap.size + 1) rfl 49 #[.int .u8 kd, .string qi, .string qc, .string qn, .string qx, .string qb, .string nc, .int .i64 ix, .string x.iss, .string x.sch, .int .i64 x.ver, .slice A n c, .string x.a, .string x.e, .string x.v, .int .i64 x.ep, .string x.wit, .string sc, .int .i64 pd, .int .i64 lm] (0, 0) _ HB2.out.two Tryz.underlying49 rfl (info20.trans rfl) ?_)
    | ((with_reducible refine wpList_look ?_); refine wpList_load_row_g (by rfl) 49 (.tmp 3) rfl (w.heap.size + 1) rfl 49 #[.int .u8 kd, .string qi, .string qc, .string qn, .string qx, .string qb, .string nc, .int .i64 ix, .string x.iss, .string x.sch, .int .i64 x.ver, .slice A n c, .string x.a, .string x.e, .string x.v, .int .i64 x.ep, .string x.wit, .string sc, .int .i64 pd, .int .i64 lm] (0, 0) _ HB1.out.two Tryz.underlying49 rfl (info20.trans rfl) ?_)
    | ((with_reducible refine wpList_look ?_); refine wpList_load_row_g (by rfl) 49 (.tmp 3) rfl (w.heap.size + 1) rfl 49 #[.int .u8 kd, .string qi, .string qc, .string qn, .string qx, .string qb, .string nc, .int .i64 ix, .string x.iss, .string x.sch, .int .i64 x.ver, .slice A n c, .string x.a, .string x.e, .string x.v, .int .i64 x.ep, .string x.wit, .string sc, .int .i64 pd, .int .i64 lm] (0, 0) _ HB0.out.two Tryz.underlying49 rfl (info20.trans rfl) ?_)
    | (go_at_call 5; (with_reducible refine (HF.out _ HB0.out.bel).mono ?_); rintro e w1 ⟨rfl, hb1⟩; have HB1 := Lib.hid (HB0.out.next hb1); clear hb1 x0 x1 x2 x3 z0 z1 z2 z3 z4 z5 z6 z7 z8 z9 z10 z11 z12 z13 z14 z15 z16 z17 z18 z19; obtain ⟨x0, x1, x2, x3, z0, z1, z2, z3, z4, z5, z6, z7, z8, z9, z10, z11, z12, z13, z14, z15, z16, z17, z18, z19⟩ := HCC.out _ HB1.out)
    | (go_at_call 10; (with_reducible refine (HSH.out _ HB1.out.bel).mono ?_); rintro e w2 ⟨rfl, hb2⟩; have HB2 := Lib.hid (HB1.out.next hb2); clear hb2 x0 x1 x2 x3 z0 z1 z2 z3 z4 z5 z6 z7 z8 z9 z10 z11 z12 z13 z14 z15 z16 z17 z18 z19; obtain ⟨x0, x1, x2, x3, z0, z1, z2, z3, z4, z5, z6, z7, z8, z9, z10, z11, z12, z13, z14, z15, z16, z17, z18, z19⟩ := HCC.out _ HB2.out))
  go_upto_region 4 with (first | ((with_reducible refine wpList_look ?_); refine wpList_load_row_g (by rfl) 49 (.tmp 3) rfl (w.heap.size + 1) rfl 49 #[.int .u8 kd, .string qi, .string qc, .string qn, .string qx, .string qb, .string nc, .int .i64 ix, .string x.iss, .string x.sch, .int .i64 x.ver, .slice A n c, .string x.a, .string x.e, .string x.v, .int .i64 x.ep, .string x.wit, .string sc, .int .i64 pd, .int .i64 lm] (0, 0) _ HB2.out.two Tryz.underlying49 rfl (info20.trans rfl) ?_) | (go_at_call 11; (with_reducible refine (HDO.out _ HB2.out.bel).mono ?_); rintro e w3 ⟨A1, c1, A2, c2, A3, c3, rfl, hm, hb3⟩; have HM3 := Lib.hid hm; have HB3 := Lib.hid (HB2.out.next hb3); have HSZ3 := Lib.hid hb3.size; clear hb3 hm x0 x1 x2 x3 z0 z1 z2 z3 z4 z5 z6 z7 z8 z9 z10 z11 z12 z13 z14 z15 z16 z17 z18 z19))
  have hal := (Below.refl w3.heap.size w3).alloc (Nat.le_refl _) (.cells #[.string R.sec, .slice A1 R.qs.length c1, .slice A2 R.hs.length c2, .slice A3 R.us.length c3] 27)
  have HB4 := Lib.hid (HB3.out.next hal)
  have hbx := heap_alloc_new w3 (.cells #[.string R.sec, .slice A1 R.qs.length c1, .slice A2 R.hs.length c2, .slice A3 R.us.length c3] 27)
  have HM4 := Lib.hid (HM3.out.keep (w' := w3.alloc (.cells #[.string R.sec, .slice A1 R.qs.length c1, .slice A2 R.hs.length c2, .slice A3 R.us.length c3] 27)) (fun p hp => hal.cell (by rcases hp with hp | hp; { exact Nat.lt_of_lt_of_le (HSS.out _ hp) HB3.out.bel.size }; { exact hp.2 })) |>.mono (S' := fun g => g < w3.heap.size) (fun g hg => by rcases hg with hg | hg; { exact Nat.lt_of_lt_of_le (HSS.out _ hg) HB3.out.bel.size }; { exact hg.2 }))
  have hlt : w3.heap.size < (w3.alloc (.cells #[.string R.sec, .slice A1 R.qs.length c1, .slice A2 R.hs.length c2, .slice A3 R.us.length c3] 27)).heap.size := by simp
  obtain ⟨w4, hw4⟩ : ∃ w4, w3.alloc (.cells #[.string R.sec, .slice A1 R.qs.length c1, .slice A2 R.hs.length c2, .slice A3 R.us.length c3] 27) = w4 := ⟨_, rfl⟩
  rw [hw4] at HB4 HM4 hbx hlt ⊢
  obtain ⟨b7, hb7⟩ : ∃ b, w3.heap.size = b := ⟨_, rfl⟩
  rw [hb7] at HM4 hbx hlt ⊢
  have HBX := Lib.hid hbx
  have HLT := Lib.hid hlt
  clear hw4 hb7 hal hbx hlt
  obtain ⟨x0, x1, x2, x3, z0, z1, z2, z3, z4, z5, z6, z7, z8, z9, z10, z11, z12, z13, z14, z15, z16, z17, z18, z19⟩ := HCC.out _ HB4.out
  go_upto_region 5 with (first | ((with_reducible refine wpList_look ?_); refine wpList_load_row_g (by rfl) 49 (.tmp 3) rfl (w.heap.size + 1) rfl 49 #[.int .u8 kd, .string qi, .string qc, .string qn, .string qx, .string qb, .string nc, .int .i64 ix, .string x.iss, .string x.sch, .int .i64 x.ver, .slice A n c, .string x.a, .string x.e, .string x.v, .int .i64 x.ep, .string x.wit, .string sc, .int .i64 pd, .int .i64 lm] (0, 0) _ HB4.out.two Tryz.underlying49 rfl (info20.trans rfl) ?_) | (go_at_call 12; (with_reducible refine (HSD.out _ HB4.out.bel).mono ?_); rintro e w5 ⟨D1, f1, D2, f2, D3, f3, rfl, hm, hb5⟩; have HM5 := Lib.hid hm; have HB5 := Lib.hid (HB4.out.next hb5); have HBB := Lib.hid hb5; clear hb5 hm x0 x1 x2 x3 z0 z1 z2 z3 z4 z5 z6 z7 z8 z9 z10 z11 z12 z13 z14 z15 z16 z17 z18 z19))
  have hal5 := (Below.refl w5.heap.size w5).alloc (Nat.le_refl _) (.cells #[.string R.sec, .slice D1 R.qs.length f1, .slice D2 R.hs.length f2, .slice D3 R.us.length f3] 27)
  have HB6 := Lib.hid (HB5.out.next hal5)
  have hbx6 := heap_alloc_new w5 (.cells #[.string R.sec, .slice D1 R.qs.length f1, .slice D2 R.hs.length f2, .slice D3 R.us.length f3] 27)
  have hlt6 : w5.heap.size < (w5.alloc (.cells #[.string R.sec, .slice D1 R.qs.length f1, .slice D2 R.hs.length f2, .slice D3 R.us.length f3] 27)).heap.size := by simp
  have HMb := Lib.hid ((HM5.out.keep (w' := w5.alloc (.cells #[.string R.sec, .slice D1 R.qs.length f1, .slice D2 R.hs.length f2, .slice D3 R.us.length f3] 27)) (fun p hp => hal5.cell (by rcases hp with hp | hp; { exact Nat.lt_of_lt_of_le (HSS.out _ hp) HB5.out.bel.size }; { exact hp.2 }))).mono (S' := fun g => g < w5.heap.size) (fun g hg => by rcases hg with hg | hg; { exact Nat.lt_of_lt_of_le (HSS.out _ hg) HB5.out.bel.size }; { exact hg.2 }))
  have HMa := Lib.hid (HM4.out.keep (w' := w5.alloc (.cells #[.string R.sec, .slice D1 R.qs.length f1, .slice D2 R.hs.length f2, .slice D3 R.us.length f3] 27)) (fun p hp => (hal5.cell (Nat.lt_of_lt_of_le (Nat.lt_trans hp HLT.out) HBB.out.size)).trans (HBB.out.cell (Nat.lt_trans hp HLT.out))))
  have hbx4 : (w5.alloc (.cells #[.string R.sec, .slice D1 R.qs.length f1, .slice D2 R.hs.length f2, .slice D3 R.us.length f3] 27)).heap[b7]? = some (.cells #[.string R.sec, .slice A1 R.qs.length c1, .slice A2 R.hs.length c2, .slice A3 R.us.length c3] 27 (0, 0)) := (hal5.block _ (Nat.lt_of_lt_of_le HLT.out HBB.out.size)).trans ((HBB.out.block _ HLT.out).trans HBX.out)
  have HSM := Lib.hid (r56_Same R.sec R.qs R.hs R.us A1 A2 A3 D1 D2 D3 R.qs.length c1 R.hs.length c2 R.us.length c3 f1 f2 f3 (fun g => g < w5.heap.size) _ rfl rfl rfl HLIM.out.1 HLIM.out.2.1 HLIM.out.2.2.1 HLIM.out.2.2.2 (HMa.out.mono (fun g hg => Nat.lt_of_lt_of_le (Nat.lt_trans hg HLT.out) HBB.out.size)) HMb.out (fun g hg => Nat.lt_trans hg hlt6))
  obtain ⟨w6, hw6⟩ : ∃ w6, w5.alloc (.cells #[.string R.sec, .slice D1 R.qs.length f1, .slice D2 R.hs.length f2, .slice D3 R.us.length f3] 27) = w6 := ⟨_, rfl⟩
  rw [hw6] at HB6 hbx6 hbx4 HSM ⊢
  obtain ⟨b8, hb8⟩ : ∃ b, w5.heap.size = b := ⟨_, rfl⟩
  rw [hb8] at hbx6 ⊢
  clear hw6 hb8 hal5 hlt6 HMa HMb HM5 HM4 HM3
  have y0 := cell_of_row _ _ 0 _ _ _ hbx4
  have y1 := cell_of_row _ _ 1 _ _ _ hbx4
  have y2 := cell_of_row _ _ 2 _ _ _ hbx4
  have y3 := cell_of_row _ _ 3 _ _ _ hbx4
  have v0 := cell_of_row _ _ 0 _ _ _ hbx6
  have v1 := cell_of_row _ _ 1 _ _ _ hbx6
  have v2 := cell_of_row _ _ 2 _ _ _ hbx6
  have v3 := cell_of_row _ _ 3 _ _ _ hbx6
  clear hbx4 hbx6
  go_wp2_with (first
    | (go_at_call 9; (with_reducible refine HSM.out.mono ?_); rintro e w7 ⟨rfl, hb7⟩; have HB8 := Lib.hid (HB6.out.next hb7); clear hb7)
    | (go_at_call 6; (with_reducible refine (HAW.out _).mono ?_); rintro e w8 ⟨rfl, hb8⟩; have HB9 := Lib.hid (HB8.out.next hb8); clear hb8))
  refine bodyPost_ret (v := .bool true) (by simp [results, Tryz.results4, go_sem]) rfl ?_
  exact ⟨rfl, HB9.out.bel⟩
theorem law56_Changes (sec : ByteArray) (qs : List Az) (hs : List Hz) (us : List Uz) (Aa Ah Au : Option Addr) (na ca nh ch nu cu : Nat) (kd : Int) (qi qc qn qx qb nc : ByteArray) (ix : Int) (x : Hz) (A : Option Addr) (n c : Nat) (sc : ByteArray) (pd lm : Int) (S : Nat → Prop) (w : World) (r : Nat) (hr : r ≤ 140737488355328) (hba : ∀ x ∈ qs, BndA r x) (hbh : ∀ x ∈ hs, BndH r x) (hbu : ∀ x ∈ us, x.1.size ≤ r) (hwf : ∀ x ∈ us, (Lit.int .i64 x.2.1).wf = true) (hbc : BndA r (qi, qc, qn, qx, qb)) (hbx : BndH r x) (hbn : nc.size ≤ r) (hbs : sc.size ≤ r) (hq : qs.length = na) (hn : hs.length = nh) (hu : us.length = nu) (h : WalM w S qs hs us Aa Ah Au) (hS : ∀ g, S g → g < w.heap.size) (hkd : 0 ≤ kd ∧ kd ≤ 255) (hnx : x.att.length = n) (hix : -9223372036854775808 ≤ ix ∧ ix ≤ 9223372036854775807) (hxv : -9223372036854775808 ≤ x.ver ∧ x.ver ≤ 9223372036854775807) (hxe : -9223372036854775808 ≤ x.ep ∧ x.ep ≤ 9223372036854775807) (hpd : -9223372036854775808 ≤ pd ∧ pd ≤ 9223372036854775807) (hlm : lm ≤ 9223372036854775807) (hrow : RowC w S A n (cellsN x.att)) :
    Calls Tryz.prog 4 #[.agg #[.string sec, .slice Aa na ca, .slice Ah nh ch, .slice Au nu cu], .agg #[.int .u8 kd, .string qi, .string qc, .string qn, .string qx, .string qb, .string nc, .int .i64 ix, .string x.iss, .string x.sch, .int .i64 x.ver, .slice A n c, .string x.a, .string x.e, .string x.v, .int .i64 x.ep, .string x.wit, .string sc, .int .i64 pd, .int .i64 lm]] w fun e w' => e = .returned (.bool true) ∧ Below w.heap.size w w' := by
  cases hfw : fewB sec qs hs us with
  | false => exact changes_many sec qs hs us Aa Ah Au na ca nh ch nu cu kd qi qc qn qx qb nc ix x A n c sc pd lm S w r hr hba hbh hbu hwf hbc hbx hbn hbs hq hn hu h hS hkd hnx hix hxv hxe hpd hlm hrow hfw
  | true =>
    cases hsw : shortB (qi, qc, qn, qx, qb) x nc sc with
    | false => exact changes_long sec qs hs us Aa Ah Au na ca nh ch nu cu kd qi qc qn qx qb nc ix x A n c sc pd lm S w r hr hba hbh hbu hwf hbc hbx hbn hbs hq hn hu h hS hkd hnx hix hxv hxe hpd hlm hrow hfw hsw
    | true => exact changes_short sec qs hs us Aa Ah Au na ca nh ch nu cu kd qi qc qn qx qb nc ix x A n c sc pd lm S w r hr hba hbh hbu hwf hbc hbx hbn hbs hq hn hu h hS hkd hnx hix hxv hxe hpd hlm hrow hfw hsw
end Go.Proofs.YtjhlddlocpkhkaaGreat

namespace Go.Proofs.YtjhlddlocpkhkaaGreat
open Go.ChangeShapes Go.WideShapes Go.ChangeAt Go.WideElems Go.RowKit
set_option maxRecDepth 100000
set_option linter.unusedVariables false
set_option maxHeartbeats 4000000
theorem ceAz : Tryz.prog.cellsOf 40 = 5 := by kernel_rfl
theorem ceIs : Tryz.prog.cellsOf 38 = 2 := by kernel_rfl
theorem ceHz : Tryz.prog.cellsOf 47 = 9 := by kernel_rfl
theorem ceCr : Tryz.prog.cellsOf 45 = 7 := by kernel_rfl
theorem ceSg : Tryz.prog.cellsOf 43 = 3 := by kernel_rfl
theorem ceUz : Tryz.prog.cellsOf 57 = 3 := by kernel_rfl
theorem ceWa : Tryz.prog.cellsOf 27 = 4 := by kernel_rfl
theorem ceCh : Tryz.prog.cellsOf 49 = 20 := by kernel_rfl
theorem ceStr : Tryz.prog.cellsOf 9 = 1 := by kernel_rfl
theorem ceNat : Tryz.prog.cellsOf 22 = 1 := by kernel_rfl
theorem ceInt : Tryz.prog.cellsOf 3 = 1 := by kernel_rfl
theorem ceByte : Tryz.prog.cellsOf 5 = 1 := by kernel_rfl
theorem ceNats : Tryz.prog.cellsOf 41 = 1 := by kernel_rfl
theorem ceAzs : Tryz.prog.cellsOf 23 = 1 := by kernel_rfl
theorem ceHzs : Tryz.prog.cellsOf 24 = 1 := by kernel_rfl
theorem ceUzs : Tryz.prog.cellsOf 25 = 1 := by kernel_rfl
section
variable {H : Type}
/-- What is read lies within the form's reach. -/
def LeR (P : Program) (t : TypeId) (d : DataW H) : Prop := ∀ k ∈ d.weights P t, k ≤ reachBytes
theorem weightsEach_mem {P : Program} : ∀ (ts : List TypeId) (ds : List (DataW H)) (i : Nat) (t : TypeId) (d : DataW H), ts[i]? = some t → ds[i]? = some d → ∀ k ∈ d.weights P t, k ∈ DataW.weightsEach P ts ds
  | [], _, i, _, _, h, _, _, _ => by simp at h
  | _ :: _, [], i, _, _, _, h, _, _ => by simp at h
  | t0 :: ts, d0 :: ds, 0, t, d, h1, h2, k, hk => by
    simp at h1 h2
    subst h1 h2
    rw [DataW.weightsEach]
    exact List.mem_append_left _ hk
  | t0 :: ts, d0 :: ds, i + 1, t, d, h1, h2, k, hk => by
    simp at h1 h2
    rw [DataW.weightsEach]
    exact List.mem_append_right _ (weightsEach_mem ts ds i t d h1 h2 k hk)
theorem weightsAll_mem {P : Program} {e : TypeId} : ∀ (ds : List (DataW H)) (i : Nat) (d : DataW H), ds[i]? = some d → ∀ k ∈ d.weights P e, k ∈ DataW.weightsAll P e ds
  | [], i, _, h, _, _ => by simp at h
  | d0 :: ds, 0, d, h, k, hk => by
    simp at h
    subst h
    rw [DataW.weightsAll]
    exact List.mem_append_left _ hk
  | d0 :: ds, i + 1, d, h, k, hk => by
    simp at h
    rw [DataW.weightsAll]
    exact List.mem_append_right _ (weightsAll_mem ds i d h k hk)
variable {enc : TypeId × Value → H} {P : Program} {w : World} {base fuel : Nat} {spare : Nat → Bool} {held : Bool} {t e : TypeId} {cs : List Value} {x : DataW H × List MemPlace}
theorem tl_string (ht : P.underlying t = some .string) (hl : LeR P t x.1) (h : DataW.trod enc P w base spare held fuel t cs = some x) : ∃ s : ByteArray, cs = [.string s] ∧ s.size ≤ 140737488351232 := by
  obtain ⟨s, h1, h2, _⟩ := DataW.trod_string ht h
  refine ⟨s, h1, ?_⟩
  have := hl s.data.toList.length (by rw [h2, DataW.weights]; simp)
  have e1 : reachBytes = 140737488351232 := rfl
  rw [e1] at this
  simpa using this
theorem tl_struct {fs : Array Field} (ht : P.underlying t = some (.struct fs)) (hl : LeR P t x.1) (h : DataW.trod enc P w base spare held fuel t cs = some x) :
    cs.length = P.cellsOf t ∧ ∃ n, ∀ (i : Nat) (f : Field), fs[i]? = some f → ∃ y, DataW.trod enc P w base spare held n f.type ((cs.drop f.offset).take (P.cellsOf f.type)) = some y ∧ LeR P f.type y.1 := by
  obtain ⟨xs, n, _, hx, hlen, hxs, hfs⟩ := DataW.trod_struct ht h
  refine ⟨hlen, n, fun i f hf => ?_⟩
  have hi : i < xs.length := by rw [hxs]; exact (Array.getElem?_eq_some_iff.1 hf).1
  refine ⟨xs[i], by rw [hfs i f hf, List.getElem?_eq_getElem hi], fun k hk => hl k ?_⟩
  rw [hx, DataW.weights.eq_6] <;> first | skip | exact ht
  simp only [ht]
  exact weightsEach_mem _ _ i f.type _ (by rw [List.getElem?_map, Array.getElem?_toList, hf]; rfl) (by rw [List.getElem?_map, List.getElem?_eq_getElem hi]; rfl) k hk
theorem tl_slice (ht : P.underlying t = some (.slice e)) (hl : LeR P t x.1) (h : DataW.trod enc P w base spare held fuel t cs = some x) :
    cs = [.slice none 0 0] ∨ ∃ (a : Addr) (len cap n : Nat), cs = [.slice (some a) len cap] ∧ len ≤ cap ∧ cap ≤ maxLen ∧ ∀ i, i < len → ∃ cs' y, cs'.length = P.cellsOf e ∧ (∀ j, j < P.cellsOf e → w.cell? ((a.add (i * P.cellsOf e)).add j) = cs'[j]?) ∧ DataW.trod enc P w base spare held n e cs' = some y ∧ LeR P e y.1 := by
  rcases DataW.trod_slice ht h with h0 | ⟨a, len, cap, elems, rest, n, _, h1, hx, _, h2, h3, h4, h5, _⟩
  · exact .inl h0.1
  · refine .inr ⟨a, len, cap, n, h1, h2, h3, fun i hi => ?_⟩
    have hi' : i < elems.length := by omega
    have h6 := h5 i hi
    rw [List.getElem?_eq_getElem hi'] at h6
    obtain ⟨cs', h7, h8⟩ := Option.bind_eq_some_iff.1 h6
    obtain ⟨_, h9, h10⟩ := World.cells?_some h7
    refine ⟨cs', elems[i], h9, h10, h8, fun k hk => hl k ?_⟩
    rw [hx, DataW.weights.eq_5] <;> first | skip | exact ht
    simp only [ht]
    exact List.mem_cons_of_mem _ (List.mem_append_left _ (weightsAll_mem _ i _ (by rw [List.getElem?_map, List.getElem?_eq_getElem hi']; rfl) k hk))
end
theorem choose_list {X : Type} {p : Nat → X → Prop} : ∀ n : Nat, (∀ i, i < n → ∃ v, p i v) → ∃ L : List X, L.length = n ∧ ∀ (i : Nat) v, L[i]? = some v → p i v
  | 0, _ => ⟨[], rfl, fun i v h => by simp at h⟩
  | n + 1, h => by
    obtain ⟨L, h1, h2⟩ := choose_list n (fun i hi => h i (Nat.lt_succ_of_lt hi))
    obtain ⟨v, hv⟩ := h n (Nat.lt_succ_self n)
    refine ⟨L ++ [v], by simp [h1], fun i u hu => ?_⟩
    by_cases hi : i < L.length
    · rw [List.getElem?_append_left hi] at hu
      exact h2 i u hu
    · rw [List.getElem?_append_right (by omega)] at hu
      have h0 : i - L.length = 0 := by
        have := (List.getElem?_eq_some_iff.1 hu).1
        simp at this
        omega
      rw [h0] at hu
      simp at hu
      subst hu
      have e1 : i = n := by omega
      rw [e1]
      exact hv
theorem flat_get {X : Type} (f : X → List Value) (sz : Nat) (hf : ∀ v, (f v).length = sz) : ∀ (L : List X) (j : Nat) (u : Value), (L.flatMap f)[j]? = some u → ∃ i v r, L[i]? = some v ∧ j = i * sz + r ∧ r < sz ∧ (f v)[r]? = some u
  | [], j, u, h => by simp at h
  | v :: L, j, u, h => by
    rw [List.flatMap_cons] at h
    by_cases hj : j < (f v).length
    · rw [List.getElem?_append_left hj] at h
      exact ⟨0, v, j, rfl, by simp, by rw [← hf v]; exact hj, h⟩
    · rw [List.getElem?_append_right (by omega)] at h
      obtain ⟨i, v', r, h1, h2, h3, h4⟩ := flat_get f sz hf L _ u h
      have := hf v
      exact ⟨i + 1, v', r, h1, by rw [Nat.add_mul]; omega, h3, h4⟩
/-- A row out of what is read of its elements. -/
theorem row_of {X : Type} {W : World} {a : Addr} {len sz : Nat} (f : X → List Value) (hf : ∀ v, (f v).length = sz) (hsz : 0 < sz) (L : List X) (hL : L.length = len) (h : ∀ (i : Nat) v, L[i]? = some v → ∀ j, j < sz → W.cell? ((a.add (i * sz)).add j) = (f v)[j]?) : RowC W (fun g => g < W.heap.size) (some a) len (L.flatMap f) := by
  intro h0
  obtain ⟨v, hv⟩ : ∃ v, L[0]? = some v := ⟨L[0]'(by omega), List.getElem?_eq_getElem _⟩
  have h1 := h 0 v hv 0 hsz
  have e0 : (a.add (0 * sz)).add 0 = a := by simp [Addr.add]
  rw [e0, List.getElem?_eq_getElem (by rw [hf]; exact hsz)] at h1
  have hsp : a.spot = none := by
    unfold World.cell? at h1
    split at h1
    · split at h1
      · cases h1
      · rename_i hs
        simpa using hs
    · cases h1
  obtain ⟨g, off, sp⟩ := a
  dsimp only at hsp
  subst hsp
  refine ⟨g, off, rfl, World.block_lt_of_cell? W _ h1, fun j u hu => ?_⟩
  obtain ⟨i, v', r, h2, h3, h4, h5⟩ := flat_get f sz hf L j u hu
  have h6 := h i v' h2 r h4
  rw [addr_add, addr_add, h5] at h6
  rw [h3, ← h6]
  congr 2
  omega
def oneA (x : Az) : List Value := [.string x.1, .string x.2.1, .string x.2.2.1, .string x.2.2.2.1, .string x.2.2.2.2]
def oneU (x : Uz) : List Value := [.string x.1, .int .i64 x.2.1, .int .i64 x.2.2]
theorem flat_A : ∀ L : List Az, L.flatMap oneA = cellsA L
  | [] => rfl
  | (i, s, n, x, b) :: r => by rw [List.flatMap_cons, flat_A r]; rfl
theorem flat_U : ∀ L : List Uz, L.flatMap oneU = cellsU L
  | [] => rfl
  | (s, p, c) :: r => by rw [List.flatMap_cons, flat_U r]; rfl
theorem flat_N : ∀ L : List ByteArray, L.flatMap (fun s => [Value.string s]) = cellsN L
  | [] => rfl
  | s :: r => by rw [List.flatMap_cons, flat_N r]; rfl
section
variable {H : Type} {enc : TypeId × Value → H} {W : World} {base fuel : Nat} {sp : Nat → Bool} {held : Bool} {x : DataW H × List MemPlace}
theorem open_nat1 {c : Value} (hl : LeR Tryz.prog 22 x.1) (hf : DataW.trod enc Tryz.prog W base sp held fuel 22 [c] = some x) : ∃ s : ByteArray, c = .string s ∧ s.size ≤ 140737488351232 := by
  obtain ⟨s, e, h⟩ := tl_string Tryz.underlying22 hl hf
  exact ⟨s, by simpa using e, h⟩
theorem open_str1 {c : Value} (hl : LeR Tryz.prog 9 x.1) (hf : DataW.trod enc Tryz.prog W base sp held fuel 9 [c] = some x) : ∃ s : ByteArray, c = .string s ∧ s.size ≤ 140737488351232 := by
  obtain ⟨s, e, h⟩ := tl_string Tryz.underlying9 hl hf
  exact ⟨s, by simpa using e, h⟩
theorem open_int1 {c : Value} (hf : DataW.trod enc Tryz.prog W base sp held fuel 3 [c] = some x) : ∃ z : Int, c = .int .i64 z ∧ (Lit.int .i64 z).wf = true := by
  obtain ⟨z, e, _, h⟩ := DataW.trod_int Tryz.underlying3 hf
  exact ⟨z, by simpa using e, h⟩
theorem open_natsR {c : Value} (hl : LeR Tryz.prog 41 x.1) (hf : DataW.trod enc Tryz.prog W base sp held fuel 41 [c] = some x) :
    ∃ (A : Option Addr) (n cp : Nat) (ls : List ByteArray), c = .slice A n cp ∧ ls.length = n ∧ RowC W (fun g => g < W.heap.size) A n (cellsN ls) ∧ ∀ y ∈ ls, y.size ≤ 140737488351232 := by
  rcases tl_slice Tryz.underlying41 hl hf with h0 | ⟨a, len, cap, n, h1, _, _, hi⟩
  · exact ⟨none, 0, 0, [], by simpa using h0, rfl, fun h => absurd h (by simp), by simp⟩
  · rw [ceNat] at hi
    obtain ⟨L, hL, hp⟩ := choose_list (p := fun i (s : ByteArray) => (∀ j, j < 1 → W.cell? ((a.add (i * 1)).add j) = [Value.string s][j]?) ∧ s.size ≤ 140737488351232) len (fun i hil => by
      obtain ⟨cs', y, h2, h3, h4, h5⟩ := hi i hil
      match cs', h2 with
      | [c0], _ =>
      obtain ⟨s, rfl, h6⟩ := open_nat1 h5 h4
      exact ⟨s, h3, h6⟩)
    refine ⟨some a, len, cap, L, by simpa using h1, hL, ?_, fun y hy => ?_⟩
    · have := row_of (W := W) (a := a) (fun s : ByteArray => [Value.string s]) (sz := 1) (fun _ => rfl) (by decide) L hL (fun i v hv => (hp i v hv).1)
      rwa [flat_N] at this
    · obtain ⟨i, hi⟩ := List.mem_iff_getElem?.1 hy
      exact (hp i y hi).2
theorem open_askedR {c0 c1 c2 c3 c4 : Value} (hl : LeR Tryz.prog 40 x.1) (hf : DataW.trod enc Tryz.prog W base sp held fuel 40 [c0, c1, c2, c3, c4] = some x) :
    ∃ y : Az, [c0, c1, c2, c3, c4] = oneA y ∧ BndA 140737488351232 y := by
  obtain ⟨_, n, hfs⟩ := tl_struct Tryz.underlying40 hl hf
  obtain ⟨y0, f0, l0⟩ := hfs 0 _ rfl
  obtain ⟨y1, f1, l1⟩ := hfs 1 _ rfl
  obtain ⟨y2, f2, l2⟩ := hfs 2 _ rfl
  obtain ⟨y3, f3, l3⟩ := hfs 3 _ rfl
  simp [ceStr, ceIs] at f0 f1 f2 f3
  obtain ⟨i, rfl, b0⟩ := open_str1 l0 f0
  obtain ⟨s, rfl, b1⟩ := open_str1 l1 f1
  obtain ⟨nn, rfl, b2⟩ := open_str1 l2 f2
  obtain ⟨_, m, hgs⟩ := tl_struct Tryz.underlying38 l3 f3
  obtain ⟨z0, g0, k0⟩ := hgs 0 _ rfl
  obtain ⟨z1, g1, k1⟩ := hgs 1 _ rfl
  simp [ceNat] at g0 g1
  obtain ⟨xx, rfl, b3⟩ := open_nat1 k0 g0
  obtain ⟨b, rfl, b4⟩ := open_nat1 k1 g1
  exact ⟨(i, s, nn, xx, b), rfl, b0, b1, b2, b3, b4⟩
theorem open_usedR {c0 c1 c2 : Value} (hl : LeR Tryz.prog 57 x.1) (hf : DataW.trod enc Tryz.prog W base sp held fuel 57 [c0, c1, c2] = some x) :
    ∃ y : Uz, [c0, c1, c2] = oneU y ∧ y.1.size ≤ 140737488351232 ∧ (Lit.int .i64 y.2.1).wf = true := by
  obtain ⟨_, n, hfs⟩ := tl_struct Tryz.underlying57 hl hf
  obtain ⟨y0, f0, l0⟩ := hfs 0 _ rfl
  obtain ⟨y1, f1, l1⟩ := hfs 1 _ rfl
  obtain ⟨y2, f2, l2⟩ := hfs 2 _ rfl
  simp [ceStr, ceInt] at f0 f1 f2
  obtain ⟨s, rfl, b0⟩ := open_str1 l0 f0
  obtain ⟨p, rfl, w1⟩ := open_int1 f1
  obtain ⟨q, rfl, w2⟩ := open_int1 f2
  exact ⟨(s, p, q), rfl, b0, w1⟩
theorem open_heldR {c0 c1 c2 c3 c4 c5 c6 c7 c8 : Value} (hl : LeR Tryz.prog 47 x.1) (hf : DataW.trod enc Tryz.prog W base sp held fuel 47 [c0, c1, c2, c3, c4, c5, c6, c7, c8] = some x) :
    ∃ (y : Hz) (A : Option Addr) (c : Nat), [c0, c1, c2, c3, c4, c5, c6, c7, c8] = cellsH y A c ∧ BndH 140737488351232 y ∧ RowC W (fun g => g < W.heap.size) A y.att.length (cellsN y.att) ∧ (Lit.int .i64 y.ver).wf = true ∧ (Lit.int .i64 y.ep).wf = true := by
  obtain ⟨_, n, hfs⟩ := tl_struct Tryz.underlying47 hl hf
  obtain ⟨y0, f0, l0⟩ := hfs 0 _ rfl
  obtain ⟨y1, f1, l1⟩ := hfs 1 _ rfl
  obtain ⟨y2, f2, l2⟩ := hfs 2 _ rfl
  simp [ceCr, ceInt, ceNat] at f0 f1 f2
  obtain ⟨ep, rfl, w1⟩ := open_int1 f1
  obtain ⟨wit, rfl, b6⟩ := open_nat1 l2 f2
  obtain ⟨_, m, hgs⟩ := tl_struct Tryz.underlying45 l0 f0
  obtain ⟨z0, g0, k0⟩ := hgs 0 _ rfl
  obtain ⟨z1, g1, k1⟩ := hgs 1 _ rfl
  obtain ⟨z2, g2, k2⟩ := hgs 2 _ rfl
  obtain ⟨z3, g3, k3⟩ := hgs 3 _ rfl
  obtain ⟨z4, g4, k4⟩ := hgs 4 _ rfl
  simp [ceStr, ceInt, ceNats, ceSg] at g0 g1 g2 g3 g4
  obtain ⟨iss, rfl, b0⟩ := open_str1 k0 g0
  obtain ⟨sch, rfl, b1⟩ := open_str1 k1 g1
  obtain ⟨ver, rfl, w2⟩ := open_int1 g2
  obtain ⟨A, na, cp, ls, rfl, hln, hrow, hb⟩ := open_natsR k3 g3
  obtain ⟨_, q, hqs⟩ := tl_struct Tryz.underlying43 k4 g4
  obtain ⟨v0, e0, m0⟩ := hqs 0 _ rfl
  obtain ⟨v1, e1, m1⟩ := hqs 1 _ rfl
  obtain ⟨v2, e2, m2⟩ := hqs 2 _ rfl
  simp [ceNat] at e0 e1 e2
  obtain ⟨sa, rfl, b3⟩ := open_nat1 m0 e0
  obtain ⟨se, rfl, b4⟩ := open_nat1 m1 e1
  obtain ⟨sv, rfl, b5⟩ := open_nat1 m2 e2
  subst hln
  exact ⟨⟨iss, sch, ver, ls, sa, se, sv, ep, wit⟩, A, cp, rfl, ⟨b0, b1, b3, b4, b5, b6, hb⟩, hrow, w2, w1⟩
end
theorem relH_flat {w : World} {S : Nat → Prop} : ∀ L : List (Hz × Option Addr × Nat), (∀ v ∈ L, RowC w S v.2.1 v.1.att.length (cellsN v.1.att)) → RelH w S (L.map (·.1)) (L.flatMap fun v => cellsH v.1 v.2.1 v.2.2)
  | [], _ => rfl
  | v :: r, h => ⟨v.2.1, v.2.2, _, rfl, h v (by simp), relH_flat r (fun u hu => h u (by simp [hu]))⟩
section
variable {H : Type} {enc : TypeId × Value → H} {W : World} {base fuel b0 : Nat} {sp : Nat → Bool} {held : Bool} {r : Reach} {x : DataW H × List MemPlace} {v : Value} {d : DataW H} {ps : List MemPlace}
theorem open_askedsR {c : Value} (hl : LeR Tryz.prog 23 x.1) (hf : DataW.trod enc Tryz.prog W base sp held fuel 23 [c] = some x) :
    ∃ (A : Option Addr) (n cp : Nat) (qs : List Az), c = .slice A n cp ∧ qs.length = n ∧ SlA W (fun g => g < W.heap.size) A qs ∧ ∀ y ∈ qs, BndA 140737488351232 y := by
  rcases tl_slice Tryz.underlying23 hl hf with h0 | ⟨a, len, cap, n, h1, _, _, hi⟩
  · exact ⟨none, 0, 0, [], by simpa using h0, rfl, fun h => absurd h (by simp), by simp⟩
  · rw [ceAz] at hi
    obtain ⟨L, hL, hp⟩ := choose_list (p := fun i (s : Az) => (∀ j, j < 5 → W.cell? ((a.add (i * 5)).add j) = (oneA s)[j]?) ∧ BndA 140737488351232 s) len (fun i hil => by
      obtain ⟨cs', y, h2, h3, h4, h5⟩ := hi i hil
      match cs', h2 with
      | [c0, c1, c2, c3, c4], _ =>
      obtain ⟨s, h6, h7⟩ := open_askedR h5 h4
      exact ⟨s, by rw [← h6]; exact h3, h7⟩)
    refine ⟨some a, len, cap, L, by simpa using h1, hL, ?_, fun y hy => ?_⟩
    · have := row_of (W := W) (a := a) oneA (sz := 5) (fun _ => rfl) (by decide) L hL (fun i v hv => (hp i v hv).1)
      unfold SlA
      rwa [flat_A, ← hL] at this
    · obtain ⟨i, hi⟩ := List.mem_iff_getElem?.1 hy
      exact (hp i y hi).2
theorem open_usedsR {c : Value} (hl : LeR Tryz.prog 25 x.1) (hf : DataW.trod enc Tryz.prog W base sp held fuel 25 [c] = some x) :
    ∃ (A : Option Addr) (n cp : Nat) (us : List Uz), c = .slice A n cp ∧ us.length = n ∧ SlU W (fun g => g < W.heap.size) A us ∧ ∀ y ∈ us, y.1.size ≤ 140737488351232 ∧ (Lit.int .i64 y.2.1).wf = true := by
  rcases tl_slice Tryz.underlying25 hl hf with h0 | ⟨a, len, cap, n, h1, _, _, hi⟩
  · exact ⟨none, 0, 0, [], by simpa using h0, rfl, fun h => absurd h (by simp), by simp⟩
  · rw [ceUz] at hi
    obtain ⟨L, hL, hp⟩ := choose_list (p := fun i (s : Uz) => (∀ j, j < 3 → W.cell? ((a.add (i * 3)).add j) = (oneU s)[j]?) ∧ s.1.size ≤ 140737488351232 ∧ (Lit.int .i64 s.2.1).wf = true) len (fun i hil => by
      obtain ⟨cs', y, h2, h3, h4, h5⟩ := hi i hil
      match cs', h2 with
      | [c0, c1, c2], _ =>
      obtain ⟨s, h6, h7⟩ := open_usedR h5 h4
      exact ⟨s, by rw [← h6]; exact h3, h7⟩)
    refine ⟨some a, len, cap, L, by simpa using h1, hL, ?_, fun y hy => ?_⟩
    · have := row_of (W := W) (a := a) oneU (sz := 3) (fun _ => rfl) (by decide) L hL (fun i v hv => (hp i v hv).1)
      unfold SlU
      rwa [flat_U, ← hL] at this
    · obtain ⟨i, hi⟩ := List.mem_iff_getElem?.1 hy
      exact (hp i y hi).2
theorem open_heldsR {c : Value} (hl : LeR Tryz.prog 24 x.1) (hf : DataW.trod enc Tryz.prog W base sp held fuel 24 [c] = some x) :
    ∃ (A : Option Addr) (n cp : Nat) (hs : List Hz), c = .slice A n cp ∧ hs.length = n ∧ SlH W (fun g => g < W.heap.size) A hs ∧ ∀ y ∈ hs, BndH 140737488351232 y := by
  rcases tl_slice Tryz.underlying24 hl hf with h0 | ⟨a, len, cap, n, h1, _, _, hi⟩
  · exact ⟨none, 0, 0, [], by simpa using h0, rfl, ⟨[], fun h => absurd h (by simp), rfl⟩, by simp⟩
  · rw [ceHz] at hi
    obtain ⟨L, hL, hp⟩ := choose_list (p := fun i (s : Hz × Option Addr × Nat) => (∀ j, j < 9 → W.cell? ((a.add (i * 9)).add j) = (cellsH s.1 s.2.1 s.2.2)[j]?) ∧ BndH 140737488351232 s.1 ∧ RowC W (fun g => g < W.heap.size) s.2.1 s.1.att.length (cellsN s.1.att)) len (fun i hil => by
      obtain ⟨cs', y, h2, h3, h4, h5⟩ := hi i hil
      match cs', h2 with
      | [c0, c1, c2, c3, c4, c5, c6, c7, c8], _ =>
      obtain ⟨s, A, cc, h6, h7, h8, _, _⟩ := open_heldR h5 h4
      exact ⟨(s, A, cc), by rw [← h6]; exact h3, h7, h8⟩)
    refine ⟨some a, len, cap, L.map (·.1), by simpa using h1, by simpa using hL, ⟨L.flatMap (fun v => cellsH v.1 v.2.1 v.2.2), ?_, relH_flat L (fun v hv => ?_)⟩, fun y hy => ?_⟩
    · have := row_of (W := W) (a := a) (fun v : Hz × Option Addr × Nat => cellsH v.1 v.2.1 v.2.2) (sz := 9) (fun _ => rfl) (by decide) L hL (fun i v hv => (hp i v hv).1)
      rw [List.length_map, hL]
      exact this
    · obtain ⟨i, hi⟩ := List.mem_iff_getElem?.1 hv
      exact (hp i v hi).2.2
    · obtain ⟨z, hz, rfl⟩ := List.mem_map.1 hy
      obtain ⟨i, hi⟩ := List.mem_iff_getElem?.1 hz
      exact (hp i z hi).2.1
theorem open_wallet (hok : Value.okWide Tryz.prog W r b0 27 v) (hl : LeR Tryz.prog 27 d) (h : DataW.Trod enc Tryz.prog W base sp held 27 v d ps) :
    ∃ (sec : ByteArray) (qs : List Az) (hs : List Hz) (us : List Uz) (Aa Ah Au : Option Addr) (na ca nh ch nu cu : Nat), v = .agg #[.string sec, .slice Aa na ca, .slice Ah nh ch, .slice Au nu cu] ∧ qs.length = na ∧ hs.length = nh ∧ us.length = nu ∧ WalM W (fun g => g < W.heap.size) qs hs us Aa Ah Au ∧
      sec.size ≤ 140737488351232 ∧ (∀ y ∈ qs, BndA 140737488351232 y) ∧ (∀ y ∈ hs, BndH 140737488351232 y) ∧ (∀ y ∈ us, y.1.size ≤ 140737488351232 ∧ (Lit.int .i64 y.2.1).wf = true) := by
  obtain ⟨cs, rfl, hsz⟩ := okWide_struct Tryz.underlying27 hok
  rw [ceWa] at hsz
  obtain ⟨l⟩ := cs
  match l, hsz with
  | [c0, c1, c2, c3], _ =>
  obtain ⟨fuel, hf⟩ := h
  obtain ⟨_, n, hfs⟩ := tl_struct Tryz.underlying27 (x := (d, ps)) hl hf
  obtain ⟨y0, f0, l0⟩ := hfs 0 _ rfl
  obtain ⟨y1, f1, l1⟩ := hfs 1 _ rfl
  obtain ⟨y2, f2, l2⟩ := hfs 2 _ rfl
  obtain ⟨y3, f3, l3⟩ := hfs 3 _ rfl
  simp [Value.cells, ceNat, ceAzs, ceHzs, ceUzs] at f0 f1 f2 f3
  obtain ⟨sec, rfl, b0⟩ := open_nat1 l0 f0
  obtain ⟨Aa, na, ca, qs, rfl, hq, ha, ba⟩ := open_askedsR l1 f1
  obtain ⟨Ah, nh, ch, hs, rfl, hn, hh, bh⟩ := open_heldsR l2 f2
  obtain ⟨Au, nu, cu, us, rfl, hu, hu2, bu⟩ := open_usedsR l3 f3
  exact ⟨sec, qs, hs, us, Aa, Ah, Au, na, ca, nh, ch, nu, cu, rfl, hq, hn, hu, ⟨ha, hh, hu2⟩, b0, ba, bh, bu⟩
theorem open_change (hok : Value.okWide Tryz.prog W r b0 49 v) (hl : LeR Tryz.prog 49 d) (h : DataW.Trod enc Tryz.prog W base sp held 49 v d ps) :
    ∃ (kd : Int) (y : Az) (nc : ByteArray) (ix : Int) (z : Hz) (A : Option Addr) (c : Nat) (sc : ByteArray) (pd lm : Int), v = .agg #[.int .u8 kd, .string y.1, .string y.2.1, .string y.2.2.1, .string y.2.2.2.1, .string y.2.2.2.2, .string nc, .int .i64 ix, .string z.iss, .string z.sch, .int .i64 z.ver, .slice A z.att.length c, .string z.a, .string z.e, .string z.v, .int .i64 z.ep, .string z.wit, .string sc, .int .i64 pd, .int .i64 lm] ∧
      BndA 140737488351232 y ∧ BndH 140737488351232 z ∧ nc.size ≤ 140737488351232 ∧ sc.size ≤ 140737488351232 ∧ RowC W (fun g => g < W.heap.size) A z.att.length (cellsN z.att) ∧
      (Lit.int .u8 kd).wf = true ∧ (Lit.int .i64 ix).wf = true ∧ (Lit.int .i64 z.ver).wf = true ∧ (Lit.int .i64 z.ep).wf = true ∧ (Lit.int .i64 pd).wf = true ∧ (Lit.int .i64 lm).wf = true := by
  obtain ⟨cs, rfl, hsz⟩ := okWide_struct Tryz.underlying49 hok
  rw [ceCh] at hsz
  obtain ⟨l⟩ := cs
  match l, hsz with
  | [c0, c1, c2, c3, c4, c5, c6, c7, c8, c9, c10, c11, c12, c13, c14, c15, c16, c17, c18, c19], _ =>
  obtain ⟨fuel, hf⟩ := h
  obtain ⟨_, n, hfs⟩ := tl_struct Tryz.underlying49 (x := (d, ps)) hl hf
  obtain ⟨y0, f0, l0⟩ := hfs 0 _ rfl
  obtain ⟨y1, f1, l1⟩ := hfs 1 _ rfl
  obtain ⟨y2, f2, l2⟩ := hfs 2 _ rfl
  obtain ⟨y3, f3, l3⟩ := hfs 3 _ rfl
  obtain ⟨y4, f4, l4⟩ := hfs 4 _ rfl
  obtain ⟨y5, f5, l5⟩ := hfs 5 _ rfl
  obtain ⟨y6, f6, l6⟩ := hfs 6 _ rfl
  obtain ⟨y7, f7, l7⟩ := hfs 7 _ rfl
  simp [Value.cells, ceByte, ceAz, ceStr, ceInt, ceHz] at f0 f1 f2 f3 f4 f5 f6 f7
  obtain ⟨kd, e0, _, w0⟩ := DataW.trod_int Tryz.underlying5 f0
  obtain ⟨y, e1, b1⟩ := open_askedR l1 f1
  obtain ⟨nc, e2, b2⟩ := open_str1 l2 f2
  obtain ⟨ix, e3, w3⟩ := open_int1 f3
  obtain ⟨z, A, c, e4, b4, r4, w4, w4'⟩ := open_heldR l4 f4
  obtain ⟨sc, e5, b5⟩ := open_str1 l5 f5
  obtain ⟨pd, e6, w6⟩ := open_int1 f6
  obtain ⟨lm, e7, w7⟩ := open_int1 f7
  simp [oneA, cellsH] at e0 e1 e4
  obtain ⟨p1, p2, p3, p4, p5⟩ := e1
  obtain ⟨q1, q2, q3, q4, q5, q6, q7, q8, q9⟩ := e4
  subst e0 p1 p2 p3 p4 p5 e2 e3 q1 q2 q3 q4 q5 q6 q7 q8 q9 e5 e6 e7
  exact ⟨kd, y, nc, ix, z, A, c, sc, pd, lm, rfl, b1, b4, b2, b5, r4, w0, w3, w4, w4', w6, w7⟩
end
end Go.Proofs.YtjhlddlocpkhkaaGreat
