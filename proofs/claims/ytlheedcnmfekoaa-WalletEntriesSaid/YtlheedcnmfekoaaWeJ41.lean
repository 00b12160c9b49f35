/- Wallet: the law file's short; printed by genVbd.py. Wallet: what a change hands back, in one shape for all kinds: an error, or a wallet that the entry yields too. -/
import Derived.Test.YtlheedcnmfekoaaWeJ40
import Derived.Test.YtlheedcnmfekoaaWeJ38
namespace Go.Proofs.Ytlheedcnmfekoaa
open Go.RowKit
set_option maxRecDepth 100000
set_option linter.unusedVariables false
set_option maxHeartbeats 16000000
/-- The box of a change. -/
structure ChB (w : World) (cs : Array Value) (W : World) : Prop where
  box : W.heap[w.heap.size]? = some (.cells cs 46 (0, 0))
  bel : Below w.heap.size w W
  size : w.heap.size + 1 ≤ W.heap.size
theorem ChB.next {w W w' : World} {cs : Array Value} (h : ChB w cs W) (hb : Below W.heap.size W w') : ChB w cs w' :=
  ⟨(hb.block _ (by have := h.size; omega)).trans h.box, below2 h.bel hb, Nat.le_trans h.size hb.size⟩
theorem ChB.start {w : World} {cs : Array Value} : ChB w cs (w.alloc (.cells cs 46)) := ⟨heap_alloc_new _ _, (Below.refl _ _).alloc (Nat.le_refl _) _, by simp⟩
/-- What short says. -/
def shortB (y : Az) (x : Hz) (nc sc : ByteArray) : Bool := fewB ⟨#[]⟩ [y] [] [] && (smallB x && decide (nc.size + sc.size ≤ 400))
theorem law56_short (kd : Int) (qi qc qn qx qb nc : ByteArray) (ix : Int) (x : Hz) (A : Option Addr) (n c : Nat) (sc : ByteArray) (pd lm : Int) (S : Nat → Prop) (w : World) (r : Nat) (hr : r ≤ 140737488355328) (hba : BndA r (qi, qc, qn, qx, qb)) (hbh : BndH r x) (hbn : nc.size ≤ r) (hbs : sc.size ≤ r) (hn : x.att.length = n) (hrow : RowC w S A n (cellsN x.att)) (hS : ∀ g, S g → g < w.heap.size) :
    Calls Try.prog 9 #[.agg #[.int .u8 kd, .string qi, .string qc, .string qn, .string qx, .string qb, .string nc, .int .i64 ix, .string x.iss, .string x.sch, .int .i64 x.ver, .slice A n c, .string x.a, .string x.e, .string x.v, .int .i64 x.ep, .string x.wit, .string sc, .int .i64 pd, .int .i64 lm]] w fun e w' => e = .returned (.bool (shortB (qi, qc, qn, qx, qb) x nc sc)) ∧ Below w.heap.size w w' := by
  have HB0 := Lib.hid (ChB.start (w := w) (cs := #[.int .u8 kd, .string qi, .string qc, .string qn, .string qx, .string qb, .string nc, .int .i64 ix, .string x.iss, .string x.sch, .int .i64 x.ver, .slice A n c, .string x.a, .string x.e, .string x.v, .int .i64 x.ep, .string x.wit, .string sc, .int .i64 pd, .int .i64 lm]))
  have HF := Lib.hid (fun (W : World) (c1 : Nat) => law56_few ⟨#[]⟩ [(qi, qc, qn, qx, qb)] [] [] (some ⟨W.heap.size, 0, none⟩) none none 1 c1 0 0 0 0 (fun g => g = W.heap.size) (W.alloc (.cells #[.string qi, .string qc, .string qn, .string qx, .string qb] 37)) r hr (by intro y hy; rw [List.mem_singleton.1 hy]; exact hba) (by intro y hy; cases hy) (by intro y hy; cases hy) rfl rfl rfl ⟨fun _ => ⟨_, 0, rfl, rfl, fun j u hu => by rw [Nat.zero_add, cell_of_row _ _ j _ _ _ (heap_alloc_new W _), ← hu]; simp [cellsA]⟩, ⟨[], fun h => absurd h (by simp), rfl⟩, fun h => absurd h (by simp)⟩ (fun g hg => by rw [hg]; simp))
  have HSM := Lib.hid (fun W (hb : Below w.heap.size w W) => law56_small x A n c S W r hr hbh hn (hrow.keep (fun p hp => hb.cell (hS _ hp))) (fun g hg => Nat.lt_of_lt_of_le (hS g hg) hb.size))
  unfold valH at HSM
  have HCC : Hid (∀ W, ChB w #[.int .u8 kd, .string qi, .string qc, .string qn, .string qx, .string qb, .string nc, .int .i64 ix, .string x.iss, .string x.sch, .int .i64 x.ver, .slice A n c, .string x.a, .string x.e, .string x.v, .int .i64 x.ep, .string x.wit, .string sc, .int .i64 pd, .int .i64 lm] W → W.cell? ⟨w.heap.size, 0, none⟩ = some (.int .u8 kd) ∧ W.cell? ⟨w.heap.size, 1, none⟩ = some (.string qi) ∧ W.cell? ⟨w.heap.size, 2, none⟩ = some (.string qc) ∧ W.cell? ⟨w.heap.size, 3, none⟩ = some (.string qn) ∧ W.cell? ⟨w.heap.size, 4, none⟩ = some (.string qx) ∧ W.cell? ⟨w.heap.size, 5, none⟩ = some (.string qb) ∧ W.cell? ⟨w.heap.size, 6, none⟩ = some (.string nc) ∧ W.cell? ⟨w.heap.size, 7, none⟩ = some (.int .i64 ix) ∧ W.cell? ⟨w.heap.size, 8, none⟩ = some (.string x.iss) ∧ W.cell? ⟨w.heap.size, 9, none⟩ = some (.string x.sch) ∧ W.cell? ⟨w.heap.size, 10, none⟩ = some (.int .i64 x.ver) ∧ W.cell? ⟨w.heap.size, 11, none⟩ = some (.slice A n c) ∧ W.cell? ⟨w.heap.size, 12, none⟩ = some (.string x.a) ∧ W.cell? ⟨w.heap.size, 13, none⟩ = some (.string x.e) ∧ W.cell? ⟨w.heap.size, 14, none⟩ = some (.string x.v) ∧ W.cell? ⟨w.heap.size, 15, none⟩ = some (.int .i64 x.ep) ∧ W.cell? ⟨w.heap.size, 16, none⟩ = some (.string x.wit) ∧ W.cell? ⟨w.heap.size, 17, none⟩ = some (.string sc) ∧ W.cell? ⟨w.heap.size, 18, none⟩ = some (.int .i64 pd) ∧ W.cell? ⟨w.heap.size, 19, none⟩ = some (.int .i64 lm)) := Lib.hid (fun W h => ⟨cell_of_row _ _ 0 _ _ _ h.box, cell_of_row _ _ 1 _ _ _ h.box, cell_of_row _ _ 2 _ _ _ h.box, cell_of_row _ _ 3 _ _ _ h.box, cell_of_row _ _ 4 _ _ _ h.box, cell_of_row _ _ 5 _ _ _ h.box, cell_of_row _ _ 6 _ _ _ h.box, cell_of_row _ _ 7 _ _ _ h.box, cell_of_row _ _ 8 _ _ _ h.box, cell_of_row _ _ 9 _ _ _ h.box, cell_of_row _ _ 10 _ _ _ h.box, cell_of_row _ _ 11 _ _ _ h.box, cell_of_row _ _ 12 _ _ _ h.box, cell_of_row _ _ 13 _ _ _ h.box, cell_of_row _ _ 14 _ _ _ h.box, cell_of_row _ _ 15 _ _ _ h.box, cell_of_row _ _ 16 _ _ _ h.box, cell_of_row _ _ 17 _ _ _ h.box, cell_of_row _ _ 18 _ _ _ h.box, cell_of_row _ _ 19 _ _ _ h.box⟩)
  have HWR : Hid (IntKind.i64.wrap ((nc.size : Int) + (sc.size : Int)) = ((nc.size + sc.size : Nat) : Int)) := Lib.hid (by rw [wr64 _ (by omega)]; omega)
  obtain ⟨T, hT⟩ : ∃ T, nc.size + sc.size = T := ⟨_, rfl⟩
  obtain ⟨bf, hbf⟩ : ∃ b, fewB ⟨#[]⟩ [(qi, qc, qn, qx, qb)] [] [] = b := ⟨_, rfl⟩
  obtain ⟨bs, hbs2⟩ : ∃ b, smallB x = b := ⟨_, rfl⟩
  unfold shortB
  rw [hbf] at HF ⊢
  rw [hbs2] at HSM ⊢
  rw [hT] at HWR ⊢
  clear hr hba hbh hbn hbs hn hrow hS hT hbf hbs2
  cases bf with
  | false =>
    go_enter Try.func9, Try.ntmps9
    go_upto_region 1 with fail
    obtain ⟨W0, hW0⟩ : ∃ W0, w.alloc (.cells #[.int .u8 kd, .string qi, .string qc, .string qn, .string qx, .string qb, .string nc, .int .i64 ix, .string x.iss, .string x.sch, .int .i64 x.ver, .slice A n c, .string x.a, .string x.e, .string x.v, .int .i64 x.ep, .string x.wit, .string sc, .int .i64 pd, .int .i64 lm] 46) = W0 := ⟨_, rfl⟩
    rw [hW0] at HB0 ⊢
    clear hW0
    obtain ⟨z0, z1, z2, z3, z4, z5, z6, z7, z8, z9, z10, z11, z12, z13, z14, z15, z16, z17, z18, z19⟩ := HCC.out _ HB0.out
    go_wp2_with (go_at_call 8; (with_reducible refine (HF.out W0 1).mono ?_); rintro e w1 ⟨rfl, hb1⟩; have HB1 := Lib.hid ((HB0.out.next ((Below.refl _ _).alloc (Nat.le_refl _) (.cells #[.string qi, .string qc, .string qn, .string qx, .string qb] 37))).next hb1); clear hb1)
    go_ret
    exact ⟨rfl, HB1.out.bel⟩
  | true =>
    cases bs with
    | false =>
      go_enter Try.func9, Try.ntmps9
      go_upto_region 1 with fail
      obtain ⟨W0, hW0⟩ : ∃ W0, w.alloc (.cells #[.int .u8 kd, .string qi, .string qc, .string qn, .string qx, .string qb, .string nc, .int .i64 ix, .string x.iss, .string x.sch, .int .i64 x.ver, .slice A n c, .string x.a, .string x.e, .string x.v, .int .i64 x.ep, .string x.wit, .string sc, .int .i64 pd, .int .i64 lm] 46) = W0 := ⟨_, rfl⟩
      rw [hW0] at HB0 ⊢
      clear hW0
      obtain ⟨z0, z1, z2, z3, z4, z5, z6, z7, z8, z9, z10, z11, z12, z13, z14, z15, z16, z17, z18, z19⟩ := HCC.out _ HB0.out
      go_wp2_with (first
        | (go_at_call 8; (with_reducible refine (HF.out W0 1).mono ?_); rintro e w1 ⟨rfl, hb1⟩; have HB1 := Lib.hid ((HB0.out.next ((Below.refl _ _).alloc (Nat.le_refl _) (.cells #[.string qi, .string qc, .string qn, .string qx, .string qb] 37))).next hb1); clear hb1 z0 z1 z2 z3 z4 z5 z6 z7 z8 z9 z10 z11 z12 z13 z14 z15 z16 z17 z18 z19; obtain ⟨z0, z1, z2, z3, z4, z5, z6, z7, z8, z9, z10, z11, z12, z13, z14, z15, z16, z17, z18, z19⟩ := HCC.out _ HB1.out)
        | (go_at_call 20; (with_reducible refine (HSM.out _ HB1.out.bel).mono ?_); rintro e w2 ⟨rfl, hb2⟩; have HB2 := Lib.hid (HB1.out.next hb2); clear hb2))
      go_ret
      exact ⟨rfl, HB2.out.bel⟩
    | true =>
      have HWO := HWR.out
      by_cases h4 : T ≤ 400
      · have d1 : decide ((T : Int) ≤ 400) = true := decide_eq_true (by omega)
        have HD : Hid (decide (T ≤ 400) = true) := Lib.hid (decide_eq_true h4)
        go_enter Try.func9, Try.ntmps9
        go_upto_region 1 with fail
        obtain ⟨W0, hW0⟩ : ∃ W0, w.alloc (.cells #[.int .u8 kd, .string qi, .string qc, .string qn, .string qx, .string qb, .string nc, .int .i64 ix, .string x.iss, .string x.sch, .int .i64 x.ver, .slice A n c, .string x.a, .string x.e, .string x.v, .int .i64 x.ep, .string x.wit, .string sc, .int .i64 pd, .int .i64 lm] 46) = W0 := ⟨_, rfl⟩
        rw [hW0] at HB0 ⊢
        clear hW0
        obtain ⟨z0, z1, z2, z3, z4, z5, z6, z7, z8, z9, z10, z11, z12, z13, z14, z15, z16, z17, z18, z19⟩ := HCC.out _ HB0.out
        go_wp2_with (first
          | (go_at_call 8; (with_reducible refine (HF.out W0 1).mono ?_); rintro e w1 ⟨rfl, hb1⟩; have HB1 := Lib.hid ((HB0.out.next ((Below.refl _ _).alloc (Nat.le_refl _) (.cells #[.string qi, .string qc, .string qn, .string qx, .string qb] 37))).next hb1); clear hb1 z0 z1 z2 z3 z4 z5 z6 z7 z8 z9 z10 z11 z12 z13 z14 z15 z16 z17 z18 z19; obtain ⟨z0, z1, z2, z3, z4, z5, z6, z7, z8, z9, z10, z11, z12, z13, z14, z15, z16, z17, z18, z19⟩ := HCC.out _ HB1.out)
          | (go_at_call 20; (with_reducible refine (HSM.out _ HB1.out.bel).mono ?_); rintro e w2 ⟨rfl, hb2⟩; have HB2 := Lib.hid (HB1.out.next hb2); clear hb2 z0 z1 z2 z3 z4 z5 z6 z7 z8 z9 z10 z11 z12 z13 z14 z15 z16 z17 z18 z19; obtain ⟨z0, z1, z2, z3, z4, z5, z6, z7, z8, z9, z10, z11, z12, z13, z14, z15, z16, z17, z18, z19⟩ := HCC.out _ HB2.out))
        go_ret
        exact ⟨by rw [HD.out]; simp, HB2.out.bel⟩
      · have d1 : decide ((T : Int) ≤ 400) = false := decide_eq_false (by omega)
        have HD : Hid (decide (T ≤ 400) = false) := Lib.hid (decide_eq_false h4)
        go_enter Try.func9, Try.ntmps9
        go_upto_region 1 with fail
        obtain ⟨W0, hW0⟩ : ∃ W0, w.alloc (.cells #[.int .u8 kd, .string qi, .string qc, .string qn, .string qx, .string qb, .string nc, .int .i64 ix, .string x.iss, .string x.sch, .int .i64 x.ver, .slice A n c, .string x.a, .string x.e, .string x.v, .int .i64 x.ep, .string x.wit, .string sc, .int .i64 pd, .int .i64 lm] 46) = W0 := ⟨_, rfl⟩
        rw [hW0] at HB0 ⊢
        clear hW0
        obtain ⟨z0, z1, z2, z3, z4, z5, z6, z7, z8, z9, z10, z11, z12, z13, z14, z15, z16, z17, z18, z19⟩ := HCC.out _ HB0.out
        go_wp2_with (first
          | (go_at_call 8; (with_reducible refine (HF.out W0 1).mono ?_); rintro e w1 ⟨rfl, hb1⟩; have HB1 := Lib.hid ((HB0.out.next ((Below.refl _ _).alloc (Nat.le_refl _) (.cells #[.string qi, .string qc, .string qn, .string qx, .string qb] 37))).next hb1); clear hb1 z0 z1 z2 z3 z4 z5 z6 z7 z8 z9 z10 z11 z12 z13 z14 z15 z16 z17 z18 z19; obtain ⟨z0, z1, z2, z3, z4, z5, z6, z7, z8, z9, z10, z11, z12, z13, z14, z15, z16, z17, z18, z19⟩ := HCC.out _ HB1.out)
          | (go_at_call 20; (with_reducible refine (HSM.out _ HB1.out.bel).mono ?_); rintro e w2 ⟨rfl, hb2⟩; have HB2 := Lib.hid (HB1.out.next hb2); clear hb2 z0 z1 z2 z3 z4 z5 z6 z7 z8 z9 z10 z11 z12 z13 z14 z15 z16 z17 z18 z19; obtain ⟨z0, z1, z2, z3, z4, z5, z6, z7, z8, z9, z10, z11, z12, z13, z14, z15, z16, z17, z18, z19⟩ := HCC.out _ HB2.out))
        go_ret
        exact ⟨by rw [HD.out]; simp, HB2.out.bel⟩
end Go.Proofs.Ytlheedcnmfekoaa

namespace Go.Proofs.Ytlheedcnmfekoaa
open Go.RowKit
set_option maxRecDepth 100000
set_option linter.unusedVariables false
set_option maxHeartbeats 4000000
theorem validU_pos : ∀ (us : List Uz) (seen : List (ByteArray × Int)), validU seen us = true → ∀ x ∈ us, 1 ≤ x.2.2
  | [], _, _, x, hx => by cases hx
  | y :: r, seen, h, x, hx => by
    unfold validU at h
    split at h
    · cases h
    · split at h
      · cases h
      · rcases List.mem_cons.1 hx with rfl | hx
        · omega
        · exact validU_pos r _ h x hx
theorem cnt_pos {sec : ByteArray} {qs : List Az} {hs : List Hz} {us : List Uz} (h : validW sec qs hs us = true) (f : Uz → Bool) : 0 ≤ cntU f us := by
  unfold validW at h
  simp only [Bool.and_eq_true] at h
  unfold cntU
  split
  · rename_i x hx
    have := validU_pos us [] h.2.2.2 x (List.mem_of_find?_eq_some hx)
    omega
  · exact Int.le_refl _
/-- What a change hands back: an error, or a wallet, which the entry yields too when it is applied to the wallet before. -/
def OutF (w : World) (sec : ByteArray) (qs : List Az) (hs : List Hz) (us : List Uz) (Aa : Option Addr) (na ca : Nat) (Ah : Option Addr) (nh ch : Nat) (Au : Option Addr) (nu cu : Nat) (sec' : ByteArray) (A1 : Option Addr) (n1 c1 : Nat) (A2 : Option Addr) (n2 c2 : Nat) (A3 : Option Addr) (n3 c3 : Nat) (s : ByteArray) (z : Int) (w' : World) : Prop :=
  (z ≠ 0 ∧ sec' = ⟨#[]⟩ ∧ (A1 = none ∧ n1 = 0 ∧ c1 = 0) ∧ (A2 = none ∧ n2 = 0 ∧ c2 = 0) ∧ (A3 = none ∧ n3 = 0 ∧ c3 = 0) ∧ s = ⟨#[]⟩) ∨
  (z = 0 ∧ sec' = sec ∧ ∃ qs' hs' us', n1 = qs'.length ∧ n2 = hs'.length ∧ n3 = us'.length ∧ WalM w' (fun g => w.heap.size ≤ g ∧ g < w'.heap.size) qs' hs' us' A1 A2 A3 ∧ (qs'.length ≤ 100 ∧ hs'.length ≤ 100 ∧ us'.length ≤ 100 ∧ ∀ x ∈ hs', x.att.length ≤ 1000) ∧
    ∀ W S', WalM W S' qs hs us Aa Ah Au → (∀ g, S' g → g < W.heap.size) → Calls Try.prog 12 #[.agg #[.string sec, .slice Aa na ca, .slice Ah nh ch, .slice Au nu cu], .string s] W (ApGot W sec qs' hs' us'))
section
variable {w w1 w' w'' : World} {sec sec' s : ByteArray} {qs : List Az} {hs : List Hz} {us : List Uz} {Aa Ah Au A1 A2 A3 : Option Addr} {na ca nh ch nu cu n1 c1 n2 c2 n3 c3 : Nat} {z : Int}
theorem OutF.keep (h : OutF w1 sec qs hs us Aa na ca Ah nh ch Au nu cu sec' A1 n1 c1 A2 n2 c2 A3 n3 c3 s z w') (hl : w.heap.size ≤ w1.heap.size) (hk : ∀ p : Addr, w1.heap.size ≤ p.block → p.block < w'.heap.size → w''.cell? p = w'.cell? p) (hz : w'.heap.size ≤ w''.heap.size) : OutF w sec qs hs us Aa na ca Ah nh ch Au nu cu sec' A1 n1 c1 A2 n2 c2 A3 n3 c3 s z w'' := by
  rcases h with h | ⟨e1, e2, qs', hs', us', l1, l2, l3, hm, hlim, hap⟩
  · exact .inl h
  · exact .inr ⟨e1, e2, qs', hs', us', l1, l2, l3, (hm.keep (fun p hp => hk p hp.1 hp.2)).mono (fun g hg => ⟨Nat.le_trans hl hg.1, Nat.lt_of_lt_of_le hg.2 hz⟩), hlim, hap⟩
/-- A result of three parts. -/
def Got3 (w : World) (sec : ByteArray) (qs : List Az) (hs : List Hz) (us : List Uz) (Aa : Option Addr) (na ca : Nat) (Ah : Option Addr) (nh ch : Nat) (Au : Option Addr) (nu cu : Nat) (o : Ending) (w' : World) : Prop :=
  ∃ sec' A1 n1 c1 A2 n2 c2 A3 n3 c3 s z, o = .returned (.tuple #[.agg #[.string sec', .slice A1 n1 c1, .slice A2 n2 c2, .slice A3 n3 c3], .string s, .int .i64 z]) ∧ OutF w sec qs hs us Aa na ca Ah nh ch Au nu cu sec' A1 n1 c1 A2 n2 c2 A3 n3 c3 s z w' ∧ Below w.heap.size w w'
/-- A result of four parts. -/
def Got4 (w : World) (sec : ByteArray) (qs : List Az) (hs : List Hz) (us : List Uz) (Aa : Option Addr) (na ca : Nat) (Ah : Option Addr) (nh ch : Nat) (Au : Option Addr) (nu cu : Nat) (o : Ending) (w' : World) : Prop :=
  ∃ sec' A1 n1 c1 A2 n2 c2 A3 n3 c3 s z k, o = .returned (.tuple #[.agg #[.string sec', .slice A1 n1 c1, .slice A2 n2 c2, .slice A3 n3 c3], .int .i64 k, .string s, .int .i64 z]) ∧ OutF w sec qs hs us Aa na ca Ah nh ch Au nu cu sec' A1 n1 c1 A2 n2 c2 A3 n3 c3 s z w' ∧ Below w.heap.size w w'
theorem got3_err {o : Ending} (hz : z ≠ 0) (h : ZeroErr w z o w') : Got3 w sec qs hs us Aa na ca Ah nh ch Au nu cu o w' :=
  ⟨⟨#[]⟩, none, 0, 0, none, 0, 0, none, 0, 0, ⟨#[]⟩, z, h.1, .inl ⟨hz, rfl, ⟨rfl, rfl, rfl⟩, ⟨rfl, rfl, rfl⟩, ⟨rfl, rfl, rfl⟩, rfl⟩, h.2⟩
theorem got3_good {o : Ending} {qs' : List Az} {hs' : List Hz} {us' : List Uz} (h : ChgGot w sec qs' hs' us' s o w') (hlim : qs'.length ≤ 100 ∧ hs'.length ≤ 100 ∧ us'.length ≤ 100 ∧ ∀ x ∈ hs', x.att.length ≤ 1000)
    (hap : ∀ W S', WalM W S' qs hs us Aa Ah Au → (∀ g, S' g → g < W.heap.size) → Calls Try.prog 12 #[.agg #[.string sec, .slice Aa na ca, .slice Ah nh ch, .slice Au nu cu], .string s] W (ApGot W sec qs' hs' us')) : Got3 w sec qs hs us Aa na ca Ah nh ch Au nu cu o w' := by
  obtain ⟨A1, n1, c1, A2, n2, c2, A3, n3, c3, e, l1, l2, l3, hm, hb⟩ := h
  exact ⟨sec, A1, n1, c1, A2, n2, c2, A3, n3, c3, s, 0, e, .inr ⟨rfl, rfl, qs', hs', us', l1, l2, l3, hm, hlim, hap⟩, hb⟩
end
/-- The limits of few. -/
structure FewW (qs : List Az) (hs : List Hz) (us : List Uz) : Prop where
  na : qs.length ≤ 8
  nh : hs.length ≤ 8
  nu : us.length ≤ 8
  att : ∀ x ∈ hs, x.att.length ≤ 10
  ok : WalOk qs hs us
section
variable (sec : ByteArray) (qs : List Az) (hs : List Hz) (us : List Uz) (Aa Ah Au : Option Addr) (na ca nh ch nu cu : Nat) (S : Nat → Prop) (w : World) (hf : FewW qs hs us) (hq : qs.length = na) (hn : hs.length = nh) (hu : us.length = nu) (h : WalM w S qs hs us Aa Ah Au) (hS : ∀ g, S g → g < w.heap.size)
include hf hq hn hu h hS
theorem ask_got (i s n x b : ByteArray) (hsz : i.size + s.size + n.size + x.size + b.size ≤ 100000) :
    Calls Try.prog 21 #[.agg #[.string sec, .slice Aa na ca, .slice Ah nh ch, .slice Au nu cu], .agg #[.string i, .string s, .string n, .string x, .string b]] w (Got3 w sec qs hs us Aa na ca Ah nh ch Au nu cu) := by
  refine (wal_Ask sec qs hs us Aa Ah Au na ca nh ch nu cu i s n x b S w hq hn hu hf.ok hsz h hS).mono fun o w' hg => ?_
  rcases hg with ⟨z, hz, hg⟩ | ⟨hv, hc, hno, hok, hg⟩
  · exact got3_err hz hg
  · exact got3_good hg ⟨by rw [List.length_append]; have := hf.na; simp; omega, by have := hf.nh; omega, by have := hf.nu; omega, fun x hx => by have := hf.att x hx; omega⟩ (fun W S' hm hS' => back_asked sec qs hs us Aa Ah Au na ca nh ch nu cu S' W hq hn hu hf.ok hv hm hS' i s n x b hno hok)
theorem store_got (nc : ByteArray) (x : Hz) (A : Option Addr) (n c : Nat) (hnc : nc.size ≤ 1000) (hx10 : x.att.length ≤ 10) (hxs : sizeH x ≤ 600) (hnx : x.att.length = n) (hxv : -9223372036854775808 ≤ x.ver ∧ x.ver ≤ 9223372036854775807) (hxe : -9223372036854775808 ≤ x.ep ∧ x.ep ≤ 9223372036854775807) (hrow : RowC w S A n (cellsN x.att)) :
    Calls Try.prog 22 #[.agg #[.string sec, .slice Aa na ca, .slice Ah nh ch, .slice Au nu cu], .string nc, valH x A n c] w (Got3 w sec qs hs us Aa na ca Ah nh ch Au nu cu) := by
  refine (wal_Store sec qs hs us Aa Ah Au na ca nh ch nu cu nc x A n c S w hq hn hu (by have := hf.nh; omega) hf.ok hnx (by omega) (by unfold numsH; rw [List.length_append]; simp; omega) hxv hxe (heldI_le nc x (by omega) hxv hxe (by omega) (by omega)) hrow h hS).mono fun o w' hg => ?_
  rcases hg with ⟨z, hz, hg⟩ | ⟨j, y, hidx, hy, hbad, hv, hc, hok, hg⟩
  · exact got3_err hz hg
  · refine got3_good hg ⟨by have := List.length_eraseIdx_le qs j; have := hf.na; omega, by rw [List.length_append]; have := hf.nh; simp; omega, by have := hf.nu; omega, fun t ht => ?_⟩ (fun W S' hm hS' => back_held sec qs hs us Aa Ah Au na ca nh ch nu cu S' W hq hn hu hf.ok hv hm hS' nc x j y (by omega) hxv hxe hidx hy hbad hok)
    rcases List.mem_append.1 ht with ht | ht
    · have := hf.att t ht; omega
    · rw [List.mem_singleton.1 ht]; omega
theorem renew_got (k : Int) (x : Hz) (A : Option Addr) (n c : Nat) (hx10 : x.att.length ≤ 10) (hxs : sizeH x ≤ 600) (hnx : x.att.length = n) (hkb : -9223372036854775808 ≤ k ∧ k ≤ 9223372036854775807) (hxv : -9223372036854775808 ≤ x.ver ∧ x.ver ≤ 9223372036854775807) (hxe : -9223372036854775808 ≤ x.ep ∧ x.ep ≤ 9223372036854775807) (hrow : RowC w S A n (cellsN x.att)) :
    Calls Try.prog 23 #[.agg #[.string sec, .slice Aa na ca, .slice Ah nh ch, .slice Au nu cu], .int .i64 k, valH x A n c] w (Got3 w sec qs hs us Aa na ca Ah nh ch Au nu cu) := by
  refine (wal_Renew sec qs hs us Aa Ah Au na ca nh ch nu cu k x A n c S w hq hn hu hf.ok hnx (by omega) (by unfold numsH; rw [List.length_append]; simp; omega) hkb hxv hxe (renewI_le k x hkb hxv hxe (by omega) (by omega)) hrow h hS).mono fun o w' hg => ?_
  rcases hg with ⟨z, hz, hg⟩ | ⟨j, y, hkj, hy, hsame, hep, hv, hc, hok, hg⟩
  · exact got3_err hz hg
  · subst hkj
    refine got3_good hg ⟨by have := hf.na; omega, by rw [List.length_set]; have := hf.nh; omega, by have := hf.nu; omega, fun t ht => ?_⟩ (fun W S' hm hS' => back_renewed sec qs hs us Aa Ah Au na ca nh ch nu cu S' W hq hn hu hf.ok hv hm hS' j x y (by omega) hxv hxe hy hsame hep hok)
    rcases List.mem_or_eq_of_mem_set ht with ht | ht
    · have := hf.att t ht; omega
    · rw [ht]; omega
theorem use_got (sc : ByteArray) (z lim : Int) (hsc : sc.size ≤ 1000) (hz : -9223372036854775808 ≤ z ∧ z ≤ 9223372036854775807) (hlim : lim ≤ 9223372036854775807) :
    Calls Try.prog 7 #[.agg #[.string sec, .slice Aa na ca, .slice Ah nh ch, .slice Au nu cu], .string sc, .int .i64 z, .int .i64 lim] w (Got4 w sec qs hs us Aa na ca Ah nh ch Au nu cu) := by
  have herr : ∀ (e : Int) o w', e ≠ 0 → (o = .returned (.tuple #[.agg #[.string ⟨#[]⟩, .slice none 0 0, .slice none 0 0, .slice none 0 0], .int .i64 0, .string ⟨#[]⟩, .int .i64 e]) ∧ Below w.heap.size w w') → Got4 w sec qs hs us Aa na ca Ah nh ch Au nu cu o w' := fun e o w' he hg =>
    ⟨⟨#[]⟩, none, 0, 0, none, 0, 0, none, 0, 0, ⟨#[]⟩, e, 0, hg.1, .inl ⟨he, rfl, ⟨rfl, rfl, rfl⟩, ⟨rfl, rfl, rfl⟩, ⟨rfl, rfl, rfl⟩, rfl⟩, hg.2⟩
  cases hv : validW sec qs hs us with
  | false => exact (wal_Use_inv sec qs hs us Aa Ah Au na ca nh ch nu cu sc z lim S w hq hn hu hf.ok hv h hS).mono fun o w' hg => herr 3 o w' (by decide) hg
  | true =>
    by_cases hl : lim ≤ cntU (isU sc z) us
    · exact (wal_Use_lim sec qs hs us Aa Ah Au na ca nh ch nu cu sc z lim S w hq hn hu hf.ok hv hl h hS).mono fun o w' hg => herr 24 o w' (by decide) hg
    · have h0 := cnt_pos hv (isU sc z)
      have hq2 : -9223372036854775808 ≤ cntU (isU sc z) us + 1 ∧ cntU (isU sc z) us + 1 ≤ 9223372036854775807 := by omega
      have hok : (encS (entOf ⟨#[117, 115, 101, 100]⟩ (usedL sc z (cntU (isU sc z) us + 1)))).2 = 0 := ent_ok (by decide) (usedL_ok hz hq2) (by rw [usedL_deep]; decide) (by have := usedL_le (sc := sc) hz hq2; omega)
      refine (wal_Use_ok sec qs hs us Aa Ah Au na ca nh ch nu cu sc z lim S w hq hn hu hf.ok hv h0 (by omega) hlim hz (by omega) h hS).mono fun o w' hg => ?_
      obtain ⟨A1, c1, A2, c2, A3, n3, c3, e, l3, hm, hb⟩ := hg
      exact ⟨sec, A1, na, c1, A2, nh, c2, A3, n3, c3, _, 0, _, e, .inr ⟨rfl, rfl, qs, hs, _, hq.symm, hn.symm, l3, hm, ⟨by have := hf.na; omega, by have := hf.nh; omega, by have := putU_len (sc, z, cntU (isU sc z) us + 1) us; have := hf.nu; omega, fun x hx => by have := hf.att x hx; omega⟩, fun W S' hm' hS' => back_used sec qs hs us Aa Ah Au na ca nh ch nu cu S' W hq hn hu hf.ok hv hm' hS' sc z hz h0 (by omega) hok⟩, hb⟩
end
end Go.Proofs.Ytlheedcnmfekoaa
