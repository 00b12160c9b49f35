/- Wallet: the index of a request with a nonce (IndexFunc, ContainsFunc with the closures of ask and store). Wallet: copied, for every wallet. -/
import Derived.Test.YtjhlddlocpkhkaaGreatWhJ12
import Derived.Test.YtjhlddlocpkhkaaGreatWhJ06
import Derived.Deep.DeepCutAuto
import Derived.Deep.CutBlock
namespace Go.Proofs.YtjhlddlocpkhkaaGreat
open Go.RowKit
set_option maxRecDepth 100000
set_option linter.unusedVariables false
set_option maxHeartbeats 4000000
def isA (nc : ByteArray) (x : Az) : Bool := x.2.2.1.toList == nc.toList
/-- The index of the first request that is meant, or -1. -/
def idxA (f : Az → Bool) : List Az → Nat → Int
  | [], _ => -1
  | x :: r, k => if f x = true then (k : Int) else idxA f r (k + 1)
theorem dropA {qs : List Az} {k : Nat} {x : Az} (h : qs[k]? = some x) : qs.drop k = x :: qs.drop (k + 1) := by
  obtain ⟨h1, h2⟩ := List.getElem?_eq_some_iff.1 h
  rw [List.drop_eq_getElem_cons h1, h2]
theorem idxA_none {f : Az → Bool} {qs : List Az} (h : qs.any f = false) (k : Nat) : idxA f qs k = -1 := by
  induction qs generalizing k with
  | nil => rfl
  | cons x r ih =>
    rw [List.any_cons, Bool.or_eq_false_iff] at h
    unfold idxA
    rw [h.1]
    simpa using ih h.2 (k + 1)
theorem idxA_some {f : Az → Bool} {qs : List Az} (h : qs.any f = true) (k : Nat) : ∃ i x, idxA f qs k = ((k + i : Nat) : Int) ∧ qs[i]? = some x ∧ f x = true ∧ qs.find? f = some x := by
  induction qs generalizing k with
  | nil => cases h
  | cons y r ih =>
    unfold idxA
    rw [List.find?_cons]
    cases hy : f y
    · rw [List.any_cons, hy, Bool.false_or] at h
      obtain ⟨i, x, h1, h2, h3, h4⟩ := ih h (k + 1)
      exact ⟨i + 1, x, by simp only [Bool.false_eq_true, if_false]; rw [h1]; congr 1; omega, by simpa using h2, h3, h4⟩
    · exact ⟨0, y, by simp, rfl, hy, rfl⟩
structure FaAt (w : World) (S : Nat → Prop) (A : Option Addr) (qs : List Az) (nc : ByteArray) (b1 o : Nat) (wr : World) : Prop where
  src : SlA wr S A qs
  c1 : wr.cell? ⟨b1, o, none⟩ = some (.string nc)
  bel : Below w.heap.size w wr
theorem FaAt.next {w wr w' : World} {S : Nat → Prop} {A : Option Addr} {qs : List Az} {nc : ByteArray} {b1 o : Nat} (h : FaAt w S A qs nc b1 o wr) (hS : ∀ g, S g → g < w.heap.size) (l1 : b1 < w.heap.size) (hb : Below wr.heap.size wr w') : FaAt w S A qs nc b1 o w' :=
  ⟨RowC.keep h.src (fun p hp => hb.cell (Nat.lt_of_lt_of_le (hS _ hp) h.bel.size)), (hb.cell (p := ⟨b1, o, none⟩) (Nat.lt_of_lt_of_le l1 h.bel.size)).trans h.c1, below2 h.bel hb⟩
theorem ask_1 (i s n x b nc : ByteArray) (b1 : Nat) (w : World) (h1 : w.cell? ⟨b1, 2, none⟩ = some (.string nc)) (l1 : b1 < w.heap.size) :
    Calls Tryz.prog 94 #[.agg #[.string i, .string s, .string n, .string x, .string b], .pointer (some ⟨b1, 0, none⟩)] w fun e w' => e = .returned (.bool (isA nc (i, s, n, x, b))) ∧ Below w.heap.size w w' := by
  have k1 : ¬ w.heap.size = b1 := by omega
  have k3 : ¬ b1 = w.heap.size := by omega
  unfold isA
  dsimp only
  go_enter Tryz.func94, Tryz.ntmps94
  cases hs : n.toList == nc.toList
  · go_wp2_with fail
    go_ret
    exact ⟨by simp, (Below.refl _ _).alloc (Nat.le_refl _) _⟩
  · go_wp2_with fail
    go_ret
    exact ⟨by simp, (Below.refl _ _).alloc (Nat.le_refl _) _⟩
theorem index_ask (qs : List Az) (A : Option Addr) (n c : Nat) (S : Nat → Prop) (nc : ByteArray) (b1 : Nat) (w : World) (hn : qs.length = n) (hm : n ≤ 100000) (h : SlA w S A qs) (hS : ∀ g, S g → g < w.heap.size) (h1 : w.cell? ⟨b1, 2, none⟩ = some (.string nc)) (l1 : b1 < w.heap.size) :
    Calls Tryz.prog 95 #[.slice A n c, .func (.func 94) #[] #[.pointer (some ⟨b1, 0, none⟩)]] w fun e w' => e = .returned (.int .i64 (idxA (isA nc) qs 0)) ∧ Below w.heap.size w w' := by
  have HL := Lib.hid (And.intro hS (And.intro l1 hn))
  have HF := Lib.hid (show FaAt w S A qs nc b1 2 w from ⟨h, h1, Below.refl _ _⟩)
  obtain ⟨R, hR⟩ : ∃ R, idxA (isA nc) qs 0 = R := ⟨_, rfl⟩
  have HR := Lib.hid hR
  rw [hR]
  clear h hS h1 l1 hn hR
  go_enter Tryz.func95, Tryz.ntmps95
  go_wp2_with fail
  go_loopw [8] (fun v wr => ∃ k : Nat, k ≤ n ∧ v = .int .i64 k ∧ idxA (isA nc) (qs.drop k) k = R ∧ FaAt w S A qs nc b1 2 wr) (fun v _ => n - (intOf v).toNat)
  case atStart => exact ⟨0, by omega, rfl, HR.out, HF.out⟩
  case round =>
    obtain ⟨k, hk, rfl, hx, hf⟩ := hrel
    have HX := Lib.hid hx
    have HFD := Lib.hid hf
    clear hx hf
    by_cases hlt : k < n
    · obtain ⟨⟨qi, qc, qn, qx, qb⟩, hu⟩ : ∃ u, qs[k]? = some u := ⟨qs[k]'(by rw [HL.out.2.2]; exact hlt), List.getElem?_eq_getElem _⟩
      obtain ⟨g, off, rfl, hsg, y0, y1, y2, y3, y4⟩ := HFD.out.src.at_ hu
      have HD := Lib.hid (dropA hu)
      have HC := Lib.hid (ask_1 qi qc qn qx qb nc b1 wr HFD.out.c1 (Nat.lt_of_lt_of_le HL.out.2.1 HFD.out.bel.size))
      obtain ⟨b, hb⟩ : ∃ b, isA nc (qi, qc, qn, qx, qb) = b := ⟨_, rfl⟩
      rw [hb] at HC
      have HB := Lib.hid hb
      have HLT := Lib.hid hlt
      have hil : (k : Int) < (n : Int) := by omega
      clear hu hsg hb hlt
      cases b
      · have hnx : idxA (isA nc) (qs.drop (k + 1)) (k + 1) = R := by
          have := HX.out
          rw [HD.out] at this
          simp only [idxA, HB.out] at this
          simpa using this
        have HNX := Lib.hid hnx
        clear hnx
        go_wp2_with (go_at_call 94; (with_reducible refine HC.out.mono ?_); rintro e w5 ⟨rfl, hb5⟩; have H5 := Lib.hid (HFD.out.next HL.out.1 HL.out.2.1 hb5); clear hb5)
        go_roundw
        case rel => exact ⟨k + 1, HLT.out, by go_num, HNX.out, H5.out⟩
        case measure => have := HLT.out; simp only [intOf]; omega
      · have hkr : (k : Int) = R := by
          have := HX.out
          rw [HD.out] at this
          simp only [idxA, HB.out] at this
          simpa using this
        have HKR := Lib.hid hkr
        clear hkr
        go_wp2_with (go_at_call 94; (with_reducible refine HC.out.mono ?_); rintro e w5 ⟨rfl, hb5⟩; have H5 := Lib.hid (HFD.out.next HL.out.1 HL.out.2.1 hb5); clear hb5)
        go_ret
        exact ⟨by rw [← HKR.out]; rfl, H5.out.bel⟩
    · obtain rfl : k = n := by omega
      have hr1 : R = -1 := by
        have := HX.out
        rw [List.drop_eq_nil_of_le (by rw [HL.out.2.2]; exact Nat.le_refl _)] at this
        exact this.symm
      have HR1 := Lib.hid hr1
      clear hr1
      go_wp2_with fail
      go_ret
      exact ⟨by rw [HR1.out]; rfl, HFD.out.bel⟩
theorem store_1 (i s n x b nc : ByteArray) (b1 : Nat) (w : World) (h1 : w.cell? ⟨b1, 0, none⟩ = some (.string nc)) (l1 : b1 < w.heap.size) :
    Calls Tryz.prog 96 #[.agg #[.string i, .string s, .string n, .string x, .string b], .pointer (some ⟨b1, 0, none⟩)] w fun e w' => e = .returned (.bool (isA nc (i, s, n, x, b))) ∧ Below w.heap.size w w' := by
  have k1 : ¬ w.heap.size = b1 := by omega
  have k3 : ¬ b1 = w.heap.size := by omega
  unfold isA
  dsimp only
  go_enter Tryz.func96, Tryz.ntmps96
  cases hs : n.toList == nc.toList
  · go_wp2_with fail
    go_ret
    exact ⟨by simp, (Below.refl _ _).alloc (Nat.le_refl _) _⟩
  · go_wp2_with fail
    go_ret
    exact ⟨by simp, (Below.refl _ _).alloc (Nat.le_refl _) _⟩
theorem index_store (qs : List Az) (A : Option Addr) (n c : Nat) (S : Nat → Prop) (nc : ByteArray) (b1 : Nat) (w : World) (hn : qs.length = n) (hm : n ≤ 100000) (h : SlA w S A qs) (hS : ∀ g, S g → g < w.heap.size) (h1 : w.cell? ⟨b1, 0, none⟩ = some (.string nc)) (l1 : b1 < w.heap.size) :
    Calls Tryz.prog 95 #[.slice A n c, .func (.func 96) #[] #[.pointer (some ⟨b1, 0, none⟩)]] w fun e w' => e = .returned (.int .i64 (idxA (isA nc) qs 0)) ∧ Below w.heap.size w w' := by
  have HL := Lib.hid (And.intro hS (And.intro l1 hn))
  have HF := Lib.hid (show FaAt w S A qs nc b1 0 w from ⟨h, h1, Below.refl _ _⟩)
  obtain ⟨R, hR⟩ : ∃ R, idxA (isA nc) qs 0 = R := ⟨_, rfl⟩
  have HR := Lib.hid hR
  rw [hR]
  clear h hS h1 l1 hn hR
  go_enter Tryz.func95, Tryz.ntmps95
  go_wp2_with fail
  go_loopw [8] (fun v wr => ∃ k : Nat, k ≤ n ∧ v = .int .i64 k ∧ idxA (isA nc) (qs.drop k) k = R ∧ FaAt w S A qs nc b1 0 wr) (fun v _ => n - (intOf v).toNat)
  case atStart => exact ⟨0, by omega, rfl, HR.out, HF.out⟩
  case round =>
    obtain ⟨k, hk, rfl, hx, hf⟩ := hrel
    have HX := Lib.hid hx
    have HFD := Lib.hid hf
    clear hx hf
    by_cases hlt : k < n
    · obtain ⟨⟨qi, qc, qn, qx, qb⟩, hu⟩ : ∃ u, qs[k]? = some u := ⟨qs[k]'(by rw [HL.out.2.2]; exact hlt), List.getElem?_eq_getElem _⟩
      obtain ⟨g, off, rfl, hsg, y0, y1, y2, y3, y4⟩ := HFD.out.src.at_ hu
      have HD := Lib.hid (dropA hu)
      have HC := Lib.hid (store_1 qi qc qn qx qb nc b1 wr HFD.out.c1 (Nat.lt_of_lt_of_le HL.out.2.1 HFD.out.bel.size))
      obtain ⟨b, hb⟩ : ∃ b, isA nc (qi, qc, qn, qx, qb) = b := ⟨_, rfl⟩
      rw [hb] at HC
      have HB := Lib.hid hb
      have HLT := Lib.hid hlt
      have hil : (k : Int) < (n : Int) := by omega
      clear hu hsg hb hlt
      cases b
      · have hnx : idxA (isA nc) (qs.drop (k + 1)) (k + 1) = R := by
          have := HX.out
          rw [HD.out] at this
          simp only [idxA, HB.out] at this
          simpa using this
        have HNX := Lib.hid hnx
        clear hnx
        go_wp2_with (go_at_call 96; (with_reducible refine HC.out.mono ?_); rintro e w5 ⟨rfl, hb5⟩; have H5 := Lib.hid (HFD.out.next HL.out.1 HL.out.2.1 hb5); clear hb5)
        go_roundw
        case rel => exact ⟨k + 1, HLT.out, by go_num, HNX.out, H5.out⟩
        case measure => have := HLT.out; simp only [intOf]; omega
      · have hkr : (k : Int) = R := by
          have := HX.out
          rw [HD.out] at this
          simp only [idxA, HB.out] at this
          simpa using this
        have HKR := Lib.hid hkr
        clear hkr
        go_wp2_with (go_at_call 96; (with_reducible refine HC.out.mono ?_); rintro e w5 ⟨rfl, hb5⟩; have H5 := Lib.hid (HFD.out.next HL.out.1 HL.out.2.1 hb5); clear hb5)
        go_ret
        exact ⟨by rw [← HKR.out]; rfl, H5.out.bel⟩
    · obtain rfl : k = n := by omega
      have hr1 : R = -1 := by
        have := HX.out
        rw [List.drop_eq_nil_of_le (by rw [HL.out.2.2]; exact Nat.le_refl _)] at this
        exact this.symm
      have HR1 := Lib.hid hr1
      clear hr1
      go_wp2_with fail
      go_ret
      exact ⟨by rw [HR1.out]; rfl, HFD.out.bel⟩
theorem contains_ask (qs : List Az) (A : Option Addr) (n c : Nat) (S : Nat → Prop) (nc : ByteArray) (b1 : Nat) (w : World) (hn : qs.length = n) (hm : n ≤ 100000) (h : SlA w S A qs) (hS : ∀ g, S g → g < w.heap.size) (h1 : w.cell? ⟨b1, 2, none⟩ = some (.string nc)) (l1 : b1 < w.heap.size) :
    Calls Tryz.prog 93 #[.slice A n c, .func (.func 94) #[] #[.pointer (some ⟨b1, 0, none⟩)]] w fun e w' => e = .returned (.bool (qs.any (isA nc))) ∧ Below w.heap.size w w' := by
  have H := Lib.hid (index_ask qs A n c S nc b1 w hn hm h hS h1 l1)
  obtain ⟨b, hb⟩ : ∃ b, qs.any (isA nc) = b := ⟨_, rfl⟩
  rw [hb]
  cases b with
  | false =>
    rw [idxA_none hb 0] at H
    clear h hS h1 l1 hn hm hb
    go_enter Tryz.func93, Tryz.ntmps93
    go_wp2_with (go_at_call 95; refine H.out.mono ?_; rintro e w' ⟨rfl, hb5⟩; have HB := Lib.hid hb5; clear hb5)
    go_ret
    exact ⟨rfl, HB.out⟩
  | true =>
    obtain ⟨i, x, h2, _⟩ := idxA_some hb 0
    rw [Nat.zero_add] at h2
    rw [h2] at H
    clear h hS h1 l1 hn hm hb h2
    go_enter Tryz.func93, Tryz.ntmps93
    go_wp2_with (go_at_call 95; refine H.out.mono ?_; rintro e w' ⟨rfl, hb5⟩; have HB := Lib.hid hb5; clear hb5)
    go_ret
    exact ⟨by simp, HB.out⟩
/-- The box of a wallet and the box of the result. -/
structure CpB (w : World) (sec : ByteArray) (Aa : Option Addr) (na ca : Nat) (Ah : Option Addr) (nh ch : Nat) (Au : Option Addr) (nu cu : Nat) (wx : World) : Prop where
  box : wx.heap[w.heap.size]? = some (.cells #[.string sec, .slice Aa na ca, .slice Ah nh ch, .slice Au nu cu] 27 (0, 0))
  res : wx.heap[w.heap.size + 1]? = some (.cells #[.string ⟨#[]⟩, .slice none 0 0, .slice none 0 0, .slice none 0 0] 27 (0, 0))
  bel : Below w.heap.size w wx
  size : w.heap.size + 2 ≤ wx.heap.size
section
variable {w wx w' : World} {sec : ByteArray} {Aa : Option Addr} {na ca : Nat} {Ah : Option Addr} {nh ch : Nat} {Au : Option Addr} {nu cu : Nat}
theorem CpB.start : CpB w sec Aa na ca Ah nh ch Au nu cu ((w.alloc (.cells #[.string sec, .slice Aa na ca, .slice Ah nh ch, .slice Au nu cu] 27)).alloc (.cells #[.string ⟨#[]⟩, .slice none 0 0, .slice none 0 0, .slice none 0 0] 27)) :=
  ⟨(two_boxes w _ _).1, (two_boxes w _ _).2, ((Below.refl _ _).alloc (Nat.le_refl _) _).alloc (by simp) _, by simp⟩
theorem CpB.next (h : CpB w sec Aa na ca Ah nh ch Au nu cu wx) (hb : Below wx.heap.size wx w') : CpB w sec Aa na ca Ah nh ch Au nu cu w' :=
  ⟨(hb.block _ (by have := h.size; omega)).trans h.box, (hb.block _ (by have := h.size; omega)).trans h.res, below2 h.bel hb, Nat.le_trans h.size hb.size⟩
theorem CpB.drew (h : CpB w sec Aa na ca Ah nh ch Au nu cu wx) : CpB w sec Aa na ca Ah nh ch Au nu cu wx.drew := h.next (Below.refl _ _).drew
theorem CpB.bc (h : CpB w sec Aa na ca Ah nh ch Au nu cu wx) : (wx.cell? ⟨w.heap.size, 0, none⟩ = some (.string sec) ∧ wx.cell? ⟨w.heap.size, 1, none⟩ = some (.slice Aa na ca) ∧ wx.cell? ⟨w.heap.size, 2, none⟩ = some (.slice Ah nh ch) ∧ wx.cell? ⟨w.heap.size, 3, none⟩ = some (.slice Au nu cu)) ∧ (wx.frozen? ⟨w.heap.size, 0, none⟩ = false ∧ wx.frozen? ⟨w.heap.size, 1, none⟩ = false ∧ wx.frozen? ⟨w.heap.size, 2, none⟩ = false ∧ wx.frozen? ⟨w.heap.size, 3, none⟩ = false) :=
  ⟨⟨cell_of_row wx _ 0 _ _ _ h.box, cell_of_row wx _ 1 _ _ _ h.box, cell_of_row wx _ 2 _ _ _ h.box, cell_of_row wx _ 3 _ _ _ h.box⟩, frozen_of_row wx _ 0 _ _ h.box, frozen_of_row wx _ 1 _ _ h.box, frozen_of_row wx _ 2 _ _ h.box, frozen_of_row wx _ 3 _ _ h.box⟩
theorem CpB.rc (h : CpB w sec Aa na ca Ah nh ch Au nu cu wx) : (wx.cell? ⟨w.heap.size + 1, 0, none⟩ = some (.string ⟨#[]⟩) ∧ wx.cell? ⟨w.heap.size + 1, 1, none⟩ = some (.slice none 0 0) ∧ wx.cell? ⟨w.heap.size + 1, 2, none⟩ = some (.slice none 0 0) ∧ wx.cell? ⟨w.heap.size + 1, 3, none⟩ = some (.slice none 0 0)) ∧ (wx.frozen? ⟨w.heap.size + 1, 0, none⟩ = false ∧ wx.frozen? ⟨w.heap.size + 1, 1, none⟩ = false ∧ wx.frozen? ⟨w.heap.size + 1, 2, none⟩ = false ∧ wx.frozen? ⟨w.heap.size + 1, 3, none⟩ = false) :=
  ⟨⟨cell_of_row wx _ 0 _ _ _ h.res, cell_of_row wx _ 1 _ _ _ h.res, cell_of_row wx _ 2 _ _ _ h.res, cell_of_row wx _ 3 _ _ _ h.res⟩, frozen_of_row wx _ 0 _ _ h.res, frozen_of_row wx _ 1 _ _ h.res, frozen_of_row wx _ 2 _ _ h.res, frozen_of_row wx _ 3 _ _ h.res⟩
end
/-- Behind the three clones: rows of the call's own below M. -/
structure CpW (w : World) (sec : ByteArray) (qs : List Az) (LH : List Value) (us : List Uz) (A1 : Option Addr) (na c1 : Nat) (A2 : Option Addr) (nh c2 : Nat) (A3 : Option Addr) (nu c3 : Nat) (M : Nat) (wx : World) : Prop where
  b : CpB w sec A1 na c1 A2 nh c2 A3 nu c3 wx
  a : wx.ownsRow (w.heap.size + 2) 40 5 (.slice A1 na c1) na (cellsA qs)
  h : wx.ownsRow (w.heap.size + 2) 47 9 (.slice A2 nh c2) nh LH
  u : wx.ownsRow (w.heap.size + 2) 57 3 (.slice A3 nu c3) nu (cellsU us)
  ah : ∀ g, (Value.slice A1 na c1).ownBlock = some g → (Value.slice A2 nh c2).ownBlock ≠ some g
  au : ∀ g, (Value.slice A1 na c1).ownBlock = some g → (Value.slice A3 nu c3).ownBlock ≠ some g
  hu : ∀ g, (Value.slice A2 nh c2).ownBlock = some g → (Value.slice A3 nu c3).ownBlock ≠ some g
  m1 : ∀ g, (Value.slice A1 na c1).ownBlock = some g → g < M
  m2 : ∀ g, (Value.slice A2 nh c2).ownBlock = some g → g < M
  m3 : ∀ g, (Value.slice A3 nu c3).ownBlock = some g → g < M
  le : w.heap.size + 2 ≤ M
  mz : M ≤ wx.heap.size
section
variable {w wx w' : World} {sec : ByteArray} {qs : List Az} {LH : List Value} {us : List Uz} {A1 : Option Addr} {na c1 : Nat} {A2 : Option Addr} {nh c2 : Nat} {A3 : Option Addr} {nu c3 M : Nat}
theorem CpW.next (h : CpW w sec qs LH us A1 na c1 A2 nh c2 A3 nu c3 M wx) (hb : Below wx.heap.size wx w') : CpW w sec qs LH us A1 na c1 A2 nh c2 A3 nu c3 M w' :=
  ⟨h.b.next hb, owns_below h.a hb, owns_below h.h hb, owns_below h.u hb, h.ah, h.au, h.hu, h.m1, h.m2, h.m3, h.le, Nat.le_trans h.mz hb.size⟩
theorem CpW.drew (h : CpW w sec qs LH us A1 na c1 A2 nh c2 A3 nu c3 M wx) : CpW w sec qs LH us A1 na c1 A2 nh c2 A3 nu c3 M wx.drew := h.next (Below.refl _ _).drew
theorem CpB.set3 {Aa Ah Au : Option Addr} {ca ch cu : Nat} (h : CpB w sec Aa na ca Ah nh ch Au nu cu wx) :
    CpB w sec A1 na c1 A2 nh c2 A3 nu c3 (((wx.setCell ⟨w.heap.size, 1, none⟩ (.slice A1 na c1)).setCell ⟨w.heap.size, 2, none⟩ (.slice A2 nh c2)).setCell ⟨w.heap.size, 3, none⟩ (.slice A3 nu c3)) := by
  refine ⟨?_, ?_, ((h.bel.setCell (p := ⟨w.heap.size, 1, none⟩) (Nat.le_refl _) _).setCell (p := ⟨w.heap.size, 2, none⟩) (Nat.le_refl _) _).setCell (p := ⟨w.heap.size, 3, none⟩) (Nat.le_refl _) _, by simpa using h.size⟩
  · have e1 := heap_setCell_same wx w.heap.size 1 _ _ (.slice A1 na c1) h.box
    have e2 := heap_setCell_same _ w.heap.size 2 _ _ (.slice A2 nh c2) e1
    have e3 := heap_setCell_same _ w.heap.size 3 _ _ (.slice A3 nu c3) e2
    exact e3
  · rw [heap_setCell_other _ _ _ _ (show w.heap.size + 1 ≠ w.heap.size by omega), heap_setCell_other _ _ _ _ (show w.heap.size + 1 ≠ w.heap.size by omega), heap_setCell_other _ _ _ _ (show w.heap.size + 1 ≠ w.heap.size by omega)]
    exact h.res
theorem owns_set3 {e : TypeId} {size : Nat} {v : Value} {n : Nat} {xs : List Value} (h : wx.ownsRow (w.heap.size + 2) e size v n xs) (v1 v2 v3 : Value) :
    (((wx.setCell ⟨w.heap.size, 1, none⟩ v1).setCell ⟨w.heap.size, 2, none⟩ v2).setCell ⟨w.heap.size, 3, none⟩ v3).ownsRow (w.heap.size + 2) e size v n xs := by
  have hne : v.ownBlock ≠ some w.heap.size := fun e => by have := (h.lt _ e).1; omega
  exact owns_set (owns_set (owns_set h hne _) hne _) hne _
end
/-- Behind the first clone, the second, the third. -/
structure CpP1 (w : World) (sec : ByteArray) (Aa : Option Addr) (na ca : Nat) (Ah : Option Addr) (nh ch : Nat) (Au : Option Addr) (nu cu : Nat) (qs : List Az) (A1 : Option Addr) (c1 : Nat) (wx : World) : Prop where
  b : CpB w sec Aa na ca Ah nh ch Au nu cu wx
  a : wx.ownsRow (w.heap.size + 2) 40 5 (.slice A1 na c1) na (cellsA qs)
structure CpP2 (w : World) (sec : ByteArray) (Aa : Option Addr) (na ca : Nat) (Ah : Option Addr) (nh ch : Nat) (Au : Option Addr) (nu cu : Nat) (qs : List Az) (A1 : Option Addr) (c1 : Nat) (LH : List Value) (A2 : Option Addr) (c2 : Nat) (wx : World) : Prop where
  p : CpP1 w sec Aa na ca Ah nh ch Au nu cu qs A1 c1 wx
  h : wx.ownsRow (w.heap.size + 2) 47 9 (.slice A2 nh c2) nh LH
  ah : ∀ g, (Value.slice A1 na c1).ownBlock = some g → (Value.slice A2 nh c2).ownBlock ≠ some g
structure CpP3 (w : World) (sec : ByteArray) (Aa : Option Addr) (na ca : Nat) (Ah : Option Addr) (nh ch : Nat) (Au : Option Addr) (nu cu : Nat) (qs : List Az) (A1 : Option Addr) (c1 : Nat) (LH : List Value) (A2 : Option Addr) (c2 : Nat) (us : List Uz) (A3 : Option Addr) (c3 : Nat) (wx : World) : Prop where
  q : CpP2 w sec Aa na ca Ah nh ch Au nu cu qs A1 c1 LH A2 c2 wx
  u : wx.ownsRow (w.heap.size + 2) 57 3 (.slice A3 nu c3) nu (cellsU us)
  au : ∀ g, (Value.slice A1 na c1).ownBlock = some g → (Value.slice A3 nu c3).ownBlock ≠ some g
  hu : ∀ g, (Value.slice A2 nh c2).ownBlock = some g → (Value.slice A3 nu c3).ownBlock ≠ some g
section
variable {w W w' : World} {sec : ByteArray} {qs : List Az} {LH : List Value} {us : List Uz} {Aa Ah Au : Option Addr} {ca ch cu : Nat} {A1 : Option Addr} {na c1 : Nat} {A2 : Option Addr} {nh c2 : Nat} {A3 : Option Addr} {nu c3 : Nat}
theorem CpB.cl (h : CpB w sec Aa na ca Ah nh ch Au nu cu W) (o : w'.ownsRow W.heap.size 40 5 (.slice A1 na c1) na (cellsA qs)) (hb : Below W.heap.size W w') : CpP1 w sec Aa na ca Ah nh ch Au nu cu qs A1 c1 w' :=
  ⟨h.next hb, owns_mono o h.size⟩
theorem CpP1.drew (h : CpP1 w sec Aa na ca Ah nh ch Au nu cu qs A1 c1 W) : CpP1 w sec Aa na ca Ah nh ch Au nu cu qs A1 c1 W.drew := ⟨h.b.drew, h.a⟩
theorem CpP2.drew (h : CpP2 w sec Aa na ca Ah nh ch Au nu cu qs A1 c1 LH A2 c2 W) : CpP2 w sec Aa na ca Ah nh ch Au nu cu qs A1 c1 LH A2 c2 W.drew := ⟨h.p.drew, h.h, h.ah⟩
theorem CpP3.drew (h : CpP3 w sec Aa na ca Ah nh ch Au nu cu qs A1 c1 LH A2 c2 us A3 c3 W) : CpP3 w sec Aa na ca Ah nh ch Au nu cu qs A1 c1 LH A2 c2 us A3 c3 W.drew := ⟨h.q.drew, h.u, h.au, h.hu⟩
theorem CpP1.cl (h : CpP1 w sec Aa na ca Ah nh ch Au nu cu qs A1 c1 W) (o : w'.ownsRow W.heap.size 47 9 (.slice A2 nh c2) nh LH) (hb : Below W.heap.size W w') : CpP2 w sec Aa na ca Ah nh ch Au nu cu qs A1 c1 LH A2 c2 w' :=
  ⟨⟨h.b.next hb, owns_below h.a hb⟩, owns_mono o h.b.size, fun g h1 h2 => by have := (h.a.lt _ h1).2; have := (o.lt _ h2).1; omega⟩
theorem CpP2.cl (h : CpP2 w sec Aa na ca Ah nh ch Au nu cu qs A1 c1 LH A2 c2 W) (o : w'.ownsRow W.heap.size 57 3 (.slice A3 nu c3) nu (cellsU us)) (hb : Below W.heap.size W w') : CpP3 w sec Aa na ca Ah nh ch Au nu cu qs A1 c1 LH A2 c2 us A3 c3 w' :=
  ⟨⟨⟨h.p.b.next hb, owns_below h.p.a hb⟩, owns_below h.h hb, h.ah⟩, owns_mono o h.p.b.size, fun g h1 h2 => by have := (h.p.a.lt _ h1).2; have := (o.lt _ h2).1; omega, fun g h1 h2 => by have := (h.h.lt _ h1).2; have := (o.lt _ h2).1; omega⟩
theorem CpP3.done (h : CpP3 w sec Aa na ca Ah nh ch Au nu cu qs A1 c1 LH A2 c2 us A3 c3 W) : 
    CpW w sec qs LH us A1 na c1 A2 nh c2 A3 nu c3 W.heap.size (((W.setCell ⟨w.heap.size, 1, none⟩ (.slice A1 na c1)).setCell ⟨w.heap.size, 2, none⟩ (.slice A2 nh c2)).setCell ⟨w.heap.size, 3, none⟩ (.slice A3 nu c3)) :=
  ⟨h.q.p.b.set3, owns_set3 h.q.p.a _ _ _, owns_set3 h.q.h _ _ _, owns_set3 h.u _ _ _, h.q.ah, h.au, h.hu, fun g hg => (h.q.p.a.lt _ hg).2, fun g hg => (h.q.h.lt _ hg).2, fun g hg => (h.u.lt _ hg).2, h.q.p.b.size, by simp⟩
/-- A round of the loop: the attributes of the credential at k are a new row. -/
theorem set_mid {La Lb : List Value} {x : Hz} {A A' : Option Addr} {c c' k : Nat} (hl : La.length = k * 9) : (La ++ (cellsH x A c ++ Lb)).set (k * 9 + 3) (.slice A' x.att.length c') = (La ++ cellsH x A' c') ++ Lb := by
  rw [List.set_append_right _ _ (by omega), hl, show k * 9 + 3 - k * 9 = 3 by omega, List.append_assoc]
  rfl
theorem CpW.step {M k g2 c2 : Nat} {La Lb : List Value} {x : Hz} {A A' : Option Addr} {c c' : Nat} (h : CpW w sec qs (La ++ (cellsH x A c ++ Lb)) us A1 na c1 (some ⟨g2, 0, none⟩) nh c2 A3 nu c3 M W) (hl : La.length = k * 9) (hb : Below W.heap.size W w') :
    CpW w sec qs ((La ++ cellsH x A' c') ++ Lb) us A1 na c1 (some ⟨g2, 0, none⟩) nh c2 A3 nu c3 M (w'.setCell ⟨g2, k * 9 + 3, none⟩ (.slice A' x.att.length c')) := by
  have h' := h.next hb
  have hg2 := (h'.h.lt g2 rfl).1
  have hs := h'.h.stored (k * 9 + 3) (.slice A' x.att.length c')
  rw [set_mid hl] at hs
  refine ⟨⟨?_, ?_, h'.b.bel.setCell (p := ⟨g2, k * 9 + 3, none⟩) (Nat.le_trans (Nat.le_add_right _ 2) hg2) _, by simpa using h'.b.size⟩, owns_set h'.a (fun e => h.ah g2 e rfl) _, hs.1, owns_set h'.u (fun e => h.hu g2 rfl e) _, h.ah, h.au, h.hu, h.m1, h.m2, h.m3, h.le, by simpa using h'.mz⟩
  · rw [heap_setCell_other _ _ _ _ (show w.heap.size ≠ g2 by omega)]
    exact h'.b.box
  · rw [heap_setCell_other _ _ _ _ (show w.heap.size + 1 ≠ g2 by omega)]
    exact h'.b.res
/-- The blocks of the attributes' new rows. -/
def newS (M : Nat) (w : World) (g : Nat) : Prop := M ≤ g ∧ g < w.heap.size
theorem rel_old {S : Nat → Prop} {hs : List Hz} {g2 i : Nat} {u : Value} (h : RelH W S hs LH) (hS : ∀ g, S g → g < W.heap.size ∧ g ≠ g2) (hb : Below W.heap.size W w') : RelH (w'.setCell ⟨g2, i, none⟩ u) S hs LH := h.keep fun p hp => by
  rw [World.cell?_setCell_other _ _ _ _ (fun e => (hS _ hp).2 (by have := congrArg Addr.block e; first | exact this | exact this.symm))]
  exact hb.cell (hS _ hp).1
theorem row_new {M g2 i c' : Nat} {A' : Option Addr} {u : Value} {n : Nat} {L : List Value} (o : w'.ownsRow W.heap.size 22 1 (.slice A' n c') n L) (hM : M ≤ W.heap.size) (hg : g2 < M) : RowC (w'.setCell ⟨g2, i, none⟩ u) (newS M (w'.setCell ⟨g2, i, none⟩ u)) A' n L :=
  ((owns_row o).keep (fun p hp => World.cell?_setCell_other _ _ _ _ (fun e => by have := congrArg Addr.block e; simp at this; omega))).mono fun g hg' => ⟨by omega, by simpa using hg'.2⟩
theorem CpW.fin {M : Nat} {hs : List Hz} (h : CpW w sec qs LH us A1 na c1 A2 nh c2 A3 nu c3 M W) (hr : RelH W (newS M W) hs LH) (hq : qs.length = na) (hn : hs.length = nh) (hu : us.length = nu) (v0 v1 v2 v3 : Value) :
    OwnW ((((W.setCell ⟨w.heap.size + 1, 0, none⟩ v0).setCell ⟨w.heap.size + 1, 1, none⟩ v1).setCell ⟨w.heap.size + 1, 2, none⟩ v2).setCell ⟨w.heap.size + 1, 3, none⟩ v3) w.heap.size qs hs us (.slice A1 na c1) (.slice A2 nh c2) (.slice A3 nu c3) ∧
    Below w.heap.size w ((((W.setCell ⟨w.heap.size + 1, 0, none⟩ v0).setCell ⟨w.heap.size + 1, 1, none⟩ v1).setCell ⟨w.heap.size + 1, 2, none⟩ v2).setCell ⟨w.heap.size + 1, 3, none⟩ v3) := by
  have o4 : ∀ {e : TypeId} {size : Nat} {v : Value} {n : Nat} {xs : List Value}, W.ownsRow (w.heap.size + 2) e size v n xs → ((((W.setCell ⟨w.heap.size + 1, 0, none⟩ v0).setCell ⟨w.heap.size + 1, 1, none⟩ v1).setCell ⟨w.heap.size + 1, 2, none⟩ v2).setCell ⟨w.heap.size + 1, 3, none⟩ v3).ownsRow w.heap.size e size v n xs := fun {e size v n xs} o => by
    have hne : v.ownBlock ≠ some (w.heap.size + 1) := fun e => by have := (o.lt _ e).1; omega
    exact owns_mono (owns_set (owns_set (owns_set (owns_set o hne _) hne _) hne _) hne _) (Nat.le_add_right _ 2)
  subst hq hn hu
  refine ⟨⟨o4 h.a, ⟨LH, o4 h.h, (hr.keep fun p hp => ?_).mono fun g hg => ?_⟩, o4 h.u, h.ah, h.au, h.hu⟩, ?_⟩
  · have h1 := hp.1
    have h2 := h.le
    have hcell : ∀ (W : World) (i : Nat) (u : Value), (W.setCell ⟨w.heap.size + 1, i, none⟩ u).cell? p = W.cell? p := fun W i u => World.cell?_setCell_other _ _ _ _ (fun e => by have := congrArg Addr.block e; simp at this; omega)
    rw [hcell, hcell, hcell, hcell]
  · have h1 := hg.1
    have h2 := h.le
    exact ⟨by omega, by simpa using hg.2, fun e => by have := h.m1 _ e; omega, fun e => by have := h.m2 _ e; omega, fun e => by have := h.m3 _ e; omega⟩
  · exact (((h.b.bel.setCell (p := ⟨w.heap.size + 1, 0, none⟩) (Nat.le_succ _) _).setCell (p := ⟨w.heap.size + 1, 1, none⟩) (Nat.le_succ _) _).setCell (p := ⟨w.heap.size + 1, 2, none⟩) (Nat.le_succ _) _).setCell (p := ⟨w.heap.size + 1, 3, none⟩) (Nat.le_succ _) _
end
end Go.Proofs.YtjhlddlocpkhkaaGreat
