/- wallet.find. wallet.find, wallet.count. wallet.canonical. wallet: slices.Clone of counts. Wallet: sets of keys (maps to bool that a call makes), keys strings or pairs of a string and a number. -/
import Derived.Test.YtlheedcnmfekoaaWeJ00
import Derived.Maps.Own
import Derived.Maps.OwnOps
import Derived.Maps.OwnSet
import Derived.Maps.Views
import Derived.StringKeys
import Derived.DeepKeys4
namespace Go.Proofs.Ytlheedcnmfekoaa
open Go.RowKit
set_option maxRecDepth 100000
set_option linter.unusedVariables false
set_option maxHeartbeats 4000000
/-- A count: scope, period, count. -/
abbrev Uz := ByteArray × Int × Int
def cellsU : List Uz → List Value
  | [] => []
  | (s, p, c) :: r => .string s :: .int .i64 p :: .int .i64 c :: cellsU r
theorem cellsU_get {us : List Uz} {i : Nat} {s : ByteArray} {p c : Int} (h : us[i]? = some (s, p, c)) : (cellsU us)[i * 3]? = some (.string s) ∧ (cellsU us)[i * 3 + 1]? = some (.int .i64 p) ∧ (cellsU us)[i * 3 + 2]? = some (.int .i64 c) := by
  induction us generalizing i with
  | nil => simp at h
  | cons x r ih =>
    obtain ⟨s', p', c'⟩ := x
    cases i with
    | zero =>
      simp only [List.getElem?_cons_zero, Option.some.injEq, Prod.mk.injEq] at h
      obtain ⟨rfl, rfl, rfl⟩ := h
      exact ⟨rfl, rfl, rfl⟩
    | succ i =>
      simp only [List.getElem?_cons_succ] at h
      obtain ⟨a, b, d⟩ := ih h
      have e1 : (i + 1) * 3 = i * 3 + 1 + 1 + 1 := by omega
      rw [e1]
      simp only [cellsU, List.getElem?_cons_succ]
      exact ⟨a, b, d⟩
theorem cellsU_len (us : List Uz) : (cellsU us).length = us.length * 3 := by
  induction us with
  | nil => rfl
  | cons x r ih => obtain ⟨s, p, c⟩ := x; simp only [cellsU, List.length_cons, ih]; omega
/-- A slice of counts. -/
def SlU (w : World) (S : Nat → Prop) (A : Option Addr) (us : List Uz) : Prop := RowC w S A us.length (cellsU us)
theorem SlU.at_ {w : World} {S : Nat → Prop} {A : Option Addr} {us : List Uz} (h : SlU w S A us) {i : Nat} {s : ByteArray} {p c : Int} (hi : us[i]? = some (s, p, c)) :
    ∃ g off, A = some ⟨g, off, none⟩ ∧ S g ∧ w.cell? ⟨g, off + i * 3, none⟩ = some (.string s) ∧ w.cell? ⟨g, off + i * 3 + 1, none⟩ = some (.int .i64 p) ∧ w.cell? ⟨g, off + i * 3 + 2, none⟩ = some (.int .i64 c) := by
  obtain ⟨g, off, e, hg, hc⟩ := h (Nat.lt_of_le_of_lt (Nat.zero_le _) (List.getElem?_eq_some_iff.1 hi).1)
  obtain ⟨a, b, d⟩ := cellsU_get hi
  exact ⟨g, off, e, hg, hc _ _ a, hc _ _ b, hc _ _ d⟩
def isU (sc : ByteArray) (z : Int) (u : Uz) : Bool := u.1.toList == sc.toList && u.2.1 == z
theorem find_1 (s : ByteArray) (p c : Int) (sc : ByteArray) (z : Int) (b1 b2 : Nat) (w : World) (h1 : w.cell? ⟨b1, 0, none⟩ = some (.string sc)) (h2 : w.cell? ⟨b2, 0, none⟩ = some (.int .i64 z)) (l1 : b1 < w.heap.size) (l2 : b2 < w.heap.size) :
    Calls Try.prog 60 #[.agg #[.string s, .int .i64 p, .int .i64 c], .pointer (some ⟨b1, 0, none⟩), .pointer (some ⟨b2, 0, none⟩)] w fun e w' => e = .returned (.bool (isU sc z (s, p, c))) ∧ Below w.heap.size w w' := by
  have k1 : ¬ w.heap.size = b1 := by omega
  have k2 : ¬ w.heap.size = b2 := by omega
  have k3 : ¬ b1 = w.heap.size := by omega
  have k4 : ¬ b2 = w.heap.size := by omega
  unfold isU
  dsimp only
  go_enter Try.func60, Try.ntmps60
  cases hs : s.toList == sc.toList
  · go_wp2_with fail
    go_ret
    exact ⟨by simp, (Below.refl _ _).alloc (Nat.le_refl _) _⟩
  · go_wp2_with fail
    go_ret
    exact ⟨by simp, (Below.refl _ _).alloc (Nat.le_refl _) _⟩
/-- The index of the first count that is meant, or -1. -/
def idxU (f : Uz → Bool) : List Uz → Nat → Int
  | [], _ => -1
  | x :: r, k => if f x = true then (k : Int) else idxU f r (k + 1)
theorem drop_at {us : List Uz} {k : Nat} {x : Uz} (h : us[k]? = some x) : us.drop k = x :: us.drop (k + 1) := by
  obtain ⟨h1, h2⟩ := List.getElem?_eq_some_iff.1 h
  rw [List.drop_eq_getElem_cons h1, h2]
structure FdAt (w : World) (S : Nat → Prop) (A : Option Addr) (us : List Uz) (sc : ByteArray) (z : Int) (b1 b2 : Nat) (wr : World) : Prop where
  src : SlU wr S A us
  c1 : wr.cell? ⟨b1, 0, none⟩ = some (.string sc)
  c2 : wr.cell? ⟨b2, 0, none⟩ = some (.int .i64 z)
  bel : Below w.heap.size w wr
theorem FdAt.next {w wr w' : World} {S : Nat → Prop} {A : Option Addr} {us : List Uz} {sc : ByteArray} {z : Int} {b1 b2 : Nat} (h : FdAt w S A us sc z b1 b2 wr) (hS : ∀ g, S g → g < w.heap.size) (l1 : b1 < w.heap.size) (l2 : b2 < w.heap.size) (hb : Below wr.heap.size wr w') : FdAt w S A us sc z b1 b2 w' :=
  ⟨RowC.keep h.src (fun p hp => hb.cell (Nat.lt_of_lt_of_le (hS _ hp) h.bel.size)), (hb.cell (p := ⟨b1, 0, none⟩) (Nat.lt_of_lt_of_le l1 h.bel.size)).trans h.c1, (hb.cell (p := ⟨b2, 0, none⟩) (Nat.lt_of_lt_of_le l2 h.bel.size)).trans h.c2, below2 h.bel hb⟩
theorem index_U (us : List Uz) (A : Option Addr) (n c : Nat) (S : Nat → Prop) (sc : ByteArray) (z : Int) (b1 b2 : Nat) (w : World) (hn : us.length = n) (hm : n ≤ 100000) (h : SlU w S A us) (hS : ∀ g, S g → g < w.heap.size) (h1 : w.cell? ⟨b1, 0, none⟩ = some (.string sc)) (h2 : w.cell? ⟨b2, 0, none⟩ = some (.int .i64 z)) (l1 : b1 < w.heap.size) (l2 : b2 < w.heap.size) :
    Calls Try.prog 59 #[.slice A n c, .func (.func 60) #[] #[.pointer (some ⟨b1, 0, none⟩), .pointer (some ⟨b2, 0, none⟩)]] w fun e w' => e = .returned (.int .i64 (idxU (isU sc z) us 0)) ∧ Below w.heap.size w w' := by
  have HL := Lib.hid (And.intro hS (And.intro l1 (And.intro l2 hn)))
  have HF := Lib.hid (show FdAt w S A us sc z b1 b2 w from ⟨h, h1, h2, Below.refl _ _⟩)
  obtain ⟨R, hR⟩ : ∃ R, idxU (isU sc z) us 0 = R := ⟨_, rfl⟩
  have HR := Lib.hid hR
  rw [hR]
  clear h hS h1 h2 l1 l2 hn hR
  go_enter Try.func59, Try.ntmps59
  go_wp2_with fail
  go_loopw [8] (fun v wr => ∃ k : Nat, k ≤ n ∧ v = .int .i64 k ∧ idxU (isU sc z) (us.drop k) k = R ∧ FdAt w S A us sc z b1 b2 wr) (fun v _ => n - (intOf v).toNat)
  case atStart => exact ⟨0, by omega, rfl, HR.out, HF.out⟩
  case round =>
    obtain ⟨k, hk, rfl, hx, hf⟩ := hrel
    have HX := Lib.hid hx
    have HFD := Lib.hid hf
    clear hx hf
    by_cases hlt : k < n
    · obtain ⟨⟨s, p, q⟩, hu⟩ : ∃ u, us[k]? = some u := ⟨us[k]'(by rw [HL.out.2.2.2]; exact hlt), List.getElem?_eq_getElem _⟩
      obtain ⟨g, off, rfl, hsg, y0, y1, y2⟩ := HFD.out.src.at_ hu
      have HD := Lib.hid (drop_at hu)
      have HC := Lib.hid (find_1 s p q sc z b1 b2 wr HFD.out.c1 HFD.out.c2 (Nat.lt_of_lt_of_le HL.out.2.1 HFD.out.bel.size) (Nat.lt_of_lt_of_le HL.out.2.2.1 HFD.out.bel.size))
      obtain ⟨b, hb⟩ : ∃ b, isU sc z (s, p, q) = b := ⟨_, rfl⟩
      rw [hb] at HC
      have HB := Lib.hid hb
      have HLT := Lib.hid hlt
      have hil : (k : Int) < (n : Int) := by omega
      clear hu hsg hb hlt
      cases b
      · have hnx : idxU (isU sc z) (us.drop (k + 1)) (k + 1) = R := by
          have := HX.out
          rw [HD.out] at this
          simp only [idxU, HB.out] at this
          simpa using this
        have HNX := Lib.hid hnx
        clear hnx
        go_wp2_with (go_at_call 60; (with_reducible refine HC.out.mono ?_); rintro e w5 ⟨rfl, hb5⟩; have H5 := Lib.hid (HFD.out.next HL.out.1 HL.out.2.1 HL.out.2.2.1 hb5); clear hb5)
        go_roundw
        case rel => exact ⟨k + 1, HLT.out, by go_num, HNX.out, H5.out⟩
        case measure => have := HLT.out; simp only [intOf]; omega
      · have hkr : (k : Int) = R := by
          have := HX.out
          rw [HD.out] at this
          simp only [idxU, HB.out] at this
          simpa using this
        have HKR := Lib.hid hkr
        clear hkr
        go_wp2_with (go_at_call 60; (with_reducible refine HC.out.mono ?_); rintro e w5 ⟨rfl, hb5⟩; have H5 := Lib.hid (HFD.out.next HL.out.1 HL.out.2.1 HL.out.2.2.1 hb5); clear hb5)
        go_ret
        exact ⟨by rw [← HKR.out]; rfl, H5.out.bel⟩
    · obtain rfl : k = n := by omega
      have hr1 : R = -1 := by
        have := HX.out
        rw [List.drop_eq_nil_of_le (by rw [HL.out.2.2.2]; exact Nat.le_refl _)] at this
        exact this.symm
      have HR1 := Lib.hid hr1
      clear hr1
      go_wp2_with fail
      go_ret
      exact ⟨by rw [HR1.out]; rfl, HFD.out.bel⟩
theorem wal_find (us : List Uz) (A : Option Addr) (n c : Nat) (S : Nat → Prop) (sec : ByteArray) (Aa Ah : Option Addr) (na ca nh ch : Nat) (sc : ByteArray) (z : Int) (w : World) (hn : us.length = n) (hm : n ≤ 100000) (h : SlU w S A us) (hS : ∀ g, S g → g < w.heap.size) :
    Calls Try.prog 37 #[.agg #[.string sec, .slice Aa na ca, .slice Ah nh ch, .slice A n c], .string sc, .int .i64 z] w fun e w' => e = .returned (.int .i64 (idxU (isU sc z) us 0)) ∧ Below w.heap.size w w' := by
  obtain ⟨W, hW⟩ : ∃ W, ((w.alloc (.cells #[.string sec, .slice Aa na ca, .slice Ah nh ch, .slice A n c] 28)).alloc (.cells #[.string sc] 9)).alloc (.cells #[.int .i64 z] 3) = W := ⟨_, rfl⟩
  have hbw : Below w.heap.size w W := by rw [← hW]; exact (((Below.refl w.heap.size w).alloc (Nat.le_refl _) _).alloc (by simp) _).alloc (by simp; omega) _
  have hsz : W.heap.size = w.heap.size + 3 := by rw [← hW]; simp
  have h1 : W.cell? ⟨w.heap.size + 1, 0, none⟩ = some (.string sc) := by rw [← hW]; simp [go_sem]
  have h2 : W.cell? ⟨w.heap.size + 1 + 1, 0, none⟩ = some (.int .i64 z) := by rw [← hW]; simp [go_sem]
  have HI := Lib.hid (index_U us A n c S sc z (w.heap.size + 1) (w.heap.size + 1 + 1) W hn hm (RowC.keep h (fun p hp => hbw.cell (hS _ hp))) (fun g hg => Nat.lt_of_lt_of_le (hS g hg) hbw.size) h1 h2 (by omega) (by omega))
  have HB := Lib.hid hbw
  rw [← hW] at HI HB
  clear hbw hsz h1 h2 hW h hS hn hm
  go_enter Try.func37, Try.ntmps37
  go_wp2_with (go_at_call 59; (with_reducible refine HI.out.mono ?_); rintro e w5 ⟨rfl, hb5⟩)
  go_ret
  exact ⟨rfl, below2 HB.out hb5⟩
/-- The count of the first that is meant, or 0. -/
def cntU (f : Uz → Bool) (us : List Uz) : Int := match us.find? f with | some x => x.2.2 | none => 0
theorem idxU_none {f : Uz → Bool} {us : List Uz} (h : us.find? f = none) (k : Nat) : idxU f us k = -1 := by
  induction us generalizing k with
  | nil => rfl
  | cons x r ih =>
    rw [List.find?_cons] at h
    unfold idxU
    cases hx : f x
    · rw [hx] at h; simpa using ih h (k + 1)
    · rw [hx] at h; cases h
theorem idxU_some {f : Uz → Bool} {us : List Uz} {x : Uz} (h : us.find? f = some x) (k : Nat) : ∃ i : Nat, idxU f us k = ((k + i : Nat) : Int) ∧ us[i]? = some x := by
  induction us generalizing k with
  | nil => cases h
  | cons y r ih =>
    rw [List.find?_cons] at h
    unfold idxU
    cases hy : f y
    · rw [hy] at h
      obtain ⟨i, h1, h2⟩ := ih h (k + 1)
      exact ⟨i + 1, by simp only [Bool.false_eq_true, if_false]; rw [h1]; congr 1; omega, by simpa using h2⟩
    · rw [hy] at h
      injection h with h
      subst h
      exact ⟨0, by simp, rfl⟩
theorem wal_count (us : List Uz) (A : Option Addr) (n c : Nat) (S : Nat → Prop) (sec : ByteArray) (Aa Ah : Option Addr) (na ca nh ch : Nat) (sc : ByteArray) (z : Int) (w : World) (hn : us.length = n) (hm : n ≤ 100000) (h : SlU w S A us) (hS : ∀ g, S g → g < w.heap.size) :
    Calls Try.prog 14 #[.agg #[.string sec, .slice Aa na ca, .slice Ah nh ch, .slice A n c], .string sc, .int .i64 z] w fun e w' => e = .returned (.int .i64 (cntU (isU sc z) us)) ∧ Below w.heap.size w w' := by
  have HF := Lib.hid (fun W (hb : Below w.heap.size w W) => wal_find us A n c S sec Aa Ah na ca nh ch sc z W hn hm (RowC.keep h (fun p hp => hb.cell (hS _ hp))) (fun g hg => Nat.lt_of_lt_of_le (hS g hg) hb.size))
  have HBX := Lib.hid (And.intro (heap_alloc_new w (.cells #[.string sec, .slice Aa na ca, .slice Ah nh ch, .slice A n c] 28)) ((Below.refl w.heap.size w).alloc (Nat.le_refl _) (.cells #[.string sec, .slice Aa na ca, .slice Ah nh ch, .slice A n c] 28)))
  have hz : w.heap.size < (w.alloc (.cells #[.string sec, .slice Aa na ca, .slice Ah nh ch, .slice A n c] 28)).heap.size := by simp
  have HZ := Lib.hid hz
  clear hz
  cases hf : us.find? (isU sc z) with
  | none =>
    have hc : cntU (isU sc z) us = 0 := by unfold cntU; rw [hf]
    rw [idxU_none hf 0] at HF
    rw [hc]
    clear hc hf h hS hn hm
    go_enter Try.func14, Try.ntmps14
    go_wp2_with (go_at_call 37; (with_reducible refine (HF.out _ HBX.out.2).mono ?_); rintro e w5 ⟨rfl, hb5⟩; have HB5 := Lib.hid (below2 HBX.out.2 hb5); clear hb5)
    go_ret
    exact ⟨rfl, HB5.out⟩
  | some x =>
    obtain ⟨i, hi1, hi2⟩ := idxU_some hf 0
    rw [Nat.zero_add] at hi1
    obtain ⟨s, p, q⟩ := x
    have hc : cntU (isU sc z) us = q := by unfold cntU; rw [hf]
    have hin : i < n := by rw [← hn]; exact (List.getElem?_eq_some_iff.1 hi2).1
    obtain ⟨g, off, rfl, hsg, y0, y1, y2⟩ := SlU.at_ h hi2
    have hgw := hS g hsg
    have HY := Lib.hid (And.intro y2 hgw)
    have k1 : (i : Int) < (n : Int) := by omega
    rw [hi1] at HF
    rw [hc]
    clear hc hf h hS hn hm hi1 hi2 y0 y1 y2 hsg hgw
    go_enter Try.func14, Try.ntmps14
    go_wp2_with (go_at_call 37; (with_reducible refine (HF.out _ HBX.out.2).mono ?_); rintro e w5 ⟨rfl, hb5⟩; have HB5 := Lib.hid (below2 HBX.out.2 hb5); have x3 := cell_of_row w5 _ 3 _ _ _ ((hb5.block _ HZ.out).trans HBX.out.1); have y2 := (HB5.out.cell (p := ⟨g, off + i * 3 + 2, none⟩) HY.out.2).trans HY.out.1; clear hb5)
    go_ret
    exact ⟨rfl, HB5.out⟩
theorem canonical_1 (s : ByteArray) (w : World) : Calls Try.prog 57 #[.string s] w fun e w' => e = .returned (.bool (!valid s)) ∧ w = w' := by
  go_enter Try.func57, Try.ntmps57
  go_wp2_with (go_at_call 58; refine (natural_Valid _ _).mono ?_; rintro e w' ⟨rfl, rfl⟩)
  go_ret
  exact ⟨rfl, rfl⟩
theorem ls_all_not {ls : List ByteArray} {p : ByteArray → Bool} {k : Nat} (hk : k < ls.length) (h : p (ls.getD k ByteArray.empty) = false) : ls.all p = false := by
  rw [List.all_eq_false]; exact ⟨ls[k], List.getElem_mem hk, by rw [sgetD_lt hk] at h; simp [h]⟩
theorem ls_all_of {ls : List ByteArray} {p : ByteArray → Bool} (h : ∀ j, j < ls.length → p (ls.getD j ByteArray.empty) = true) : ls.all p = true := by
  rw [List.all_eq_true]
  intro x hx
  obtain ⟨j, hj, rfl⟩ := List.getElem_of_mem hx
  have := h j hj
  rw [sgetD_lt hj] at this
  exact this
theorem index_valid (ls : List ByteArray) (A : Option Addr) (n c b : Nat) (w : World) (hn : ls.length = n) (hm : n ≤ 100000) (h : SLs w b A ls) :
    Calls Try.prog 81 #[.slice A n c, .func (.func 57) #[] #[]] w fun e w' => (∃ z : Int, e = .returned (.int .i64 z) ∧ decide (0 ≤ z) = !(ls.all valid)) ∧ w = w' := by
  have HN := Lib.hid hn
  have HS := Lib.hid h
  clear hn h
  go_enter Try.func81, Try.ntmps81
  go_wp2
  go_loop [8] (fun v => ∃ k : Nat, k ≤ n ∧ v = .int .i64 k ∧ ∀ j, j < k → valid (ls.getD j ByteArray.empty) = true) (fun v => n - (intOf v).toNat)
  case atStart => exact ⟨0, by omega, rfl, fun j h => absurd h (by omega)⟩
  case round =>
    obtain ⟨k, hk, rfl, hall⟩ := hrel
    have HA := Lib.hid hall
    clear hall
    by_cases hlt : k < n
    · obtain ⟨ad, rfl, hc⟩ := HS.out.at_ (k := k) (by rw [HN.out]; exact hlt)
      obtain ⟨s, hs⟩ : ∃ s, ls.getD k ByteArray.empty = s := ⟨_, rfl⟩
      rw [hs] at hc
      have HSS := Lib.hid hs
      clear hs
      cases hv : valid s
      · have HF : Hid (ls.all valid = false) := Lib.hid (ls_all_not (k := k) (by rw [HN.out]; exact hlt) (by rw [HSS.out]; exact hv))
        have hck := canonical_1 s
        rw [hv] at hck
        have HCK := Lib.hid hck
        clear hck hv
        go_wp2_with (go_at_call 57; refine (HCK.out _).mono ?_; rintro e w' ⟨rfl, rfl⟩)
        go_ret
        refine ⟨⟨(k : Int), rfl, ?_⟩, rfl⟩
        rw [HF.out]
        simp
      · have HV := Lib.hid hv
        clear hv
        have hck := canonical_1 s
        rw [HV.out] at hck
        have HCK := Lib.hid hck
        clear hck
        go_wp2_with (go_at_call 57; refine (HCK.out _).mono ?_; rintro e w' ⟨rfl, rfl⟩)
        go_round
        case rel => exact ⟨k + 1, by omega, by go_num, fun j hj => by
          by_cases e : j = k
          · subst e; rw [HSS.out]; exact HV.out
          · exact HA.out j (by omega)⟩
        case measure => simp [intOf]; omega
    · obtain rfl : k = n := by omega
      have HF : Hid (ls.all valid = true) := Lib.hid (ls_all_of (fun j hj => HA.out j (by rw [HN.out] at hj; exact hj)))
      go_wp2
      go_ret
      refine ⟨⟨-1, rfl, ?_⟩, rfl⟩
      rw [HF.out]
      rfl
theorem contains_valid (ls : List ByteArray) (A : Option Addr) (n c b : Nat) (w : World) (hn : ls.length = n) (hm : n ≤ 100000) (h : SLs w b A ls) :
    Calls Try.prog 56 #[.slice A n c, .func (.func 57) #[] #[]] w fun e w' => e = .returned (.bool (!(ls.all valid))) ∧ w = w' := by
  have H := Lib.hid (index_valid ls A n c b w hn hm h)
  clear h
  go_enter Try.func56, Try.ntmps56
  go_wp2_with (go_at_call 81; refine H.out.mono ?_; rintro e w' ⟨⟨z, rfl, hz⟩, rfl⟩; have HZ := Lib.hid hz; clear hz)
  go_ret
  exact ⟨ret_bool HZ.out, rfl⟩
theorem wal_canonical (ls : List ByteArray) (A : Option Addr) (n c b : Nat) (w : World) (hn : ls.length = n) (hm : n ≤ 100000) (h : SLs w b A ls) :
    Calls Try.prog 35 #[.slice A n c] w fun e w' => e = .returned (.bool (ls.all valid)) ∧ w = w' := by
  have HC := Lib.hid (contains_valid ls A n c b w hn hm h)
  clear h hn hm
  go_enter Try.func35, Try.ntmps35
  go_wp2_with (go_at_call 56; (with_reducible refine HC.out.mono ?_); rintro e w5 ⟨rfl, rfl⟩)
  go_ret
  exact ⟨by simp, rfl⟩
theorem cellsU_one (us : List Uz) : ∀ u ∈ cellsU us, u.oneCell' = true := by
  induction us with
  | nil => intro u hu; cases hu
  | cons x r ih =>
    obtain ⟨s, p, c⟩ := x
    intro u hu
    simp only [cellsU, List.mem_cons] at hu
    rcases hu with rfl | rfl | rfl | hu
    · rfl
    · rfl
    · rfl
    · exact ih u hu
/-- A kind of keys: as values, and as what they read as. -/
structure KeyT (K : TypeId) (α : Type) where
  key : α → Value
  lit : α → Lit
  same : α → α → Bool
  good : α → Prop
  law : Maps.Keyed Try.prog K
  ok : ∀ x, good x → keyOf Try.prog K (key x) = some (lit x)
  eqv : ∀ x y, good x → good y → (same x y = true ↔ lit y = lit x)
/-- A set of keys: block b is a map that holds true at just these. -/
def SetK {K : TypeId} {α : Type} (T : KeyT K α) (w : World) (b n : Nat) (ls : List α) : Prop :=
  ∃ D : DataW Unit, w.ownsMap Try.prog K (plainElem Try.prog 4) b n D ∧ Maps.IsMap D ∧
    ∀ s, T.good s → D.atKey (T.lit s) (.lit (.bool false)) = .lit (.bool (ls.any fun x => T.same x s))
section
variable {K : TypeId} {α : Type} {T : KeyT K α}
theorem SetK.made (w : World) : SetK T (w.alloc (.map #[] 0)) w.heap.size 0 [] :=
  ⟨.map [], World.ownsMap_made _ _ _ _, Maps.isMap_empty, fun s _ => rfl⟩
theorem SetK.kept {w w' : World} {b n B : Nat} {ls : List α} (h : SetK T w b n ls) (hb : Below B w w') (hB : b < B) : SetK T w' b n ls := by
  obtain ⟨D, ⟨es, clock, h1, h2⟩, hm, ha⟩ := h
  exact ⟨D, ⟨es, clock, (hb.block b hB).trans h1, h2⟩, hm, ha⟩
theorem SetK.lt {w : World} {b n : Nat} {ls : List α} (h : SetK T w b n ls) : b < w.heap.size := by
  obtain ⟨D, ho, _, _⟩ := h
  exact ho.lt
/-- 'm[k]' at elements that are bools. -/
theorem SetK.look {w : World} {b n : Nat} {ls : List α} (hown : SetK T w b n ls) {t : TypeId} (ht : Try.prog.underlying t = some (.map K 4)) (s : α) (hs : T.good s) :
    (Instr.lookup t (.map (some b)) (T.key s) false).run Try.prog w = .ok (.bool (ls.any fun y => T.same y s)) w := by
  obtain ⟨D, ho, _, ha⟩ := hown
  have hz : (zeroValue 4).run Try.prog w = .ok (.bool false) w := by kernel_rfl
  obtain ⟨v, ps, hrun, hv⟩ := ho.lookup T.law ht hz (plainElem_bool Try.underlying4 false) (T.ok s hs)
  rw [ha s hs] at hv
  have hv2 : v = .bool (ls.any fun y => T.same y s) := by
    unfold plainElem at hv
    rw [Try.underlying4] at hv
    cases v <;> simp at hv
    rw [hv.1]
  subst hv2
  exact hrun
theorem wpList_look_K {ops : Array Oper} {rest : List Oper} {o : Oper} {a : Act} {Q : Exit → Act → World → Prop} (w : World)
    (hg : o.guard = none) (m x : Operand) (t : TypeId) (hop : o.op = Op.lookup t m x false) (ht : Try.prog.underlying t = some (.map K 4))
    (b n : Nat) (ls : List α) (hm : a.eval m = .map (some b)) (hown : SetK T w b n ls) (s : α) (hx : a.eval x = T.key s) (hs : T.good s)
    (hK : wpList Try.prog ops Q rest (a.put o.dst (.bool (ls.any fun y => T.same y s))) w) :
    wpList Try.prog ops Q (o :: rest) a w := by
  refine wpList_plain hg fun K' hK' => ?_
  have hrun := hown.look ht s hs
  unfold Oper.wp
  simp [execOp, hop, hm, hx, hrun, Result.andThen]
  exact hK' _ _ hK
/-- 'm[k] = true'. -/
theorem wpList_put_K {ops : Array Oper} {rest : List Oper} {o : Oper} {a : Act} {Q : Exit → Act → World → Prop} (w : World)
    (hg : o.guard = none) (m x v : Operand) (t : TypeId) (hop : o.op = Op.mapUpdate t m x v) (ht : Try.prog.underlying t = some (.map K 4))
    (b n : Nat) (ls : List α) (hm : a.eval m = .map (some b)) (hown : SetK T w b n ls) (hn : n ≤ 10000) (s : α) (hx : a.eval x = T.key s) (hv : a.eval v = .bool true) (hs : T.good s)
    (hK : ∀ w', SetK T w' b (n + 1) (s :: ls) → Below b w w' → w.heap.size ≤ w'.heap.size → wpList Try.prog ops Q rest (a.put o.dst undef) w') :
    wpList Try.prog ops Q (o :: rest) a w := by
  obtain ⟨D, ho, hm', ha⟩ := hown
  have hlt := ho.lt
  refine wpList_mapUpdate_own w hg m x v t hop K 4 T.law ht _ b n D hm ho (by unfold maxLen; omega) _ _ _ hx hv (T.ok s hs) _ [] (plainElem_bool Try.underlying4 true) ?_
  intro w' ho' hgr
  refine hK w' ⟨_, ho', hm'.put _ _, fun s' hs' => ?_⟩ ?_ hgr.size
  · rw [List.any_cons]
    cases e : T.same s s'
    · rw [Maps.atKey_put_other (by intro h; rw [(T.eqv s s' hs hs').2 h] at e; cases e), ha s' hs', Bool.false_or]
    · rw [(T.eqv s s' hs hs').1 e, Maps.atKey_put_same hm' (T.law.key (T.ok s hs)), Bool.true_or]
  · exact (Below.refl b w).grown hgr (Nat.le_of_lt hlt) (fun g hg => by injection hg with hg; omega)
end
theorem tl_beq_iff (a b : ByteArray) : (a.toList == b.toList) = decide (a.data.toList = b.data.toList) := by
  rw [Bool.eq_iff_iff, beq_iff_eq, decide_eq_true_eq, ByteArray.toList_eq, ByteArray.toList_eq]
theorem tl_inj {a b : ByteArray} (h : a.toList = b.toList) : a = b := by
  rw [ByteArray.toList_eq, ByteArray.toList_eq] at h
  cases a with
  | mk a => cases b with
    | mk b => simp only at h; rw [Array.toList_inj.1 h]
def keyS : KeyT 9 ByteArray where
  key s := .string s
  lit s := .string s.data.toList
  same a b := a.toList == b.toList
  good s := s.size ≤ 100000
  law := Maps.string_keyed Try.underlying9
  ok s hs := Go.WideMaps.keyOf_string_mk Try.underlying9 (by unfold maxLen; omega)
  eqv a b _ _ := by
    rw [tl_beq_iff, decide_eq_true_eq]
    constructor
    · intro h; rw [h]
    · intro h; injection h with h; exact h.symm
theorem laidOut : laidOutB Try.prog = true := by kernel_rfl
theorem per_row : (89 : TypeId) < Try.prog.types.size := of_decide_eq_true (by kernel_rfl)
theorem per_wide : (match Try.prog.underlying 89 with | some (.array _ _) | some (.struct _) => true | _ => false) = true := by kernel_rfl
theorem law_per : Go.WideMaps.KeyLaw Try.prog 89 := deep_law_laid laidOut (m := 2) (by omega) per_row (by kernel_rfl) per_wide
/-- A pair as a value. -/
def perV (x : ByteArray × Int) : Value := .agg #[.string x.1, .int .i64 x.2]
theorem types_succ : ∃ d, Try.prog.types.size = d + 1 := Nat.exists_eq_succ_of_ne_zero (fun h => by have := per_row; rw [h] at this; exact absurd this (Nat.not_lt_zero _))
theorem per_key : Try.prog.keyType 89 = true := by kernel_rfl
theorem cells_s : Try.prog.cellsOf 9 = 1 := by kernel_rfl
theorem cells_i : Try.prog.cellsOf 3 = 1 := by kernel_rfl
theorem cells_p : Try.prog.cellsOf 89 = 2 := by kernel_rfl
theorem lits_s (d : Nat) (s : ByteArray) (h : s.size ≤ maxLen) : Try.prog.keyLits (d + 1) 9 [.string s] = some [.string s.data.toList] := by
  unfold Program.keyLits
  simp [Try.underlying9, h]
theorem lits_i (d : Nat) (z : Int) (h : (Lit.int .i64 z).wf = true) : Try.prog.keyLits (d + 1) 3 [.int .i64 z] = some [.int .i64 z] := by
  unfold Program.keyLits
  simp [Try.underlying3, h]
theorem lits_p (d : Nat) (x : ByteArray × Int) (h1 : x.1.size ≤ maxLen) (h2 : (Lit.int .i64 x.2).wf = true) : Try.prog.keyLits (d + 1 + 1) 89 [.string x.1, .int .i64 x.2] = some [.string x.1.data.toList, .int .i64 x.2] := by
  unfold Program.keyLits
  simp [Try.underlying89, cells_p, cells_s, cells_i, lits_s d x.1 h1, lits_i d x.2 h2]
theorem per_lit (x : ByteArray × Int) (h1 : x.1.size ≤ 100000) (h2 : (Lit.int .i64 x.2).wf = true) : ∃ l, keyOf Try.prog 89 (perV x) = some l := by
  obtain ⟨d, hd⟩ := types_succ
  have hm : x.1.size ≤ maxLen := by unfold maxLen; omega
  have hl := lits_p d x hm h2
  have hf : (perV x).formed Try.prog 89 = true := by
    unfold perV
    simp [Value.formed, Try.underlying89, cells_p]
  have hc : (perV x).cells.toList = [.string x.1, .int .i64 x.2] := by
    unfold perV
    simp [Value.cells]
  refine ⟨.string (keyBytes [.string x.1.data.toList, .int .i64 x.2]), ?_⟩
  unfold keyOf
  rw [Try.underlying89]
  dsimp only
  rw [per_key, hf, hc, hd, hl]
  rfl
noncomputable def keyP : KeyT 89 (ByteArray × Int) where
  key := perV
  lit x := (keyOf Try.prog 89 (perV x)).getD (.bool false)
  same a b := a.1.toList == b.1.toList && a.2 == b.2
  good x := x.1.size ≤ 100000 ∧ (Lit.int .i64 x.2).wf = true
  law := Maps.Keyed.of_law law_per
  ok x hx := by
    obtain ⟨l, hl⟩ := per_lit x hx.1 hx.2
    rw [hl]
    rfl
  eqv a b ha hb := by
    obtain ⟨la, hla⟩ := per_lit a ha.1 ha.2
    obtain ⟨lb, hlb⟩ := per_lit b hb.1 hb.2
    obtain ⟨a1, a2⟩ := a
    obtain ⟨b1, b2⟩ := b
    rw [hla, hlb]
    simp only [Option.getD_some, Bool.and_eq_true, beq_iff_eq]
    constructor
    · rintro ⟨e1, e2⟩
      have e1 := tl_inj e1
      subst e1
      subst e2
      rw [hla] at hlb
      injection hlb with e
      exact e.symm
    · intro e
      subst e
      have := law_per.inj hla hlb
      unfold perV at this
      injection this with e3
      have e4 := congrArg Array.toList e3
      simp at e4
      exact ⟨by rw [e4.1], e4.2⟩
end Go.Proofs.Ytlheedcnmfekoaa
