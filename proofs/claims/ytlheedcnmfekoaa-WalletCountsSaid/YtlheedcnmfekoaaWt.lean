/- wallet.find. -/
import Derived.Test.YtlheedcnmfekoaaWc
namespace Go.Proofs.Ytlheedcnmfekoaa
open Go.RowKit
set_option maxRecDepth 100000
set_option linter.unusedVariables false
set_option maxHeartbeats 4000000

/-- A count: scope, period, count. -/
abbrev Uz := ByteArray × Int × Int
def cellsU : List Uz → List Value
  | [] => []
  | (s, p, c) :: r => .string s :: .int .i64 p :: .int .i64 c :: cellsU r
theorem cellsU_get {us : List Uz} {i : Nat} {s : ByteArray} {p c : Int} (h : us[i]? = some (s, p, c)) : (cellsU us)[i * 3]? = some (.string s) ∧ (cellsU us)[i * 3 + 1]? = some (.int .i64 p) ∧ (cellsU us)[i * 3 + 2]? = some (.int .i64 c) := by
  induction us generalizing i with
  | nil => simp at h
  | cons x r ih =>
    obtain ⟨s', p', c'⟩ := x
    cases i with
    | zero =>
      simp only [List.getElem?_cons_zero, Option.some.injEq, Prod.mk.injEq] at h
      obtain ⟨rfl, rfl, rfl⟩ := h
      exact ⟨rfl, rfl, rfl⟩
    | succ i =>
      simp only [List.getElem?_cons_succ] at h
      obtain ⟨a, b, d⟩ := ih h
      have e1 : (i + 1) * 3 = i * 3 + 1 + 1 + 1 := by omega
      rw [e1]
      simp only [cellsU, List.getElem?_cons_succ]
      exact ⟨a, b, d⟩
theorem cellsU_len (us : List Uz) : (cellsU us).length = us.length * 3 := by
  induction us with
  | nil => rfl
  | cons x r ih => obtain ⟨s, p, c⟩ := x; simp only [cellsU, List.length_cons, ih]; omega
/-- A slice of counts. -/
def SlU (w : World) (S : Nat → Prop) (A : Option Addr) (us : List Uz) : Prop := RowC w S A us.length (cellsU us)
theorem SlU.at_ {w : World} {S : Nat → Prop} {A : Option Addr} {us : List Uz} (h : SlU w S A us) {i : Nat} {s : ByteArray} {p c : Int} (hi : us[i]? = some (s, p, c)) :
    ∃ g off, A = some ⟨g, off, none⟩ ∧ S g ∧ w.cell? ⟨g, off + i * 3, none⟩ = some (.string s) ∧ w.cell? ⟨g, off + i * 3 + 1, none⟩ = some (.int .i64 p) ∧ w.cell? ⟨g, off + i * 3 + 2, none⟩ = some (.int .i64 c) := by
  obtain ⟨g, off, e, hg, hc⟩ := h (Nat.lt_of_le_of_lt (Nat.zero_le _) (List.getElem?_eq_some_iff.1 hi).1)
  obtain ⟨a, b, d⟩ := cellsU_get hi
  exact ⟨g, off, e, hg, hc _ _ a, hc _ _ b, hc _ _ d⟩
def isU (sc : ByteArray) (z : Int) (u : Uz) : Bool := u.1.toList == sc.toList && u.2.1 == z
theorem find_1 (s : ByteArray) (p c : Int) (sc : ByteArray) (z : Int) (b1 b2 : Nat) (w : World) (h1 : w.cell? ⟨b1, 0, none⟩ = some (.string sc)) (h2 : w.cell? ⟨b2, 0, none⟩ = some (.int .i64 z)) (l1 : b1 < w.heap.size) (l2 : b2 < w.heap.size) :
    Calls Try.prog 60 #[.agg #[.string s, .int .i64 p, .int .i64 c], .pointer (some ⟨b1, 0, none⟩), .pointer (some ⟨b2, 0, none⟩)] w fun e w' => e = .returned (.bool (isU sc z (s, p, c))) ∧ Below w.heap.size w w' := by
  have k1 : ¬ w.heap.size = b1 := by omega
  have k2 : ¬ w.heap.size = b2 := by omega
  have k3 : ¬ b1 = w.heap.size := by omega
  have k4 : ¬ b2 = w.heap.size := by omega
  unfold isU
  dsimp only
  go_enter Try.func60, Try.ntmps60
  cases hs : s.toList == sc.toList
  · go_wp2_with fail
    go_ret
    exact ⟨by simp, (Below.refl _ _).alloc (Nat.le_refl _) _⟩
  · go_wp2_with fail
    go_ret
    exact ⟨by simp, (Below.refl _ _).alloc (Nat.le_refl _) _⟩

/-- The index of the first count that is meant, or -1. -/
def idxU (f : Uz → Bool) : List Uz → Nat → Int
  | [], _ => -1
  | x :: r, k => if f x = true then (k : Int) else idxU f r (k + 1)
theorem drop_at {us : List Uz} {k : Nat} {x : Uz} (h : us[k]? = some x) : us.drop k = x :: us.drop (k + 1) := by
  obtain ⟨h1, h2⟩ := List.getElem?_eq_some_iff.1 h
  rw [List.drop_eq_getElem_cons h1, h2]
structure FdAt (w : World) (S : Nat → Prop) (A : Option Addr) (us : List Uz) (sc : ByteArray) (z : Int) (b1 b2 : Nat) (wr : World) : Prop where
  src : SlU wr S A us
  c1 : wr.cell? ⟨b1, 0, none⟩ = some (.string sc)
  c2 : wr.cell? ⟨b2, 0, none⟩ = some (.int .i64 z)
  bel : Below w.heap.size w wr
theorem FdAt.next {w wr w' : World} {S : Nat → Prop} {A : Option Addr} {us : List Uz} {sc : ByteArray} {z : Int} {b1 b2 : Nat} (h : FdAt w S A us sc z b1 b2 wr) (hS : ∀ g, S g → g < w.heap.size) (l1 : b1 < w.heap.size) (l2 : b2 < w.heap.size) (hb : Below wr.heap.size wr w') : FdAt w S A us sc z b1 b2 w' :=
  ⟨RowC.keep h.src (fun p hp => hb.cell (Nat.lt_of_lt_of_le (hS _ hp) h.bel.size)), (hb.cell (p := ⟨b1, 0, none⟩) (Nat.lt_of_lt_of_le l1 h.bel.size)).trans h.c1, (hb.cell (p := ⟨b2, 0, none⟩) (Nat.lt_of_lt_of_le l2 h.bel.size)).trans h.c2, below2 h.bel hb⟩
theorem index_U (us : List Uz) (A : Option Addr) (n c : Nat) (S : Nat → Prop) (sc : ByteArray) (z : Int) (b1 b2 : Nat) (w : World) (hn : us.length = n) (hm : n ≤ 100000) (h : SlU w S A us) (hS : ∀ g, S g → g < w.heap.size) (h1 : w.cell? ⟨b1, 0, none⟩ = some (.string sc)) (h2 : w.cell? ⟨b2, 0, none⟩ = some (.int .i64 z)) (l1 : b1 < w.heap.size) (l2 : b2 < w.heap.size) :
    Calls Try.prog 59 #[.slice A n c, .func (.func 60) #[] #[.pointer (some ⟨b1, 0, none⟩), .pointer (some ⟨b2, 0, none⟩)]] w fun e w' => e = .returned (.int .i64 (idxU (isU sc z) us 0)) ∧ Below w.heap.size w w' := by
  have HL := Lib.hid (And.intro hS (And.intro l1 (And.intro l2 hn)))
  have HF := Lib.hid (show FdAt w S A us sc z b1 b2 w from ⟨h, h1, h2, Below.refl _ _⟩)
  obtain ⟨R, hR⟩ : ∃ R, idxU (isU sc z) us 0 = R := ⟨_, rfl⟩
  have HR := Lib.hid hR
  rw [hR]
  clear h hS h1 h2 l1 l2 hn hR
  go_enter Try.func59, Try.ntmps59
  go_wp2_with fail
  go_loopw [8] (fun v wr => ∃ k : Nat, k ≤ n ∧ v = .int .i64 k ∧ idxU (isU sc z) (us.drop k) k = R ∧ FdAt w S A us sc z b1 b2 wr) (fun v _ => n - (intOf v).toNat)
  case atStart => exact ⟨0, by omega, rfl, HR.out, HF.out⟩
  case round =>
    obtain ⟨k, hk, rfl, hx, hf⟩ := hrel
    have HX := Lib.hid hx
    have HFD := Lib.hid hf
    clear hx hf
    by_cases hlt : k < n
    · obtain ⟨⟨s, p, q⟩, hu⟩ : ∃ u, us[k]? = some u := ⟨us[k]'(by rw [HL.out.2.2.2]; exact hlt), List.getElem?_eq_getElem _⟩
      obtain ⟨g, off, rfl, hsg, y0, y1, y2⟩ := HFD.out.src.at_ hu
      have HD := Lib.hid (drop_at hu)
      have HC := Lib.hid (find_1 s p q sc z b1 b2 wr HFD.out.c1 HFD.out.c2 (Nat.lt_of_lt_of_le HL.out.2.1 HFD.out.bel.size) (Nat.lt_of_lt_of_le HL.out.2.2.1 HFD.out.bel.size))
      obtain ⟨b, hb⟩ : ∃ b, isU sc z (s, p, q) = b := ⟨_, rfl⟩
      rw [hb] at HC
      have HB := Lib.hid hb
      have HLT := Lib.hid hlt
      have hil : (k : Int) < (n : Int) := by omega
      clear hu hsg hb hlt
      cases b
      · have hnx : idxU (isU sc z) (us.drop (k + 1)) (k + 1) = R := by
          have := HX.out
          rw [HD.out] at this
          simp only [idxU, HB.out] at this
          simpa using this
        have HNX := Lib.hid hnx
        clear hnx
        go_wp2_with (go_at_call 60; (with_reducible refine HC.out.mono ?_); rintro e w5 ⟨rfl, hb5⟩; have H5 := Lib.hid (HFD.out.next HL.out.1 HL.out.2.1 HL.out.2.2.1 hb5); clear hb5)
        go_roundw
        case rel => exact ⟨k + 1, HLT.out, by go_num, HNX.out, H5.out⟩
        case measure => have := HLT.out; simp only [intOf]; omega
      · have hkr : (k : Int) = R := by
          have := HX.out
          rw [HD.out] at this
          simp only [idxU, HB.out] at this
          simpa using this
        have HKR := Lib.hid hkr
        clear hkr
        go_wp2_with (go_at_call 60; (with_reducible refine HC.out.mono ?_); rintro e w5 ⟨rfl, hb5⟩; have H5 := Lib.hid (HFD.out.next HL.out.1 HL.out.2.1 HL.out.2.2.1 hb5); clear hb5)
        go_ret
        exact ⟨by rw [← HKR.out]; rfl, H5.out.bel⟩
    · obtain rfl : k = n := by omega
      have hr1 : R = -1 := by
        have := HX.out
        rw [List.drop_eq_nil_of_le (by rw [HL.out.2.2.2]; exact Nat.le_refl _)] at this
        exact this.symm
      have HR1 := Lib.hid hr1
      clear hr1
      go_wp2_with fail
      go_ret
      exact ⟨by rw [HR1.out]; rfl, HFD.out.bel⟩

end Go.Proofs.Ytlheedcnmfekoaa
