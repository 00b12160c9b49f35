/- What the functions of shamir hand back, as functions of strings; plain facts on them. -/
import Derived.Test.YtapplggboepfaaaGreatDoorSA
import Derived.Test.YtapplggboepfaaaGreatDoorRB
import Derived.Test.YtapplggboepfaaaGreatDoorUU
import Derived.Test.YtapplggboepfaaaGreatDoorBY
namespace Go.Proofs.YtapplggboepfaaaGreatDoor
open Go.RowKit
set_option maxRecDepth 100000
set_option linter.unusedVariables false

/-- The error of a modulus. -/
def isE (q : ByteArray) : Int := if (isPS q).2 = 0 then (if (isPS q).1 = true then 0 else 12) else (isPS q).2
/-- The error of a modulus and of lists of numbers. -/
def shE (q : ByteArray) (L : List (List ByteArray)) : Int := if L.all (fun l => l.all valid) = true then isE q else 3
/-- All numbers are below the modulus. -/
def blwS (q : ByteArray) (l : List ByteArray) : Bool := l.all (fun x => decide (natCmp x q < 0))
def ptsE (q : ByteArray) (xs ys : List ByteArray) (at_ : ByteArray) : Int :=
  if shE q [xs, ys, [at_]] = 0 then (if xs.length ≠ ys.length ∨ 256 < xs.length then 6 else if (blwS q xs && (blwS q ys && blwS q [at_])) = true then (if twiceB xs = true then 8 else 0) else 2) else shE q [xs, ys, [at_]]
def evalS (q : ByteArray) (cs : List ByteArray) (x : ByteArray) : ByteArray × Int :=
  if shE q [cs, [x]] = 0 then (if (blwS q cs && blwS q [x]) = true then (B (valL (num q) (num x) (cs.map num)), 0) else (⟨#[]⟩, 2)) else (⟨#[]⟩, shE q [cs, [x]])
/-- What a good modulus is. -/
structure QOk (q : ByteArray) (Q : Nat) : Prop where
  eq : q = B Q
  two : 2 ≤ Q
  lt : Q < 18446744073709551616
  is : isS Q = true
theorem isE_zero {q : ByteArray} (h : isE q = 0) : QOk q (num q) := by
  unfold isE at h
  by_cases h2 : (isPS q).2 = 0
  · rw [if_pos h2] at h
    by_cases h1 : (isPS q).1 = true
    · unfold isPS at h1 h2
      have h2' : (smallS q).2 = 0 := h2
      have h1' : isS (smallS q).1 = true := by
        have : (decide ((smallS q).2 = 0) && isS (smallS q).1) = true := h1
        rw [Bool.and_eq_true] at this
        exact this.2
      unfold smallS at h1' h2'
      by_cases hv : valid q = true
      · rw [if_pos hv] at h1' h2'
        by_cases h8 : q.size ≤ 8
        · rw [if_pos h8] at h1'
          have hlt := natSmall_bound q h8
          have h2n : 2 ≤ num q := by
            rcases Nat.lt_or_ge (num q) 2 with h | h
            · have := isS_small h
              rw [h1'] at this
              cases this
            · exact h
          exact ⟨(B_num hv).symm, h2n, hlt, h1'⟩
        · rw [if_neg h8] at h2'
          cases h2'
      · rw [if_neg hv] at h2'
        cases h2'
    · rw [if_neg h1] at h
      cases h
  · rw [if_neg h2] at h
    exact absurd h h2
theorem shE_zero {q : ByteArray} {L : List (List ByteArray)} (h : shE q L = 0) : (∀ l ∈ L, l.all valid = true) ∧ isE q = 0 := by
  unfold shE at h
  by_cases hv : L.all (fun l => l.all valid) = true
  · rw [if_pos hv] at h
    exact ⟨fun l hl => List.all_eq_true.1 hv l hl, h⟩
  · rw [if_neg hv] at h
    cases h
theorem natCmp_lt {x q : ByteArray} (hx : valid x = true) (hq : valid q = true) : natCmp x q < 0 ↔ num x < num q := by
  have e : natCmp x q = cmpN (num x) (num q) := by unfold natCmp; rw [hx, hq]; rfl
  rw [e]
  exact cmpN_neg
/-- Valid numbers below the modulus, as numbers. -/
theorem blw_nums {q : ByteArray} {Q : Nat} (hQ : QOk q Q) {l : List ByteArray} (hv : l.all valid = true) (hb : blwS q l = true) : l = (l.map num).map B ∧ ∀ n ∈ l.map num, n < Q := by
  have hqv : valid q = true := by rw [hQ.eq]; exact valid_B (u64_lt_lim hQ.lt)
  have hqn : num q = Q := by rw [hQ.eq, num_B]
  constructor
  · rw [List.map_map]
    symm
    exact (List.map_congr_left (g := id) (fun x hx => B_num (List.all_eq_true.1 hv x hx))).trans (List.map_id l)
  · intro n hn
    obtain ⟨x, hx, rfl⟩ := List.mem_map.1 hn
    have h1 := List.all_eq_true.1 hb x hx
    rw [decide_eq_true_eq] at h1
    rw [← hqn]
    exact (natCmp_lt (List.all_eq_true.1 hv x hx) hqv).1 h1

end Go.Proofs.YtapplggboepfaaaGreatDoor
