/- Wallet: the entries renewed and held are short. Wallet: Use at its limit. Wallet: what the comparisons mean. Wallet: what a change of a wallet hands back, as a record, for the program and the reference alike. -/
import Derived.Test.YtjhlddlocpkhkaaGreatWhJ25
import Derived.Test.YtjhlddlocpkhkaaGreatWhYt
import Derived.Test.YtjhlddlocpkhkaaGreatWhXk
import Derived.Test.YtjhlddlocpkhkaaGreatWhVaj
namespace Go.Proofs.YtjhlddlocpkhkaaGreat
open Go.RowKit
set_option maxRecDepth 100000
set_option linter.unusedVariables false
set_option maxHeartbeats 8000000
/-- The bytes of a list of numbers. -/
def sumN : List ByteArray → Nat
  | [] => 0
  | x :: r => x.size + sumN r
/-- The bytes of a held credential. -/
def sizeH (x : Hz) : Nat := x.iss.size + x.sch.size + sumN x.att + x.a.size + x.e.size + x.v.size + x.wit.size
theorem wal_Use_lim (sec : ByteArray) (qs : List Az) (hs : List Hz) (us : List Uz) (Aa Ah Au : Option Addr) (na ca nh ch nu cu : Nat) (sc : ByteArray) (z lim : Int) (S : Nat → Prop) (w : World) (hq : qs.length = na) (hn : hs.length = nh) (hu : us.length = nu) (ho : WalOk qs hs us) (hval : validW sec qs hs us = true) (hlt : lim ≤ cntU (isU sc z) us) (h : WalM w S qs hs us Aa Ah Au) (hS : ∀ g, S g → g < w.heap.size) :
    Calls Tryz.prog 16 #[.agg #[.string sec, .slice Aa na ca, .slice Ah nh ch, .slice Au nu cu], .string sc, .int .i64 z, .int .i64 lim] w fun e w' => e = .returned (.tuple #[.agg #[.string ⟨#[]⟩, .slice none 0 0, .slice none 0 0, .slice none 0 0], .int .i64 0, .string ⟨#[]⟩, .int .i64 24]) ∧ Below w.heap.size w w' := by
  have HV := Lib.hid (fun W (hb : Below w.heap.size w W) => wal_valid sec qs hs us Aa Ah Au na ca nh ch nu cu S W hq hn hu (by have := ho.na; omega) (by have := ho.nh; omega) (by have := ho.nu; omega) ho.nonce ho.att ho.scope (h.keep (fun q hq => hb.cell (hS _ hq))) (fun g hg => Nat.lt_of_lt_of_le (hS g hg) hb.size))
  rw [hval] at HV
  have HCN := Lib.hid (fun W (hb : Below w.heap.size w W) => wal_count us Au nu cu S sec Aa Ah na ca nh ch sc z W hu (by have := ho.nu; omega) (h.keep (fun q hq => hb.cell (hS _ hq))).u (fun g hg => Nat.lt_of_lt_of_le (hS g hg) hb.size))
  obtain ⟨n, hcnt⟩ : ∃ n, cntU (isU sc z) us = n := ⟨_, rfl⟩
  rw [hcnt] at HCN hlt
  have kl : decide (lim ≤ n) = true := decide_eq_true hlt
  have HCP := Lib.hid (CpB.start (w := w) (sec := sec) (Aa := Aa) (na := na) (ca := ca) (Ah := Ah) (nh := nh) (ch := ch) (Au := Au) (nu := nu) (cu := cu))
  clear h hS hq hn hu ho hval hcnt
  go_enter Tryz.func16, Tryz.ntmps16
  go_wp2_with (first
    | (go_at_call 17; (with_reducible refine (HV.out _ HCP.out.bel).mono ?_); rintro e w1 ⟨rfl, hb1⟩; have HC1 := Lib.hid (HCP.out.next hb1); obtain ⟨⟨x0, x1, x2, x3⟩, y0, y1, y2, y3⟩ := HC1.out.bc; clear hb1)
    | (go_at_call 51; (with_reducible refine (HCN.out _ HC1.out.bel).mono ?_); rintro e w2 ⟨rfl, hb2⟩; have HC2 := Lib.hid (HC1.out.next hb2); obtain ⟨⟨r0, r1, r2, r3⟩, g0, g1, g2, g3⟩ := HC2.out.rc; clear hb2))
  refine bodyPost_ret (v := .tuple #[.agg #[.string ⟨#[]⟩, .slice none 0 0, .slice none 0 0, .slice none 0 0], .int .i64 0, .string ⟨#[]⟩, .int .i64 24]) (by simp [results, Tryz.results16, go_sem, r0, r1, r2, r3]) rfl ?_
  have hl : w.heap.size ≤ w.heap.size + 1 := Nat.le_succ _
  exact ⟨rfl, (((HC2.out.bel.setCell (p := ⟨w.heap.size + 1, 0, none⟩) hl _).setCell (p := ⟨w.heap.size + 1, 1, none⟩) hl _).setCell (p := ⟨w.heap.size + 1, 2, none⟩) hl _).setCell (p := ⟨w.heap.size + 1, 3, none⟩) hl _⟩
end Go.Proofs.YtjhlddlocpkhkaaGreat

namespace Go.Proofs.YtjhlddlocpkhkaaGreat
open Go.RowKit
set_option maxRecDepth 100000
set_option linter.unusedVariables false
theorem str_eq (a b : ByteArray) : (a.toList == b.toList) = true ↔ a = b := by
  constructor
  · intro h
    rw [ByteArray.toList_eq, ByteArray.toList_eq] at h
    obtain ⟨⟨x⟩⟩ := a
    obtain ⟨⟨y⟩⟩ := b
    simp at h
    rw [h]
  · rintro rfl
    simp
end Go.Proofs.YtjhlddlocpkhkaaGreat

namespace Go.Proofs.YtjhlddlocpkhkaaGreat
open Go.RowKit
set_option maxRecDepth 100000
set_option linter.unusedVariables false
set_option maxHeartbeats 4000000
/-- The result of a change: error, wallet, entry, count. -/
structure Rs where
  z : Int
  sec : ByteArray
  qs : List Az
  hs : List Hz
  us : List Uz
  s : ByteArray
  k : Int
def Rs.err (z : Int) : Rs := ⟨z, ⟨#[]⟩, [], [], [], ⟨#[]⟩, 0⟩
section
variable {S : Nat → Prop} {w w' : World} {o : Ending}
end
/-- In a valid wallet no two requests have the same nonce. -/
theorem validA_seen : ∀ (qs : List Az) (seen : List ByteArray) (nc : ByteArray), validA seen qs = true → (seen.any fun y => y.toList == nc.toList) = true → qs.any (isA nc) = false
  | [], _, _, _, _ => rfl
  | x :: r, seen, nc, h, hs => by
    unfold validA at h
    split at h
    · cases h
    · rename_i hx
      split at h
      · have h1 := validA_seen r _ nc h (by rw [List.any_cons, hs, Bool.or_true])
        rw [List.any_cons, h1, Bool.or_false]
        cases hi : isA nc x with
        | false => rfl
        | true =>
          exfalso
          apply hx
          unfold isA at hi
          rw [str_eq] at hi
          rw [hi]
          exact hs
      · cases h
theorem erase_filter : ∀ (qs : List Az) (seen : List ByteArray) (nc : ByteArray) (k j : Nat), validA seen qs = true → idxA (isA nc) qs k = ((k + j : Nat) : Int) → qs.eraseIdx j = qs.filter (fun y => !isA nc y)
  | [], _, _, k, j, _, h => by simp [idxA] at h; omega
  | x :: r, seen, nc, k, j, h, hi => by
    unfold validA at h
    split at h
    · cases h
    · split at h
      · unfold idxA at hi
        cases hx : isA nc x with
        | true =>
          rw [hx, if_pos rfl] at hi
          obtain rfl : j = 0 := by omega
          have h1 := validA_seen r _ nc h (by rw [List.any_cons]; unfold isA at hx; rw [hx, Bool.true_or])
          rw [List.eraseIdx_cons_zero, List.filter_cons, hx]
          simp only [Bool.not_true, Bool.false_eq_true, if_false]
          rw [List.filter_eq_self.2]
          intro y hy
          have := List.any_eq_false.1 h1 y hy
          simpa using this
        | false =>
          rw [hx] at hi
          simp only [Bool.false_eq_true, if_false] at hi
          obtain ⟨i, rfl⟩ : ∃ i, j = i + 1 := by
            cases j with
            | zero =>
              exfalso
              have : ∀ (l : List Az) (m : Nat), idxA (isA nc) l m = -1 ∨ (m : Int) ≤ idxA (isA nc) l m := by
                intro l
                induction l with
                | nil => intro m; exact .inl rfl
                | cons y t ih =>
                  intro m
                  unfold idxA
                  split
                  · exact .inr (Int.le_refl _)
                  · rcases ih (m + 1) with h | h
                    · exact .inl h
                    · right; omega
              rcases this r (k + 1) with h2 | h2 <;> omega
            | succ i => exact ⟨i, rfl⟩
          rw [List.eraseIdx_cons_succ, List.filter_cons, hx, erase_filter r _ nc (k + 1) i h (by rw [hi]; omega)]
          rfl
      · cases h
section
variable (sec : ByteArray) (qs : List Az) (hs : List Hz) (us : List Uz) (Aa Ah Au : Option Addr) (na ca nh ch nu cu : Nat) (S : Nat → Prop) (w : World) (ho : WalOk qs hs us) (hq : qs.length = na) (hn : hs.length = nh) (hu : us.length = nu) (h : WalM w S qs hs us Aa Ah Au) (hS : ∀ g, S g → g < w.heap.size)
include ho hq hn hu h hS
end
end Go.Proofs.YtjhlddlocpkhkaaGreat
