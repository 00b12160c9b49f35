/- wallet.usedItems. -/
import Derived.Test.YtjhlddlocpkhkaaGreatWhWp
namespace Go.Proofs.YtjhlddlocpkhkaaGreat
open Go.RowKit
set_option maxRecDepth 100000
set_option linter.unusedVariables false
set_option maxHeartbeats 4000000
/-- The item of a number of int. -/
def intIt (z : Int) : Its := .cons 0 (if decide (z < 0) then B 1 else ⟨#[]⟩) ⟨#[]⟩ .nil (.cons 0 (B z.natAbs) ⟨#[]⟩ .nil .nil)
theorem intIt_len (z : Int) : (intIt z).len = 2 := rfl
theorem wal_whole2 (z : Int) (w : World) (hz : -9223372036854775808 ≤ z ∧ z ≤ 9223372036854775807) :
    Calls Tryz.prog 80 #[.int .i64 z] w fun e w' => ∃ A c, e = .returned (.agg #[.int .i64 2, .string ⟨#[]⟩, .string ⟨#[]⟩, .slice A 2 c]) ∧ SlI w' (fun g => w.heap.size ≤ g ∧ g < w'.heap.size) A (intIt z) ∧ Below w.heap.size w w' := wal_whole z w hz.1 hz.2
/-- Three items in a new row. -/
theorem items3 {W : World} {S : Nat → Prop} {k1 k2 k3 : Int} {n1 t1 n2 t2 n3 t3 : ByteArray} {A2 A3 : Option Addr} {l2 l3 : Its} {m2 m3 c2 c3 : Nat} (h2 : SlI W S A2 l2) (h3 : SlI W S A3 l3) (hS : ∀ g, S g → g < W.heap.size) (e2 : l2.len = m2) (e3 : l3.len = m3) :
    SlI (W.alloc (.cells #[.int .i64 k1, .string n1, .string t1, .slice none 0 0, .int .i64 k2, .string n2, .string t2, .slice A2 m2 c2, .int .i64 k3, .string n3, .string t3, .slice A3 m3 c3] 63)) (fun g => S g ∨ g = W.heap.size) (some ⟨W.heap.size, 0, none⟩) (.cons k1 n1 t1 .nil (.cons k2 n2 t2 l2 (.cons k3 n3 t3 l3 .nil))) := by
  subst e2 e3
  obtain ⟨L2, a2, b2⟩ := (h2.below ((Below.refl W.heap.size W).alloc (Nat.le_refl _) (.cells #[.int .i64 k1, .string n1, .string t1, .slice none 0 0, .int .i64 k2, .string n2, .string t2, .slice A2 l2.len c2, .int .i64 k3, .string n3, .string t3, .slice A3 l3.len c3] 63)) hS).mono (S' := fun g => S g ∨ g = W.heap.size) (fun g hg => .inl hg)
  obtain ⟨L3, a3, b3⟩ := (h3.below ((Below.refl W.heap.size W).alloc (Nat.le_refl _) (.cells #[.int .i64 k1, .string n1, .string t1, .slice none 0 0, .int .i64 k2, .string n2, .string t2, .slice A2 l2.len c2, .int .i64 k3, .string n3, .string t3, .slice A3 l3.len c3] 63)) hS).mono (S' := fun g => S g ∨ g = W.heap.size) (fun g hg => .inl hg)
  refine ⟨[.int .i64 k1, .string n1, .string t1, .slice none 0 0, .int .i64 k2, .string n2, .string t2, .slice A2 l2.len c2, .int .i64 k3, .string n3, .string t3, .slice A3 l3.len c3], ?_, ?_⟩
  · intro _
    refine ⟨_, 0, rfl, .inr rfl, ?_⟩
    intro j u hj
    rw [Nat.zero_add]
    have h1 := heap_alloc_new W (.cells #[.int .i64 k1, .string n1, .string t1, .slice none 0 0, .int .i64 k2, .string n2, .string t2, .slice A2 l2.len c2, .int .i64 k3, .string n3, .string t3, .slice A3 l3.len c3] 63)
    exact cell_of_row _ _ j _ _ _ h1 |>.trans (by simpa using hj)
  · exact ⟨none, 0, [], _, rfl, fun h => absurd h (by simp [Its.len]), rfl, A2, c2, L2, _, rfl, a2, b2, A3, c3, L3, _, rfl, a3, b3, rfl⟩
/-- What usedItems holds: its argument's box. -/
structure UsAt (w : World) (sc : ByteArray) (p q : Int) (wr : World) : Prop where
  arg : wr.heap[w.heap.size]? = some (.cells #[.string sc, .int .i64 p, .int .i64 q] 57 (0, 0))
  bel : Below w.heap.size w wr
  size : w.heap.size < wr.heap.size
section
variable {w wr w' : World} {sc : ByteArray} {p q : Int}
theorem UsAt.next (h : UsAt w sc p q wr) (hb : Below wr.heap.size wr w') : UsAt w sc p q w' := ⟨(hb.block _ h.size).trans h.arg, below2 h.bel hb, Nat.lt_of_lt_of_le h.size hb.size⟩
theorem UsAt.drew (h : UsAt w sc p q wr) : UsAt w sc p q wr.drew := h.next (Below.refl _ _).drew
theorem UsAt.start : UsAt w sc p q (w.alloc (.cells #[.string sc, .int .i64 p, .int .i64 q] 57)) := ⟨heap_alloc_new w _, (Below.refl _ _).alloc (Nat.le_refl _) _, by simp⟩
end
theorem wal_usedItems (sc : ByteArray) (p q : Int) (w : World) (hp : -9223372036854775808 ≤ p ∧ p ≤ 9223372036854775807) (hq : -9223372036854775808 ≤ q ∧ q ≤ 9223372036854775807) :
    Calls Tryz.prog 54 #[.agg #[.string sc, .int .i64 p, .int .i64 q]] w fun e w' => ∃ A, e = .returned (.slice A 3 3) ∧ SlI w' (fun g => w.heap.size ≤ g ∧ g < w'.heap.size) A (.cons 1 ⟨#[]⟩ sc .nil (.cons 2 ⟨#[]⟩ ⟨#[]⟩ (intIt p) (.cons 2 ⟨#[]⟩ ⟨#[]⟩ (intIt q) .nil))) ∧ Below w.heap.size w w' := by
  have HIN := Lib.hid (UsAt.start (w := w) (sc := sc) (p := p) (q := q))
  have HT := Lib.hid (fun W => enc_Text sc W)
  have HP := Lib.hid (fun W => wal_whole2 p W hp)
  have HQ := Lib.hid (fun W => wal_whole2 q W hq)
  clear hp hq
  go_enter Tryz.func54, Tryz.ntmps54
  go_wp2_with fail
  have x0 := cell_of_row _ _ 0 _ _ _ HIN.out.arg
  have x1 := cell_of_row _ _ 1 _ _ _ HIN.out.arg
  have x2 := cell_of_row _ _ 2 _ _ _ HIN.out.arg
  go_region_with (first
    | (go_at_call 78; (with_reducible refine (HT.out _).mono ?_); rintro e w1 ⟨rfl, hb1⟩; have H1 := Lib.hid (show UsAt w sc p q w1 from by { first | exact HIN.out.next hb1 | exact HIN.out.drew.next hb1 }); have y1 := cell_of_row _ _ 1 _ _ _ H1.out.arg; have y2 := cell_of_row _ _ 2 _ _ _ H1.out.arg; clear hb1)
    | (go_at_call 80; (with_reducible refine (HP.out _).mono ?_); rintro e w2 ⟨A2, c2, rfl, hsl2, hb2⟩; have H2 := Lib.hid (show UsAt w sc p q w2 from by { first | exact H1.out.next hb2 | exact H1.out.drew.next hb2 }); have z2 := cell_of_row _ _ 2 _ _ _ H2.out.arg; have HS2 := Lib.hid (show SlI w2 (fun g => w.heap.size ≤ g ∧ g < w2.heap.size) A2 (intIt p) from hsl2.mono (fun g hg => ⟨Nat.le_trans H1.out.bel.size hg.1, hg.2⟩)); clear hsl2 hb2)
    | (go_at_call 80; (with_reducible refine (HQ.out _).mono ?_); rintro e w3 ⟨A3, c3, rfl, hsl3, hb3⟩; have H3 := Lib.hid (show UsAt w sc p q w3 from by { first | exact H2.out.next hb3 | exact H2.out.drew.next hb3 }); have HS3 := Lib.hid (show SlI w3 (fun g => w.heap.size ≤ g ∧ g < w3.heap.size) A3 (intIt q) from hsl3.mono (fun g hg => ⟨Nat.le_trans H2.out.bel.size hg.1, hg.2⟩)); have HS4 := Lib.hid (show SlI w3 (fun g => w.heap.size ≤ g ∧ g < w3.heap.size) A2 (intIt p) from (HS2.out.below hb3 (fun g hg => hg.2)).mono (fun g hg => ⟨hg.1, Nat.lt_of_lt_of_le hg.2 hb3.size⟩)); clear hsl3 hb3))
  all_goals
    go_wp2_with fail
    go_ret
    refine ⟨some ⟨w3.heap.size, 0, none⟩, rfl, (items3 HS4.out HS3.out (fun g hg => hg.2) rfl rfl).mono ?_, H3.out.bel.alloc H3.out.bel.size _⟩
    rintro g (hg | rfl)
    · exact ⟨hg.1, Nat.lt_of_lt_of_le hg.2 (by simp)⟩
    · exact ⟨H3.out.bel.size, by simp⟩
end Go.Proofs.YtjhlddlocpkhkaaGreat
