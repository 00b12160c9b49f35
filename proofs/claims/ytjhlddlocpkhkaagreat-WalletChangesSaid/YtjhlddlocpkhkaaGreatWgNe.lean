/- The reference: Int, integer, usedItems, askedItems; printed by genNe.py. -/
import Derived.Test.YtjhlddlocpkhkaaGreatWgJ05
import Derived.Test.YtjhlddlocpkhkaaGreatWgJ13
namespace Go.Proofs.YtjhlddlocpkhkaaGreat
open Go.RowKit
set_option maxRecDepth 100000
set_option linter.unusedVariables false
set_option maxHeartbeats 8000000
theorem list_twoR (W : World) (x y : ByteArray) :
    Calls Tryz.prog 118 #[.slice (some ⟨W.heap.size, 0, none⟩) 2 2] (W.alloc (.cells #[.int .i64 0, .string x, .string ⟨#[]⟩, .slice none 0 0, .int .i64 0, .string y, .string ⟨#[]⟩, .slice none 0 0] 63)) fun e w' =>
      ∃ A c, e = .returned (.agg #[.int .i64 2, .string ⟨#[]⟩, .string ⟨#[]⟩, .slice A 2 c]) ∧ SlI w' (fun g => W.heap.size ≤ g ∧ g < w'.heap.size) A (.cons 0 x ⟨#[]⟩ .nil (.cons 0 y ⟨#[]⟩ .nil .nil)) ∧ Below W.heap.size W w' := by
  have hsl : SlI (W.alloc (.cells #[.int .i64 0, .string x, .string ⟨#[]⟩, .slice none 0 0, .int .i64 0, .string y, .string ⟨#[]⟩, .slice none 0 0] 63)) (fun g => g = W.heap.size) (some ⟨W.heap.size, 0, none⟩) (.cons 0 x ⟨#[]⟩ .nil (.cons 0 y ⟨#[]⟩ .nil .nil)) := by
    refine ⟨[.int .i64 0, .string x, .string ⟨#[]⟩, .slice none 0 0, .int .i64 0, .string y, .string ⟨#[]⟩, .slice none 0 0], ?_, ?_⟩
    · intro _
      refine ⟨_, 0, rfl, rfl, ?_⟩
      intro j u hj
      rw [Nat.zero_add]
      have h1 := heap_alloc_new W (.cells #[.int .i64 0, .string x, .string ⟨#[]⟩, .slice none 0 0, .int .i64 0, .string y, .string ⟨#[]⟩, .slice none 0 0] 63)
      exact cell_of_row _ _ j _ _ _ h1 |>.trans (by simpa using hj)
    · exact ⟨none, 0, [], _, rfl, fun h => absurd h (by simp [Its.len]), rfl, none, 0, [], _, rfl, fun h => absurd h (by simp [Its.len]), rfl, rfl⟩
  refine (r08_List (.cons 0 x ⟨#[]⟩ .nil (.cons 0 y ⟨#[]⟩ .nil .nil)) (some ⟨W.heap.size, 0, none⟩) 2 (fun g => g = W.heap.size) _ (by simp [Its.len]) hsl (by intro g hg; simp [hg])).mono ?_
  rintro e w' ⟨A, c, he, h1, h2⟩
  have hw : Below W.heap.size W w' := ((Below.refl _ _).alloc (Nat.le_refl _) _).trans (h2.mono (by simp))
  exact ⟨A, c, he, h1.mono (fun g hg => by
    rcases hg with hg | hg
    · exact ⟨by omega, by have := h2.size; simp at this; omega⟩
    · exact ⟨by have := hg.1; simp at this; omega, hg.2⟩), hw⟩
theorem r08_Int (s : Bool) (a : ByteArray) (w : World) : Calls Tryz.prog 119 #[.agg #[.bool s, .string a]] w (ItOut (2, ⟨#[]⟩, ⟨#[]⟩, .cons 0 (if s then B 1 else ⟨#[]⟩) ⟨#[]⟩ .nil (.cons 0 a ⟨#[]⟩ .nil .nil)) w) := by
  have HIN := Lib.hid (InAt.start (w := w) (s := s) (a := a))
  have hone : B 1 = ⟨#[1]⟩ := by decide
  rw [hone]
  clear hone
  have HEN := Lib.hid r08_Nat
  have HLT := Lib.hid list_twoR
  cases s
  · go_enter Tryz.func119, Tryz.ntmps119
    go_wp2_with fail
    have H0 := HIN
    have x1 := cell_of_row _ _ 1 _ _ _ H0.out.arg
    clear HIN
    go_region_with (first
      | (go_at_call 117; (with_reducible refine (HEN.out ⟨#[]⟩ _).mono ?_); rintro e w2 ⟨rfl, hb2⟩; have H2 := Lib.hid (show InAt w _ a w2 from by { first | exact H0.out.next hb2 | exact H0.out.drew.next hb2 }); have x2 := cell_of_row _ _ 1 _ _ _ H2.out.arg; clear hb2)
      | (go_at_call 117; (with_reducible refine (HEN.out a _).mono ?_); rintro e w3 ⟨rfl, hb3⟩; have H3 := Lib.hid (show InAt w _ a w3 from by { first | exact H2.out.next hb3 | exact H2.out.drew.next hb3 }); clear hb3)
      | (go_at_call 118; (with_reducible refine (HLT.out w3 ⟨#[]⟩ a).mono ?_); rintro e w5 ⟨A5, c5, rfl, hsl5, hb5⟩; have h5 := H3.out.next hb5; have hres := h5.res; have g0 := frozen_of_row w5 _ 0 _ _ hres; have g1 := frozen_of_row w5 _ 1 _ _ hres; have g2 := frozen_of_row w5 _ 2 _ _ hres; have g3 := frozen_of_row w5 _ 3 _ _ hres; have r0 := cell_of_row w5 _ 0 _ _ _ hres; have r1 := cell_of_row w5 _ 1 _ _ _ hres; have r2 := cell_of_row w5 _ 2 _ _ _ hres; have r3 := cell_of_row w5 _ 3 _ _ _ hres; have HEND := Lib.hid (H3.out.close (c := c5) hb5 hsl5 rfl); clear h5 hres hsl5 hb5))
    all_goals
      go_wp2_with fail
      refine bodyPost_ret (v := .agg #[.int .i64 2, .string ⟨#[]⟩, .string ⟨#[]⟩, .slice A5 2 c5]) (by simp [results, Tryz.results119, go_sem, r0, r1, r2, r3]) rfl ?_
      exact HEND.out
  · go_enter Tryz.func119, Tryz.ntmps119
    go_wp2_with fail
    have H0 := HIN
    have x1 := cell_of_row _ _ 1 _ _ _ H0.out.arg
    clear HIN
    go_region_with (first
      | (go_at_call 117; (with_reducible refine (HEN.out ⟨#[1]⟩ _).mono ?_); rintro e w2 ⟨rfl, hb2⟩; have H2 := Lib.hid (show InAt w _ a w2 from by { first | exact H0.out.next hb2 | exact H0.out.drew.next hb2 }); have x2 := cell_of_row _ _ 1 _ _ _ H2.out.arg; clear hb2)
      | (go_at_call 117; (with_reducible refine (HEN.out a _).mono ?_); rintro e w3 ⟨rfl, hb3⟩; have H3 := Lib.hid (show InAt w _ a w3 from by { first | exact H2.out.next hb3 | exact H2.out.drew.next hb3 }); clear hb3)
      | (go_at_call 118; (with_reducible refine (HLT.out w3 ⟨#[1]⟩ a).mono ?_); rintro e w5 ⟨A5, c5, rfl, hsl5, hb5⟩; have h5 := H3.out.next hb5; have hres := h5.res; have g0 := frozen_of_row w5 _ 0 _ _ hres; have g1 := frozen_of_row w5 _ 1 _ _ hres; have g2 := frozen_of_row w5 _ 2 _ _ hres; have g3 := frozen_of_row w5 _ 3 _ _ hres; have r0 := cell_of_row w5 _ 0 _ _ _ hres; have r1 := cell_of_row w5 _ 1 _ _ _ hres; have r2 := cell_of_row w5 _ 2 _ _ _ hres; have r3 := cell_of_row w5 _ 3 _ _ _ hres; have HEND := Lib.hid (H3.out.close (c := c5) hb5 hsl5 rfl); clear h5 hres hsl5 hb5))
    all_goals
      go_wp2_with fail
      refine bodyPost_ret (v := .agg #[.int .i64 2, .string ⟨#[]⟩, .string ⟨#[]⟩, .slice A5 2 c5]) (by simp [results, Tryz.results119, go_sem, r0, r1, r2, r3]) rfl ?_
      exact HEND.out
theorem r56_integer (z : Int) (w : World) (hlo : -9223372036854775808 ≤ z) (hhi : z ≤ 9223372036854775807) :
    Calls Tryz.prog 85 #[.int .i64 z] w (ItOut (2, ⟨#[]⟩, ⟨#[]⟩, .cons 0 (if decide (z < 0) then B 1 else ⟨#[]⟩) ⟨#[]⟩ .nil (.cons 0 (B z.natAbs) ⟨#[]⟩ .nil .nil)) w) := by
  have HO := Lib.hid (fun W => r02_OfZ z W hlo hhi)
  have HI := Lib.hid r08_Int
  have hlt0 : w.heap.size < (w.alloc (.cells #[.int .i64 0, .string ⟨#[]⟩, .string ⟨#[]⟩, .slice none 0 0] 63)).heap.size := by simp
  have HR := Lib.hid (And.intro (heap_alloc_new w (.cells #[.int .i64 0, .string ⟨#[]⟩, .string ⟨#[]⟩, .slice none 0 0] 63)) (And.intro hlt0 ((Below.refl w.heap.size w).alloc (Nat.le_refl _) (.cells #[.int .i64 0, .string ⟨#[]⟩, .string ⟨#[]⟩, .slice none 0 0] 63))))
  clear hlt0 hlo hhi
  obtain ⟨b, hb⟩ : ∃ b, decide (z < 0) = b := ⟨_, rfl⟩
  obtain ⟨m, hm⟩ : ∃ m, z.natAbs = m := ⟨_, rfl⟩
  rw [hb, hm] at HO
  rw [hb, hm]
  clear hb hm
  obtain ⟨l, hl⟩ : ∃ l, l = Its.cons 0 (if b then B 1 else ⟨#[]⟩) ⟨#[]⟩ .nil (.cons 0 (B m) ⟨#[]⟩ .nil .nil) := ⟨_, rfl⟩
  have hll : l.len = 2 := by rw [hl]; rfl
  have HII := Lib.hid (fun W => HI.out b (B m) W)
  rw [← hl] at HII ⊢
  have HLL := Lib.hid hll
  clear hl HI hll
  go_enter Tryz.func85, Tryz.ntmps85
  go_wp2_with (first
    | (go_at_call 120; (with_reducible refine (HO.out _).mono ?_); rintro e w1 ⟨rfl, hb1⟩)
    | (go_at_call 119; (with_reducible refine (HII.out _).mono ?_); rintro e w5 ⟨A5, c5, rfl, hsl5, hb5⟩; have hz1 := Nat.lt_of_lt_of_le HR.out.2.1 hb1.size; have hz5 := Nat.lt_of_lt_of_le hz1 hb5.size; have hres := (hb5.block _ hz1).trans ((hb1.block _ HR.out.2.1).trans HR.out.1); have g0 := frozen_of_row w5 _ 0 _ _ hres; have g1 := frozen_of_row w5 _ 1 _ _ hres; have g2 := frozen_of_row w5 _ 2 _ _ hres; have g3 := frozen_of_row w5 _ 3 _ _ hres; have r0 := cell_of_row w5 _ 0 _ _ _ hres; have r1 := cell_of_row w5 _ 1 _ _ _ hres; have r2 := cell_of_row w5 _ 2 _ _ _ hres; have r3 := cell_of_row w5 _ 3 _ _ _ hres; have HEND := Lib.hid (ItOut.store4 (c := c5) hsl5 (below2 (below2 HR.out.2.2 hb1) hb5) (Nat.le_refl _) hz1); rw [HLL.out] at HEND; dsimp only at HEND; rw [HLL.out]; clear hres hsl5 hz1 hz5 hb5))
  refine bodyPost_ret (v := .agg #[.int .i64 2, .string ⟨#[]⟩, .string ⟨#[]⟩, .slice A5 2 c5]) (by simp [results, Tryz.results85, go_sem, r0, r1, r2, r3]) rfl ?_
  exact HEND.out
theorem r56_integer2 (z : Int) (w : World) (hz : -9223372036854775808 ≤ z ∧ z ≤ 9223372036854775807) :
    Calls Tryz.prog 85 #[.int .i64 z] w fun e w' => ∃ A c, e = .returned (.agg #[.int .i64 2, .string ⟨#[]⟩, .string ⟨#[]⟩, .slice A 2 c]) ∧ SlI w' (fun g => w.heap.size ≤ g ∧ g < w'.heap.size) A (intIt z) ∧ Below w.heap.size w w' := r56_integer z w hz.1 hz.2
theorem r56_usedItems (sc : ByteArray) (p q : Int) (w : World) (hp : -9223372036854775808 ≤ p ∧ p ≤ 9223372036854775807) (hq : -9223372036854775808 ≤ q ∧ q ≤ 9223372036854775807) :
    Calls Tryz.prog 86 #[.agg #[.string sc, .int .i64 p, .int .i64 q]] w fun e w' => ∃ A, e = .returned (.slice A 3 3) ∧ SlI w' (fun g => w.heap.size ≤ g ∧ g < w'.heap.size) A (.cons 1 ⟨#[]⟩ sc .nil (.cons 2 ⟨#[]⟩ ⟨#[]⟩ (intIt p) (.cons 2 ⟨#[]⟩ ⟨#[]⟩ (intIt q) .nil))) ∧ Below w.heap.size w w' := by
  have HIN := Lib.hid (UsAt.start (w := w) (sc := sc) (p := p) (q := q))
  have HT := Lib.hid (fun W => r08_Text sc W)
  have HP := Lib.hid (fun W => r56_integer2 p W hp)
  have HQ := Lib.hid (fun W => r56_integer2 q W hq)
  clear hp hq
  go_enter Tryz.func86, Tryz.ntmps86
  go_wp2_with fail
  have x0 := cell_of_row _ _ 0 _ _ _ HIN.out.arg
  have x1 := cell_of_row _ _ 1 _ _ _ HIN.out.arg
  have x2 := cell_of_row _ _ 2 _ _ _ HIN.out.arg
  go_region_with (first
    | (go_at_call 83; (with_reducible refine (HT.out _).mono ?_); rintro e w1 ⟨rfl, hb1⟩; have H1 := Lib.hid (show UsAt w sc p q w1 from by { first | exact HIN.out.next hb1 | exact HIN.out.drew.next hb1 }); have y1 := cell_of_row _ _ 1 _ _ _ H1.out.arg; have y2 := cell_of_row _ _ 2 _ _ _ H1.out.arg; clear hb1)
    | (go_at_call 85; (with_reducible refine (HP.out _).mono ?_); rintro e w2 ⟨A2, c2, rfl, hsl2, hb2⟩; have H2 := Lib.hid (show UsAt w sc p q w2 from by { first | exact H1.out.next hb2 | exact H1.out.drew.next hb2 }); have z2 := cell_of_row _ _ 2 _ _ _ H2.out.arg; have HS2 := Lib.hid (show SlI w2 (fun g => w.heap.size ≤ g ∧ g < w2.heap.size) A2 (intIt p) from hsl2.mono (fun g hg => ⟨Nat.le_trans H1.out.bel.size hg.1, hg.2⟩)); clear hsl2 hb2)
    | (go_at_call 85; (with_reducible refine (HQ.out _).mono ?_); rintro e w3 ⟨A3, c3, rfl, hsl3, hb3⟩; have H3 := Lib.hid (show UsAt w sc p q w3 from by { first | exact H2.out.next hb3 | exact H2.out.drew.next hb3 }); have HS3 := Lib.hid (show SlI w3 (fun g => w.heap.size ≤ g ∧ g < w3.heap.size) A3 (intIt q) from hsl3.mono (fun g hg => ⟨Nat.le_trans H2.out.bel.size hg.1, hg.2⟩)); have HS4 := Lib.hid (show SlI w3 (fun g => w.heap.size ≤ g ∧ g < w3.heap.size) A2 (intIt p) from (HS2.out.below hb3 (fun g hg => hg.2)).mono (fun g hg => ⟨hg.1, Nat.lt_of_lt_of_le hg.2 hb3.size⟩)); clear hsl3 hb3))
  all_goals
    go_wp2_with fail
    go_ret
    refine ⟨some ⟨w3.heap.size, 0, none⟩, rfl, (items3 HS4.out HS3.out (fun g hg => hg.2) rfl rfl).mono ?_, H3.out.bel.alloc H3.out.bel.size _⟩
    rintro g (hg | rfl)
    · exact ⟨hg.1, Nat.lt_of_lt_of_le hg.2 (by simp)⟩
    · exact ⟨H3.out.bel.size, by simp⟩
theorem r56_askedItems (i s n x b : ByteArray) (w : World) :
    Calls Tryz.prog 82 #[.agg #[.string i, .string s, .string n, .string x, .string b]] w fun e w' => ∃ A, e = .returned (.slice A 5 5) ∧ SlI w' (fun g => w.heap.size ≤ g ∧ g < w'.heap.size) A (askedL i s n x b) ∧ Below w.heap.size w w' := by
  have HIN := Lib.hid (Bx1.start (w := w) (cs := #[.string i, .string s, .string n, .string x, .string b]) (T := 40))
  have HT := Lib.hid (fun x W => r08_Text x W)
  have HN := Lib.hid (fun x W => r08_Nat x W)
  have HC : Hid (∀ W, Bx1 w #[.string i, .string s, .string n, .string x, .string b] 40 W → W.cell? ⟨w.heap.size, 0, none⟩ = some (.string i) ∧ W.cell? ⟨w.heap.size, 1, none⟩ = some (.string s) ∧ W.cell? ⟨w.heap.size, 2, none⟩ = some (.string n) ∧ W.cell? ⟨w.heap.size, 3, none⟩ = some (.string x) ∧ W.cell? ⟨w.heap.size, 4, none⟩ = some (.string b)) := Lib.hid (fun W h => ⟨cell_of_row W _ 0 _ _ _ h.arg, cell_of_row W _ 1 _ _ _ h.arg, cell_of_row W _ 2 _ _ _ h.arg, cell_of_row W _ 3 _ _ _ h.arg, cell_of_row W _ 4 _ _ _ h.arg⟩)
  go_enter Tryz.func82, Tryz.ntmps82
  go_wp2_with fail
  have H0 := HIN
  obtain ⟨k0, k1, k2, k3, k4⟩ := HC.out _ HIN.out
  go_region_held3 (fun w' => w'.cell? ⟨w.heap.size, 0, none⟩ = some (.string i) ∧ w'.cell? ⟨w.heap.size, 1, none⟩ = some (.string s) ∧ w'.cell? ⟨w.heap.size, 2, none⟩ = some (.string n) ∧ w'.cell? ⟨w.heap.size, 3, none⟩ = some (.string x) ∧ w'.cell? ⟨w.heap.size, 4, none⟩ = some (.string b)) (first | exact HC.out _ H0.out | exact HC.out _ H0.out.drew | exact HC.out _ (H0.out.alloc _) | exact HC.out _ (H0.out.drew.alloc _) | go_keep) (first
    | (go_at_call 83; (with_reducible refine (HT.out _ _).mono ?_); rintro e w1 ⟨rfl, hb1⟩; have n1 : Bx1 w #[.string i, .string s, .string n, .string x, .string b] 40 w1 := (by first | exact H0.out.next hb1 | exact H0.out.drew.next hb1); replace H0 := Lib.hid n1; have q0 := (HC.out _ n1).1; have q1 := (HC.out _ n1).2.1; have q2 := (HC.out _ n1).2.2.1; have q3 := (HC.out _ n1).2.2.2.1; have q4 := (HC.out _ n1).2.2.2.2; clear n1 hb1)
    | (go_at_call 117; (with_reducible refine (HN.out _ _).mono ?_); rintro e w1 ⟨rfl, hb1⟩; have n1 : Bx1 w #[.string i, .string s, .string n, .string x, .string b] 40 w1 := (by first | exact H0.out.next hb1 | exact H0.out.drew.next hb1); replace H0 := Lib.hid n1; have q0 := (HC.out _ n1).1; have q1 := (HC.out _ n1).2.1; have q2 := (HC.out _ n1).2.2.1; have q3 := (HC.out _ n1).2.2.2.1; have q4 := (HC.out _ n1).2.2.2.2; clear n1 hb1))
  all_goals
    have hs1 := sl_flat (W := w1) (l := askedL i s n x b) rfl
    have HS1 : Hid (SlI (w1.alloc (.cells #[.int .i64 1, .string ⟨#[]⟩, .string i, .slice none 0 0, .int .i64 1, .string ⟨#[]⟩, .string s, .slice none 0 0, .int .i64 1, .string ⟨#[]⟩, .string n, .slice none 0 0, .int .i64 0, .string x, .string ⟨#[]⟩, .slice none 0 0, .int .i64 0, .string b, .string ⟨#[]⟩, .slice none 0 0] 63)) (fun g => g = w1.heap.size) (some ⟨w1.heap.size, 0, none⟩) (askedL i s n x b)) := Lib.hid hs1
    clear hs1
    go_wp2_with fail
    go_ret
    exact ⟨some ⟨w1.heap.size, 0, none⟩, rfl, HS1.out.mono (fun g hg => ⟨by rw [hg]; exact H0.out.bel.size, by rw [hg]; simp⟩), H0.out.bel.alloc H0.out.bel.size _⟩
end Go.Proofs.YtjhlddlocpkhkaaGreat
