/- Encoding: Int. -/
import Derived.Test.YtjhlddlocpkhkaaGreatWhJ08
namespace Go.Proofs.YtjhlddlocpkhkaaGreat
open Go.RowKit
set_option maxRecDepth 100000
set_option linter.unusedVariables false
set_option maxHeartbeats 4000000
/-- What Int holds: its argument's box and its result's. -/
structure InAt (w : World) (s : Bool) (a : ByteArray) (wr : World) : Prop where
  arg : wr.heap[w.heap.size]? = some (.cells #[.bool s, .string a] 129 (0, 0))
  res : wr.heap[w.heap.size + 1]? = some (.cells #[.int .i64 0, .string ⟨#[]⟩, .string ⟨#[]⟩, .slice none 0 0] 63 (0, 0))
  bel : Below w.heap.size w wr
  size : w.heap.size + 1 < wr.heap.size
section
variable {w wr w' : World} {s : Bool} {a : ByteArray}
theorem InAt.next (h : InAt w s a wr) (hb : Below wr.heap.size wr w') : InAt w s a w' :=
  ⟨(hb.block _ (Nat.lt_of_succ_lt h.size)).trans h.arg, (hb.block _ h.size).trans h.res, below2 h.bel hb, Nat.lt_of_lt_of_le h.size hb.size⟩
theorem InAt.drew (h : InAt w s a wr) : InAt w s a wr.drew := h.next (Below.refl _ _).drew
theorem InAt.start : InAt w s a ((w.alloc (.cells #[.bool s, .string a] 129)).alloc (.cells #[.int .i64 0, .string ⟨#[]⟩, .string ⟨#[]⟩, .slice none 0 0] 63)) :=
  ⟨(two_boxes w _ _).1, (two_boxes w _ _).2, ((Below.refl _ _).alloc (Nat.le_refl _) _).alloc (by simp) _, by simp⟩
end
theorem SlI.set4 {w : World} {S : Nat → Prop} {A : Option Addr} {l : Its} (h : SlI w S A l) {b : Nat} (hS : ∀ g, S g → g ≠ b) (v0 v1 v2 v3 : Value) :
    SlI ((((w.setCell ⟨b, 0, none⟩ v0).setCell ⟨b, 1, none⟩ v1).setCell ⟨b, 2, none⟩ v2).setCell ⟨b, 3, none⟩ v3) S A l := h.keep fun p hp => by
  have hb := hS _ hp
  have hcell : ∀ (W : World) (i : Nat) (u : Value), (W.setCell ⟨b, i, none⟩ u).cell? p = W.cell? p := fun W i u => World.cell?_setCell_other _ _ _ _ (fun e => hb (by have := congrArg Addr.block e; first | exact this | exact this.symm))
  rw [hcell, hcell, hcell, hcell]
theorem list_two (W : World) (x y : ByteArray) :
    Calls Tryz.prog 113 #[.slice (some ⟨W.heap.size, 0, none⟩) 2 2] (W.alloc (.cells #[.int .i64 0, .string x, .string ⟨#[]⟩, .slice none 0 0, .int .i64 0, .string y, .string ⟨#[]⟩, .slice none 0 0] 63)) fun e w' =>
      ∃ A c, e = .returned (.agg #[.int .i64 2, .string ⟨#[]⟩, .string ⟨#[]⟩, .slice A 2 c]) ∧ SlI w' (fun g => W.heap.size ≤ g ∧ g < w'.heap.size) A (.cons 0 x ⟨#[]⟩ .nil (.cons 0 y ⟨#[]⟩ .nil .nil)) ∧ Below W.heap.size W w' := by
  have hsl : SlI (W.alloc (.cells #[.int .i64 0, .string x, .string ⟨#[]⟩, .slice none 0 0, .int .i64 0, .string y, .string ⟨#[]⟩, .slice none 0 0] 63)) (fun g => g = W.heap.size) (some ⟨W.heap.size, 0, none⟩) (.cons 0 x ⟨#[]⟩ .nil (.cons 0 y ⟨#[]⟩ .nil .nil)) := by
    refine ⟨[.int .i64 0, .string x, .string ⟨#[]⟩, .slice none 0 0, .int .i64 0, .string y, .string ⟨#[]⟩, .slice none 0 0], ?_, ?_⟩
    · intro _
      refine ⟨_, 0, rfl, rfl, ?_⟩
      intro j u hj
      rw [Nat.zero_add]
      have h1 := heap_alloc_new W (.cells #[.int .i64 0, .string x, .string ⟨#[]⟩, .slice none 0 0, .int .i64 0, .string y, .string ⟨#[]⟩, .slice none 0 0] 63)
      exact cell_of_row _ _ j _ _ _ h1 |>.trans (by simpa using hj)
    · exact ⟨none, 0, [], _, rfl, fun h => absurd h (by simp [Its.len]), rfl, none, 0, [], _, rfl, fun h => absurd h (by simp [Its.len]), rfl, rfl⟩
  refine (enc_List (.cons 0 x ⟨#[]⟩ .nil (.cons 0 y ⟨#[]⟩ .nil .nil)) (some ⟨W.heap.size, 0, none⟩) 2 (fun g => g = W.heap.size) _ (by simp [Its.size]) hsl (by intro g hg; simp [hg])).mono ?_
  rintro e w' ⟨A, c, he, h1, h2⟩
  have hw : Below W.heap.size W w' := ((Below.refl _ _).alloc (Nat.le_refl _) _).trans (h2.mono (by simp))
  exact ⟨A, c, he, h1.mono (fun g hg => ⟨by have := hg.1; simp at this; omega, hg.2⟩), hw⟩
theorem InAt.close {w w5 : World} {s : Bool} {a : ByteArray} {W : World} {A : Option Addr} {c : Nat} {l : Its} (h : InAt w s a W) (hb : Below W.heap.size W w5) (hsl : SlI w5 (fun g => W.heap.size ≤ g ∧ g < w5.heap.size) A l) (hl : l.len = 2) :
    ItOut (2, ⟨#[]⟩, ⟨#[]⟩, l) w (.returned (.agg #[.int .i64 2, .string ⟨#[]⟩, .string ⟨#[]⟩, .slice A 2 c])) ((((w5.setCell ⟨w.heap.size + 1, 0, none⟩ (.int .i64 2)).setCell ⟨w.heap.size + 1, 1, none⟩ (.string ⟨#[]⟩)).setCell ⟨w.heap.size + 1, 2, none⟩ (.string ⟨#[]⟩)).setCell ⟨w.heap.size + 1, 3, none⟩ (.slice A 2 c)) := by
  have h5 := h.next hb
  have hz := h.size
  refine ⟨A, c, by simp [hl], ?_, ?_⟩
  · refine (hsl.set4 (b := w.heap.size + 1) (fun g hg => by have := hg.1; omega) _ _ _ _).mono ?_
    intro g hg
    simp only [World.size_setCell]
    exact ⟨by have := hg.1; omega, hg.2⟩
  · exact (((h5.bel.setCell (p := ⟨w.heap.size + 1, 0, none⟩) (Nat.le_succ _) _).setCell (p := ⟨w.heap.size + 1, 1, none⟩) (Nat.le_succ _) _).setCell (p := ⟨w.heap.size + 1, 2, none⟩) (Nat.le_succ _) _).setCell (p := ⟨w.heap.size + 1, 3, none⟩) (Nat.le_succ _) _
theorem enc_Int (s : Bool) (a : ByteArray) (w : World) : Calls Tryz.prog 114 #[.agg #[.bool s, .string a]] w (ItOut (2, ⟨#[]⟩, ⟨#[]⟩, .cons 0 (if s then B 1 else ⟨#[]⟩) ⟨#[]⟩ .nil (.cons 0 a ⟨#[]⟩ .nil .nil)) w) := by
  have HIN := Lib.hid (InAt.start (w := w) (s := s) (a := a))
  obtain ⟨one, hone⟩ : ∃ one, B 1 = one := ⟨_, rfl⟩
  have HOF := Lib.hid (fun W => natural_Of' 1 1 W rfl (by decide))
  rw [hone] at HOF ⊢
  clear hone
  have HEN := Lib.hid enc_Nat
  have HLT := Lib.hid list_two
  cases s
  · go_enter Tryz.func114, Tryz.ntmps114
    go_wp2_with fail
    have H0 := HIN
    have x1 := cell_of_row _ _ 1 _ _ _ H0.out.arg
    clear HIN HOF
    go_region_with (first
      | (go_at_call 112; (with_reducible refine (HEN.out ⟨#[]⟩ _).mono ?_); rintro e w2 ⟨rfl, hb2⟩; have H2 := Lib.hid (show InAt w _ a w2 from by { first | exact H0.out.next hb2 | exact H0.out.drew.next hb2 }); have x2 := cell_of_row _ _ 1 _ _ _ H2.out.arg; clear hb2)
      | (go_at_call 112; (with_reducible refine (HEN.out a _).mono ?_); rintro e w3 ⟨rfl, hb3⟩; have H3 := Lib.hid (show InAt w _ a w3 from by { first | exact H2.out.next hb3 | exact H2.out.drew.next hb3 }); clear hb3)
      | (go_at_call 113; (with_reducible refine (HLT.out w3 ⟨#[]⟩ a).mono ?_); rintro e w5 ⟨A5, c5, rfl, hsl5, hb5⟩; have h5 := H3.out.next hb5; have hres := h5.res; have g0 := frozen_of_row w5 _ 0 _ _ hres; have g1 := frozen_of_row w5 _ 1 _ _ hres; have g2 := frozen_of_row w5 _ 2 _ _ hres; have g3 := frozen_of_row w5 _ 3 _ _ hres; have r0 := cell_of_row w5 _ 0 _ _ _ hres; have r1 := cell_of_row w5 _ 1 _ _ _ hres; have r2 := cell_of_row w5 _ 2 _ _ _ hres; have r3 := cell_of_row w5 _ 3 _ _ _ hres; have HEND := Lib.hid (H3.out.close (c := c5) hb5 hsl5 rfl); clear h5 hres hsl5 hb5))
    all_goals
      go_wp2_with fail
      refine bodyPost_ret (v := .agg #[.int .i64 2, .string ⟨#[]⟩, .string ⟨#[]⟩, .slice A5 2 c5]) (by simp [results, Tryz.results114, go_sem, r0, r1, r2, r3]) rfl ?_
      exact HEND.out
  · go_enter Tryz.func114, Tryz.ntmps114
    go_wp2_with (go_at_call 125; (with_reducible refine (HOF.out _).mono ?_); rintro e w1 ⟨rfl, hb1⟩; have H0 := Lib.hid (HIN.out.next hb1); clear hb1)
    have x1 := cell_of_row _ _ 1 _ _ _ H0.out.arg
    clear HIN HOF
    go_region_with (first
      | (go_at_call 112; (with_reducible refine (HEN.out one _).mono ?_); rintro e w2 ⟨rfl, hb2⟩; have H2 := Lib.hid (show InAt w _ a w2 from by { first | exact H0.out.next hb2 | exact H0.out.drew.next hb2 }); have x2 := cell_of_row _ _ 1 _ _ _ H2.out.arg; clear hb2)
      | (go_at_call 112; (with_reducible refine (HEN.out a _).mono ?_); rintro e w3 ⟨rfl, hb3⟩; have H3 := Lib.hid (show InAt w _ a w3 from by { first | exact H2.out.next hb3 | exact H2.out.drew.next hb3 }); clear hb3)
      | (go_at_call 113; (with_reducible refine (HLT.out w3 one a).mono ?_); rintro e w5 ⟨A5, c5, rfl, hsl5, hb5⟩; have h5 := H3.out.next hb5; have hres := h5.res; have g0 := frozen_of_row w5 _ 0 _ _ hres; have g1 := frozen_of_row w5 _ 1 _ _ hres; have g2 := frozen_of_row w5 _ 2 _ _ hres; have g3 := frozen_of_row w5 _ 3 _ _ hres; have r0 := cell_of_row w5 _ 0 _ _ _ hres; have r1 := cell_of_row w5 _ 1 _ _ _ hres; have r2 := cell_of_row w5 _ 2 _ _ _ hres; have r3 := cell_of_row w5 _ 3 _ _ _ hres; have HEND := Lib.hid (H3.out.close (c := c5) hb5 hsl5 rfl); clear h5 hres hsl5 hb5))
    all_goals
      go_wp2_with fail
      refine bodyPost_ret (v := .agg #[.int .i64 2, .string ⟨#[]⟩, .string ⟨#[]⟩, .slice A5 2 c5]) (by simp [results, Tryz.results114, go_sem, r0, r1, r2, r3]) rfl ?_
      exact HEND.out
end Go.Proofs.YtjhlddlocpkhkaaGreat
