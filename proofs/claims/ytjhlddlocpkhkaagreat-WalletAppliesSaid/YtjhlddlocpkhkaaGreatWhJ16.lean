/- Wallet: askedItems; changed in general. Wallet: ToInt, integer.Small, and the reader's number where the item is a number's. -/
import Derived.Test.YtjhlddlocpkhkaaGreatWhJ15
import Derived.Test.YtjhlddlocpkhkaaGreatWhJ05
import Derived.Deep.RegionHeld3
import Derived.Test.YtjhlddlocpkhkaaGreatWhJ08
import Derived.Test.YtjhlddlocpkhkaaGreatWhJ03
import Derived.Test.YtjhlddlocpkhkaaGreatWhWq
namespace Go.Proofs.YtjhlddlocpkhkaaGreat
open Go.RowKit
set_option maxRecDepth 100000
set_option linter.unusedVariables false
set_option maxHeartbeats 8000000
/-- One box of the call's own. -/
structure Bx1 (w : World) (cs : Array Value) (T : TypeId) (wr : World) : Prop where
  arg : wr.heap[w.heap.size]? = some (.cells cs T (0, 0))
  bel : Below w.heap.size w wr
  size : w.heap.size < wr.heap.size
section
variable {w wr w' : World} {cs : Array Value} {T : TypeId}
theorem Bx1.next (h : Bx1 w cs T wr) (hb : Below wr.heap.size wr w') : Bx1 w cs T w' := ⟨(hb.block _ h.size).trans h.arg, below2 h.bel hb, Nat.lt_of_lt_of_le h.size hb.size⟩
theorem Bx1.drew (h : Bx1 w cs T wr) : Bx1 w cs T wr.drew := h.next (Below.refl _ _).drew
theorem Bx1.start : Bx1 w cs T (w.alloc (.cells cs T)) := ⟨heap_alloc_new w _, (Below.refl _ _).alloc (Nat.le_refl _) _, by simp⟩
theorem Bx1.alloc (h : Bx1 w cs T wr) (o : Obj) : Bx1 w cs T (wr.alloc o) := h.next ((Below.refl _ _).alloc (Nat.le_refl _) _)
end
theorem two_cells {w : World} {S : Nat → Prop} {A : Option Addr} {x y : ByteArray} (h : SlI w S A (.cons 0 x ⟨#[]⟩ .nil (.cons 0 y ⟨#[]⟩ .nil .nil))) :
    ∃ g off, A = some ⟨g, off, none⟩ ∧ S g ∧ w.cell? ⟨g, off, none⟩ = some (.int .i64 0) ∧ w.cell? ⟨g, off + 1, none⟩ = some (.string x) ∧ w.cell? ⟨g, off + 4, none⟩ = some (.int .i64 0) ∧ w.cell? ⟨g, off + 5, none⟩ = some (.string y) := by
  obtain ⟨g, off, A', c', e, hg, a0, a1, _⟩ := h.at_ (i := 0) (y := (0, x, ⟨#[]⟩, .nil)) rfl
  obtain ⟨g', off', A2, c2, e', hg', b0, b1, _⟩ := h.at_ (i := 1) (y := (0, y, ⟨#[]⟩, .nil)) rfl
  rw [e] at e'
  injection e' with e'
  injection e' with e1 e2
  subst e1 e2
  exact ⟨g, off, e, hg, by simpa using a0, by simpa using a1, by simpa using b0, by simpa [Nat.add_assoc] using b1⟩
theorem okOne_int {z : Int} (hz : -9223372036854775808 ≤ z ∧ z ≤ 9223372036854775807) : okOne (2, ⟨#[]⟩, ⟨#[]⟩, intIt z) = true := by
  have hb : valid (B z.natAbs) = true := valid_B (Nat.lt_of_lt_of_le (show z.natAbs < 256 ^ 8 by omega) (by rw [lim_eq]; exact Nat.pow_le_pow_right (by decide) (by decide)))
  have hs : valid (if decide (z < 0) then B 1 else ⟨#[]⟩) = true := by
    split
    · exact valid_B (by rw [lim_eq]; exact Nat.one_lt_pow (by decide) (by decide))
    · decide
  unfold okOne Its.one intIt
  generalize (if decide (z < 0) then B 1 else ⟨#[]⟩) = y at hs ⊢
  simp [okI, hb, hs, Its.len]
  rfl
theorem enc_ToInt (z : Int) (hz : -9223372036854775808 ≤ z ∧ z ≤ 9223372036854775807) (A : Option Addr) (c : Nat) (S : Nat → Prop) (w : World) (hsl : SlI w S A (intIt z)) (hS : ∀ g, S g → g < w.heap.size) :
    Calls Tryz.prog 99 #[.agg #[.int .i64 2, .string ⟨#[]⟩, .string ⟨#[]⟩, .slice A 2 c]] w fun e w' => e = .returned (.tuple #[.agg #[.bool (decide (z < 0)), .string (B z.natAbs)], .bool true]) ∧ Below w.heap.size w w' := by
  have hv := fun W (hb : Below w.heap.size w W) => enc_valid (intIt z).size (2, ⟨#[]⟩, ⟨#[]⟩, intIt z) A c S W (Nat.le_refl _) (by unfold intIt; simp [Its.size]) (hsl.below hb hS) (fun g hg => Nat.lt_of_lt_of_le (hS g hg) hb.size)
  rw [okOne_int hz] at hv
  unfold valI at hv
  dsimp only at hv
  rw [intIt_len] at hv
  have HV := Lib.hid hv
  obtain ⟨W, hW⟩ : ∃ W, ((w.alloc (.cells #[.int .i64 2, .string ⟨#[]⟩, .string ⟨#[]⟩, .slice A 2 c] 63)).alloc (.cells #[.bool false, .string ⟨#[]⟩] 129)) = W := ⟨_, rfl⟩
  have hbx := two_boxes w (.cells #[.int .i64 2, .string ⟨#[]⟩, .string ⟨#[]⟩, .slice A 2 c] 63) (.cells #[.bool false, .string ⟨#[]⟩] 129)
  have hbw : Below w.heap.size w W := by rw [← hW]; exact ((Below.refl _ _).alloc (Nat.le_refl _) _).alloc (by simp) _
  rw [hW] at hbx
  have hszW : W.heap.size = w.heap.size + 2 := by rw [← hW]; simp
  have HB := Lib.hid (And.intro hbw (And.intro hbx hszW))
  rw [← hW] at HB
  clear hbx hbw hszW hW
  have HSL := Lib.hid (fun W (hb : Below w.heap.size w W) => hsl.below hb hS)
  have HOF := Lib.hid (fun W => natural_Of' 1 1 W rfl (by decide))
  clear hsl hS hv
  by_cases hneg : z < 0
  · have e1 : intIt z = .cons 0 (B 1) ⟨#[]⟩ .nil (.cons 0 (B z.natAbs) ⟨#[]⟩ .nil .nil) := by unfold intIt; rw [decide_eq_true hneg]; rfl
    have hne : z.natAbs ≠ 0 := by omega
    have b1 := B_isEmpty_false (n := 1) (by decide)
    have b2 := B_isEmpty_false hne
    rw [decide_eq_true hneg]
    obtain ⟨g, off, hA, hg, -⟩ := two_cells (e1 ▸ HSL.out w (Below.refl _ _))
    subst hA
    go_enter Tryz.func99, Tryz.ntmps99
    go_upto_region 3 with (go_at_call 124; (with_reducible refine (HV.out _ HB.out.1).mono ?_); rintro e w1 ⟨rfl, hb1⟩; have hbw1 := HB.out.1.trans (hb1.mono (by have := HB.out.2.2; omega)); obtain ⟨g', off', hA', hg', y0, y1, y2, y3⟩ := two_cells (e1 ▸ HSL.out w1 hbw1); injection hA' with hA'; injection hA' with hA1 hA2; subst hA1 hA2; have x0 := cell_of_row _ _ 0 _ _ _ ((hb1.block _ (by have := HB.out.2.2; omega)).trans HB.out.2.1.1); have x3 := cell_of_row _ _ 3 _ _ _ ((hb1.block _ (by have := HB.out.2.2; omega)).trans HB.out.2.1.1); have HR1 := Lib.hid ((hb1.block _ (by have := HB.out.2.2; omega)).trans HB.out.2.1.2); have HB1 := Lib.hid hbw1; have HZ1 := Lib.hid hb1.size; clear hb1 hbw1)
    go_quiet ((fail))
    clear x0 x3 y0 y1 y2 y3
    obtain ⟨w2, hw2⟩ : ∃ w2, w1.drewN nq = w2 := ⟨_, rfl⟩
    have HR2 : Hid (w2.heap[w.heap.size + 1]? = some (.cells #[.bool false, .string ⟨#[]⟩] 129 (0, 0)) ∧ Below w.heap.size w w2 ∧ w.heap.size + 2 ≤ w2.heap.size) := Lib.hid (by rw [← hw2]; exact ⟨HR1.out, below_drewN HB1.out _, by have := HB.out.2.2; have := HZ1.out; show w.heap.size + 2 ≤ w1.heap.size; omega⟩)
    rw [hw2]
    clear hw2
    have r0 := cell_of_row _ _ 0 _ _ _ HR2.out.1
    have r1 := cell_of_row _ _ 1 _ _ _ HR2.out.1
    have f0 := frozen_of_row _ _ 0 _ _ HR2.out.1
    have f1 := frozen_of_row _ _ 1 _ _ HR2.out.1
    obtain ⟨one, hone⟩ : ∃ one, B 1 = one := ⟨_, rfl⟩
    rw [hone] at HOF b1 ⊢
    have b4 : (one.toList == one.toList) = true := by simp
    clear hone e1
    go_wp2_with (go_at_call 125; (with_reducible refine (HOF.out _).mono ?_); rintro e w3 ⟨rfl, hb3⟩; have hr3 := (hb3.block _ (by have := HR2.out.2.2; omega)).trans HR2.out.1; have z0 := cell_of_row _ _ 0 _ _ _ hr3; have z1 := cell_of_row _ _ 1 _ _ _ hr3; have h0 := frozen_of_row _ _ 0 _ _ hr3; have h1 := frozen_of_row _ _ 1 _ _ hr3; have HB3 := Lib.hid (below2 HR2.out.2.1 hb3); clear hb3 hr3)
    refine bodyPost_ret (v := .tuple #[.agg #[.bool true, .string (B z.natAbs)], .bool true]) (by simp [results, Tryz.results99, go_sem, z0, z1]) rfl ?_
    exact ⟨rfl, (HB3.out.setCell (p := ⟨w.heap.size + 1, 0, none⟩) (Nat.le_succ _) _).setCell (p := ⟨w.heap.size + 1, 1, none⟩) (Nat.le_succ _) _⟩
  · have e1 : intIt z = .cons 0 ⟨#[]⟩ ⟨#[]⟩ .nil (.cons 0 (B z.natAbs) ⟨#[]⟩ .nil .nil) := by unfold intIt; rw [decide_eq_false hneg]; rfl
    rw [decide_eq_false hneg]
    obtain ⟨g, off, hA, hg, -⟩ := two_cells (e1 ▸ HSL.out w (Below.refl _ _))
    subst hA
    go_enter Tryz.func99, Tryz.ntmps99
    go_upto_region 3 with (go_at_call 124; (with_reducible refine (HV.out _ HB.out.1).mono ?_); rintro e w1 ⟨rfl, hb1⟩; have hbw1 := HB.out.1.trans (hb1.mono (by have := HB.out.2.2; omega)); obtain ⟨g', off', hA', hg', y0, y1, y2, y3⟩ := two_cells (e1 ▸ HSL.out w1 hbw1); injection hA' with hA'; injection hA' with hA1 hA2; subst hA1 hA2; have x0 := cell_of_row _ _ 0 _ _ _ ((hb1.block _ (by have := HB.out.2.2; omega)).trans HB.out.2.1.1); have x3 := cell_of_row _ _ 3 _ _ _ ((hb1.block _ (by have := HB.out.2.2; omega)).trans HB.out.2.1.1); have HR1 := Lib.hid ((hb1.block _ (by have := HB.out.2.2; omega)).trans HB.out.2.1.2); have HB1 := Lib.hid hbw1; have HZ1 := Lib.hid hb1.size; clear hb1 hbw1)
    go_quiet ((fail))
    clear x0 x3 y0 y1 y2 y3
    obtain ⟨w2, hw2⟩ : ∃ w2, w1.drewN nq = w2 := ⟨_, rfl⟩
    have HR2 : Hid (w2.heap[w.heap.size + 1]? = some (.cells #[.bool false, .string ⟨#[]⟩] 129 (0, 0)) ∧ Below w.heap.size w w2 ∧ w.heap.size + 2 ≤ w2.heap.size) := Lib.hid (by rw [← hw2]; exact ⟨HR1.out, below_drewN HB1.out _, by have := HB.out.2.2; have := HZ1.out; show w.heap.size + 2 ≤ w1.heap.size; omega⟩)
    rw [hw2]
    clear hw2
    have r0 := cell_of_row _ _ 0 _ _ _ HR2.out.1
    have r1 := cell_of_row _ _ 1 _ _ _ HR2.out.1
    have f0 := frozen_of_row _ _ 0 _ _ HR2.out.1
    have f1 := frozen_of_row _ _ 1 _ _ HR2.out.1
    go_wp2_with fail
    refine bodyPost_ret (v := .tuple #[.agg #[.bool false, .string (B z.natAbs)], .bool true]) (by simp [results, Tryz.results99, go_sem, r0, r1]) rfl ?_
    exact ⟨rfl, (HR2.out.2.1.setCell (p := ⟨w.heap.size + 1, 0, none⟩) (Nat.le_succ _) _).setCell (p := ⟨w.heap.size + 1, 1, none⟩) (Nat.le_succ _) _⟩
theorem int_Small (z : Int) (hz : -9223372036854775808 ≤ z ∧ z ≤ 9223372036854775807) (w : World) :
    Calls Tryz.prog 100 #[.agg #[.bool (decide (z < 0)), .string (B z.natAbs)]] w fun e w' => e = .returned (.tuple #[.int .i64 z, .bool true]) ∧ Below w.heap.size w w' := by
  obtain ⟨n, hn⟩ : ∃ n, z.natAbs = n := ⟨_, rfl⟩
  have hlim : n < lim := Nat.lt_of_lt_of_le (show n < 256 ^ 8 by omega) (by rw [lim_eq]; exact Nat.pow_le_pow_right (by decide) (by decide))
  rw [hn]
  have HSM := Lib.hid (fun W => natural_Small' n W (by omega))
  have HB0 := Lib.hid (Bx1.start (w := w) (cs := #[.bool (decide (z < 0)), .string (B n)]) (T := 129))
  by_cases hneg : z < 0
  · have hok : IntOk true n := ⟨hlim, by rw [B_isEmpty_false (by omega)]; rfl⟩
    have HVA := Lib.hid (fun W => integer_Valid' true n W (Lib.hid hok))
    rw [decide_eq_true hneg] at HB0 ⊢
    have d1 : decide ((9223372036854775808 : Int) < (n : Int)) = false := decide_eq_false (by omega)
    have d2 : decide (9223372036854775808 < n) = false := decide_eq_false (by omega)
    have hres : wrap64 (-wrap64 (n : Int)) = z := by unfold wrap64; omega
    have HRES := Lib.hid hres
    clear hres hok hlim hn hz
    go_enter Tryz.func100, Tryz.ntmps100
    go_wp2_with (first | (go_at_call 126; (with_reducible refine (HSM.out _).mono ?_); rintro e w1 ⟨rfl, rfl⟩) | (go_at_call 127; (with_reducible refine (HVA.out _).mono ?_); rintro e w2 ⟨rfl, hb2⟩; have H2 := Lib.hid (HB0.out.next hb2); have x0 := cell_of_row _ _ 0 _ _ _ H2.out.arg; have x1 := cell_of_row _ _ 1 _ _ _ H2.out.arg; clear hb2))
    go_ret2
    exact ⟨by rw [← HRES.out]; rfl, H2.out.bel⟩
  · have hok : IntOk false n := ⟨hlim, rfl⟩
    have HVA := Lib.hid (fun W => integer_Valid' false n W (Lib.hid hok))
    rw [decide_eq_false hneg] at HB0 ⊢
    have d1 : decide ((9223372036854775807 : Int) < (n : Int)) = false := decide_eq_false (by omega)
    have d2 : decide (9223372036854775807 < n) = false := decide_eq_false (by omega)
    have hres : wrap64 (n : Int) = z := by unfold wrap64; omega
    have HRES := Lib.hid hres
    clear hres hok hlim hn hz
    go_enter Tryz.func100, Tryz.ntmps100
    go_wp2_with (first | (go_at_call 126; (with_reducible refine (HSM.out _).mono ?_); rintro e w1 ⟨rfl, rfl⟩) | (go_at_call 127; (with_reducible refine (HVA.out _).mono ?_); rintro e w2 ⟨rfl, hb2⟩; have H2 := Lib.hid (HB0.out.next hb2); have x0 := cell_of_row _ _ 0 _ _ _ H2.out.arg; have x1 := cell_of_row _ _ 1 _ _ _ H2.out.arg; clear hb2))
    go_ret2
    exact ⟨by rw [← HRES.out]; rfl, H2.out.bel⟩
/-- What number hands back. -/
def NbGot (w : World) (rb : Nat) (S : Nat → Prop) (z : Int) (r : Its) (o : Ending) (w' : World) : Prop :=
  ∃ A2 c2, o = .returned (.int .i64 z) ∧ r.len ≤ c2 ∧ SlK w' S A2 r ∧ RdI A2 r.len c2 rb w' ∧ w.grownBy w' (some rb)
theorem wal_number (z : Int) (hz : -9223372036854775808 ≤ z ∧ z ≤ 9223372036854775807) (n t : ByteArray) (hn : n = ⟨#[]⟩) (ht : t = ⟨#[]⟩) (r : Its) (A : Option Addr) (m c rb : Nat) (S : Nat → Prop) (w : World) (hm : r.len + 1 = m) (hm2 : m ≤ 100000) (hc : m ≤ c) (hb : RdI A m c rb w) (hsl : SlK w S A (.cons 2 n t (intIt z) r)) (hS : ∀ g, S g → g < w.heap.size ∧ g ≠ rb) :
    Calls Tryz.prog 64 #[.pointer (some ⟨rb, 0, none⟩)] w (NbGot w rb S z r) := by
  subst hn ht
  have HN := Lib.hid (wal_next 2 ⟨#[]⟩ ⟨#[]⟩ (intIt z) r A m c rb S w hm hm2 hc hb hsl hS)
  have HTI := Lib.hid (fun A1 c1 W (h : SlI W S A1 (intIt z)) (hS : ∀ g, S g → g < W.heap.size) => enc_ToInt z hz A1 c1 S W h hS)
  have HSM := Lib.hid (fun W => int_Small z hz W)
  have HS := Lib.hid hS
  have hl2 : (intIt z).len = 2 := rfl
  unfold NxGot at HN
  rw [hl2] at HN
  generalize hneg : decide (z < 0) = neg at HTI HSM
  clear hb hsl hS hm hc hm2 hl2
  go_enter Tryz.func64, Tryz.ntmps64
  go_wp2_with (first
    | (go_at_call 69; (with_reducible refine HN.out.mono ?_); rintro o w5 ⟨A1, c1, A2, c2, rfl, h1, h2, h3, h4, h5, h6⟩; have HI5 := Lib.hid (HTI.out A1 c1 w5 h3.to (fun g hg => Nat.lt_of_lt_of_le (HS.out g hg).1 h6.size)); have H5 := Lib.hid (show NbGot w rb S z r (.returned (.int .i64 z)) w5 from ⟨A2, c2, rfl, h2, h4, h5, h6⟩); clear h1 h2 h3 h4 h5 h6)
    | (go_at_call 99; (with_reducible refine HI5.out.mono ?_); rintro o w6 ⟨rfl, hb6⟩; have HB6 := Lib.hid hb6; clear hb6)
    | (go_at_call 100; (with_reducible refine (HSM.out _).mono ?_); rintro o w7 ⟨rfl, hb7⟩; have HB7 := Lib.hid hb7; clear hb7))
  go_ret
  have HB8 : Below w5.heap.size w5 w7 := below2 (HB6.out.alloc HB6.out.size _) HB7.out
  obtain ⟨A2', c2', _, h2, h4, h5, h6⟩ := H5.out
  exact ⟨A2', c2', rfl, h2, h4.below HB8 (fun g hg => Nat.lt_of_lt_of_le (HS.out g hg).1 h6.size), h5.keep HB8, h6.trans (gb_below HB8)⟩
end Go.Proofs.YtjhlddlocpkhkaaGreat
