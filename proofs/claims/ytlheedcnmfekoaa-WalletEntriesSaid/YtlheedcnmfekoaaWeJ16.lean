/- Wallet: askedItems; changed in general. Wallet: ToInt, integer.Small, and the reader's number where the item is a number's. Wallet: the reader's used. -/
import Derived.Test.YtlheedcnmfekoaaWeJ15
import Derived.Test.YtlheedcnmfekoaaWeJ00
import Derived.Deep.RegionHeld3
import Derived.Test.YtlheedcnmfekoaaWeJ03
import Derived.Test.YtlheedcnmfekoaaWeWq
namespace Go.Proofs.Ytlheedcnmfekoaa
open Go.RowKit
set_option maxRecDepth 100000
set_option linter.unusedVariables false
set_option maxHeartbeats 8000000
/-- One box of the call's own. -/
structure Bx1 (w : World) (cs : Array Value) (T : TypeId) (wr : World) : Prop where
  arg : wr.heap[w.heap.size]? = some (.cells cs T (0, 0))
  bel : Below w.heap.size w wr
  size : w.heap.size < wr.heap.size
section
variable {w wr w' : World} {cs : Array Value} {T : TypeId}
theorem Bx1.next (h : Bx1 w cs T wr) (hb : Below wr.heap.size wr w') : Bx1 w cs T w' := ⟨(hb.block _ h.size).trans h.arg, below2 h.bel hb, Nat.lt_of_lt_of_le h.size hb.size⟩
theorem Bx1.drew (h : Bx1 w cs T wr) : Bx1 w cs T wr.drew := h.next (Below.refl _ _).drew
theorem Bx1.start : Bx1 w cs T (w.alloc (.cells cs T)) := ⟨heap_alloc_new w _, (Below.refl _ _).alloc (Nat.le_refl _) _, by simp⟩
theorem Bx1.alloc (h : Bx1 w cs T wr) (o : Obj) : Bx1 w cs T (wr.alloc o) := h.next ((Below.refl _ _).alloc (Nat.le_refl _) _)
end
/-- The items of a request. -/
def askedL (i s n x b : ByteArray) : Its := .cons 1 ⟨#[]⟩ i .nil (.cons 1 ⟨#[]⟩ s .nil (.cons 1 ⟨#[]⟩ n .nil (.cons 0 x ⟨#[]⟩ .nil (.cons 0 b ⟨#[]⟩ .nil .nil))))
/-- A row of items without lists. -/
def cellsFl : Its → List Value
  | .nil => []
  | .cons k n t _ r => .int .i64 k :: .string n :: .string t :: .slice none 0 0 :: cellsFl r
def flatI : Its → Bool
  | .nil => true
  | .cons _ _ _ l r => decide (l.len = 0) && flatI r
theorem rel_flat {w : World} {S : Nat → Prop} {l : Its} (h : flatI l = true) : RelI w S l (cellsFl l) := by
  induction l with
  | nil => rfl
  | cons k n t l r _ ih =>
    simp only [flatI, Bool.and_eq_true, decide_eq_true_eq] at h
    have h0 := len0 h.1
    subst h0
    exact ⟨none, 0, [], _, rfl, fun hx => absurd hx (by simp [Its.len]), rfl, ih h.2⟩
theorem sl_flat {W : World} {l : Its} (h : flatI l = true) : SlI (W.alloc (.cells (cellsFl l).toArray 69)) (fun g => g = W.heap.size) (some ⟨W.heap.size, 0, none⟩) l := by
  refine ⟨cellsFl l, fun _ => ⟨_, 0, rfl, rfl, fun j u hj => ?_⟩, rel_flat h⟩
  rw [Nat.zero_add, cell_of_row _ _ j _ _ _ (heap_alloc_new W _), ← hj]
  simp
theorem wal_askedItems (i s n x b : ByteArray) (w : World) :
    Calls Try.prog 44 #[.agg #[.string i, .string s, .string n, .string x, .string b]] w fun e w' => ∃ A, e = .returned (.slice A 5 5) ∧ SlI w' (fun g => w.heap.size ≤ g ∧ g < w'.heap.size) A (askedL i s n x b) ∧ Below w.heap.size w w' := by
  have HIN := Lib.hid (Bx1.start (w := w) (cs := #[.string i, .string s, .string n, .string x, .string b]) (T := 37))
  have HT := Lib.hid (fun x W => enc_Text x W)
  have HN := Lib.hid (fun x W => enc_Nat x W)
  have HC : Hid (∀ W, Bx1 w #[.string i, .string s, .string n, .string x, .string b] 37 W → W.cell? ⟨w.heap.size, 0, none⟩ = some (.string i) ∧ W.cell? ⟨w.heap.size, 1, none⟩ = some (.string s) ∧ W.cell? ⟨w.heap.size, 2, none⟩ = some (.string n) ∧ W.cell? ⟨w.heap.size, 3, none⟩ = some (.string x) ∧ W.cell? ⟨w.heap.size, 4, none⟩ = some (.string b)) := Lib.hid (fun W h => ⟨cell_of_row W _ 0 _ _ _ h.arg, cell_of_row W _ 1 _ _ _ h.arg, cell_of_row W _ 2 _ _ _ h.arg, cell_of_row W _ 3 _ _ _ h.arg, cell_of_row W _ 4 _ _ _ h.arg⟩)
  go_enter Try.func44, Try.ntmps44
  go_wp2_with fail
  have H0 := HIN
  obtain ⟨k0, k1, k2, k3, k4⟩ := HC.out _ HIN.out
  go_region_held3 (fun w' => w'.cell? ⟨w.heap.size, 0, none⟩ = some (.string i) ∧ w'.cell? ⟨w.heap.size, 1, none⟩ = some (.string s) ∧ w'.cell? ⟨w.heap.size, 2, none⟩ = some (.string n) ∧ w'.cell? ⟨w.heap.size, 3, none⟩ = some (.string x) ∧ w'.cell? ⟨w.heap.size, 4, none⟩ = some (.string b)) (first | exact HC.out _ H0.out | exact HC.out _ H0.out.drew | exact HC.out _ (H0.out.alloc _) | exact HC.out _ (H0.out.drew.alloc _) | go_keep) (first
    | (go_at_call 40; (with_reducible refine (HT.out _ _).mono ?_); rintro e w1 ⟨rfl, hb1⟩; have n1 : Bx1 w #[.string i, .string s, .string n, .string x, .string b] 37 w1 := (by first | exact H0.out.next hb1 | exact H0.out.drew.next hb1); replace H0 := Lib.hid n1; have q0 := (HC.out _ n1).1; have q1 := (HC.out _ n1).2.1; have q2 := (HC.out _ n1).2.2.1; have q3 := (HC.out _ n1).2.2.2.1; have q4 := (HC.out _ n1).2.2.2.2; clear n1 hb1)
    | (go_at_call 71; (with_reducible refine (HN.out _ _).mono ?_); rintro e w1 ⟨rfl, hb1⟩; have n1 : Bx1 w #[.string i, .string s, .string n, .string x, .string b] 37 w1 := (by first | exact H0.out.next hb1 | exact H0.out.drew.next hb1); replace H0 := Lib.hid n1; have q0 := (HC.out _ n1).1; have q1 := (HC.out _ n1).2.1; have q2 := (HC.out _ n1).2.2.1; have q3 := (HC.out _ n1).2.2.2.1; have q4 := (HC.out _ n1).2.2.2.2; clear n1 hb1))
  all_goals
    have hs1 := sl_flat (W := w1) (l := askedL i s n x b) rfl
    have HS1 : Hid (SlI (w1.alloc (.cells #[.int .i64 1, .string ⟨#[]⟩, .string i, .slice none 0 0, .int .i64 1, .string ⟨#[]⟩, .string s, .slice none 0 0, .int .i64 1, .string ⟨#[]⟩, .string n, .slice none 0 0, .int .i64 0, .string x, .string ⟨#[]⟩, .slice none 0 0, .int .i64 0, .string b, .string ⟨#[]⟩, .slice none 0 0] 69)) (fun g => g = w1.heap.size) (some ⟨w1.heap.size, 0, none⟩) (askedL i s n x b)) := Lib.hid hs1
    clear hs1
    go_wp2_with fail
    go_ret
    exact ⟨some ⟨w1.heap.size, 0, none⟩, rfl, HS1.out.mono (fun g hg => ⟨by rw [hg]; exact H0.out.bel.size, by rw [hg]; simp⟩), H0.out.bel.alloc H0.out.bel.size _⟩
/-- changed with an error, or where the entry is not well. -/
def ZeroErr (w : World) (z : Int) (o : Ending) (w' : World) : Prop := o = .returned (.tuple #[.agg #[.string ⟨#[]⟩, .slice none 0 0, .slice none 0 0, .slice none 0 0], .string ⟨#[]⟩, .int .i64 z]) ∧ Below w.heap.size w w'
theorem wal_changed_e (sec : ByteArray) (Aa Ah Au : Option Addr) (na ca nh ch nu cu : Nat) (name : ByteArray) (A : Option Addr) (n c : Nat) (z : Int) (w : World) (hz : z ≠ 0) :
    Calls Try.prog 16 #[.agg #[.string sec, .slice Aa na ca, .slice Ah nh ch, .slice Au nu cu], .int .i64 z, .string name, .slice A n c] w (ZeroErr w z) := by
  have d1 : (z == 0) = false := by simp [hz]
  have HC := Lib.hid (CpB.start (w := w) (sec := sec) (Aa := Aa) (na := na) (ca := ca) (Ah := Ah) (nh := nh) (ch := ch) (Au := Au) (nu := nu) (cu := cu))
  go_enter Try.func16, Try.ntmps16
  go_wp2_with fail
  refine bodyPost_ret (v := .tuple #[.agg #[.string ⟨#[]⟩, .slice none 0 0, .slice none 0 0, .slice none 0 0], .string ⟨#[]⟩, .int .i64 z]) (by simp [results, Try.results16, go_sem]) rfl ?_
  have hl : w.heap.size ≤ w.heap.size + 1 := Nat.le_succ _
  exact ⟨rfl, by first | exact HC.out.bel | exact (((HC.out.bel.setCell (p := ⟨w.heap.size + 1, 0, none⟩) hl _).setCell (p := ⟨w.heap.size + 1, 1, none⟩) hl _).setCell (p := ⟨w.heap.size + 1, 2, none⟩) hl _).setCell (p := ⟨w.heap.size + 1, 3, none⟩) hl _⟩
theorem wal_changed_bad (sec : ByteArray) (Aa Ah Au : Option Addr) (na ca nh ch nu cu : Nat) (name : ByteArray) (l : Its) (A : Option Addr) (c : Nat) (S : Nat → Prop) (w : World) (hsz : l.size ≤ 10000) (hsl : SlI w S A l) (hS : ∀ g, S g → g < w.heap.size) (hel : (encOne (entOf name l)).length ≤ 200000000) (z : Int) (hz : (encS (entOf name l)).2 = z) (hz0 : z ≠ 0) :
    Calls Try.prog 16 #[.agg #[.string sec, .slice Aa na ca, .slice Ah nh ch, .slice Au nu cu], .int .i64 0, .string name, .slice A l.len c] w (ZeroErr w z) := by
  have d1 : (z == 0) = false := by simp [hz0]
  have HC := Lib.hid (CpB.start (w := w) (sec := sec) (Aa := Aa) (na := na) (ca := ca) (Ah := Ah) (nh := nh) (ch := ch) (Au := Au) (nu := nu) (cu := cu))
  have HE := Lib.hid (fun W (hb : Below w.heap.size w W) => wal_entry name l A c S W hsz (hsl.below hb hS) (fun g hg => Nat.lt_of_lt_of_le (hS g hg) hb.size) hel)
  have hz' : (encS (2, ⟨#[]⟩, ⟨#[]⟩, .cons 1 ⟨#[]⟩ name .nil l)).2 = z := hz
  rw [hz'] at HE
  generalize (encS (2, ⟨#[]⟩, ⟨#[]⟩, .cons 1 ⟨#[]⟩ name .nil l)).1 = r at HE
  clear hsz hsl hS hel hz hz'
  go_enter Try.func16, Try.ntmps16
  go_wp2_with (go_at_call 39; (with_reducible refine (HE.out _ HC.out.bel).mono ?_); rintro e w1 ⟨rfl, hb1⟩; have HC1 := Lib.hid (HC.out.next hb1); obtain ⟨⟨r0, r1, r2, r3⟩, g0, g1, g2, g3⟩ := HC1.out.rc; clear hb1)
  refine bodyPost_ret (v := .tuple #[.agg #[.string ⟨#[]⟩, .slice none 0 0, .slice none 0 0, .slice none 0 0], .string ⟨#[]⟩, .int .i64 z]) (by simp [results, Try.results16, go_sem, r0, r1, r2, r3]) rfl ?_
  have hl : w.heap.size ≤ w.heap.size + 1 := Nat.le_succ _
  exact ⟨rfl, (((HC1.out.bel.setCell (p := ⟨w.heap.size + 1, 0, none⟩) hl _).setCell (p := ⟨w.heap.size + 1, 1, none⟩) hl _).setCell (p := ⟨w.heap.size + 1, 2, none⟩) hl _).setCell (p := ⟨w.heap.size + 1, 3, none⟩) hl _⟩
theorem two_cells {w : World} {S : Nat → Prop} {A : Option Addr} {x y : ByteArray} (h : SlI w S A (.cons 0 x ⟨#[]⟩ .nil (.cons 0 y ⟨#[]⟩ .nil .nil))) :
    ∃ g off, A = some ⟨g, off, none⟩ ∧ S g ∧ w.cell? ⟨g, off, none⟩ = some (.int .i64 0) ∧ w.cell? ⟨g, off + 1, none⟩ = some (.string x) ∧ w.cell? ⟨g, off + 4, none⟩ = some (.int .i64 0) ∧ w.cell? ⟨g, off + 5, none⟩ = some (.string y) := by
  obtain ⟨g, off, A', c', e, hg, a0, a1, _⟩ := h.at_ (i := 0) (y := (0, x, ⟨#[]⟩, .nil)) rfl
  obtain ⟨g', off', A2, c2, e', hg', b0, b1, _⟩ := h.at_ (i := 1) (y := (0, y, ⟨#[]⟩, .nil)) rfl
  rw [e] at e'
  injection e' with e'
  injection e' with e1 e2
  subst e1 e2
  exact ⟨g, off, e, hg, by simpa using a0, by simpa using a1, by simpa using b0, by simpa [Nat.add_assoc] using b1⟩
theorem okOne_int {z : Int} (hz : -9223372036854775808 ≤ z ∧ z ≤ 9223372036854775807) : okOne (2, ⟨#[]⟩, ⟨#[]⟩, intIt z) = true := by
  have hb : valid (B z.natAbs) = true := valid_B (Nat.lt_of_lt_of_le (show z.natAbs < 256 ^ 8 by omega) (by rw [lim_eq]; exact Nat.pow_le_pow_right (by decide) (by decide)))
  have hs : valid (if decide (z < 0) then B 1 else ⟨#[]⟩) = true := by
    split
    · exact valid_B (by rw [lim_eq]; exact Nat.one_lt_pow (by decide) (by decide))
    · decide
  unfold okOne Its.one intIt
  generalize (if decide (z < 0) then B 1 else ⟨#[]⟩) = y at hs ⊢
  simp [okI, hb, hs, Its.len]
  rfl
theorem enc_ToInt (z : Int) (hz : -9223372036854775808 ≤ z ∧ z ≤ 9223372036854775807) (A : Option Addr) (c : Nat) (S : Nat → Prop) (w : World) (hsl : SlI w S A (intIt z)) (hS : ∀ g, S g → g < w.heap.size) :
    Calls Try.prog 79 #[.agg #[.int .i64 2, .string ⟨#[]⟩, .string ⟨#[]⟩, .slice A 2 c]] w fun e w' => e = .returned (.tuple #[.agg #[.bool (decide (z < 0)), .string (B z.natAbs)], .bool true]) ∧ Below w.heap.size w w' := by
  have hv := fun W (hb : Below w.heap.size w W) => enc_valid (intIt z).size (2, ⟨#[]⟩, ⟨#[]⟩, intIt z) A c S W (Nat.le_refl _) (by unfold intIt; simp [Its.size]) (hsl.below hb hS) (fun g hg => Nat.lt_of_lt_of_le (hS g hg) hb.size)
  rw [okOne_int hz] at hv
  unfold valI at hv
  dsimp only at hv
  rw [intIt_len] at hv
  have HV := Lib.hid hv
  obtain ⟨W, hW⟩ : ∃ W, ((w.alloc (.cells #[.int .i64 2, .string ⟨#[]⟩, .string ⟨#[]⟩, .slice A 2 c] 69)).alloc (.cells #[.bool false, .string ⟨#[]⟩] 121)) = W := ⟨_, rfl⟩
  have hbx := two_boxes w (.cells #[.int .i64 2, .string ⟨#[]⟩, .string ⟨#[]⟩, .slice A 2 c] 69) (.cells #[.bool false, .string ⟨#[]⟩] 121)
  have hbw : Below w.heap.size w W := by rw [← hW]; exact ((Below.refl _ _).alloc (Nat.le_refl _) _).alloc (by simp) _
  rw [hW] at hbx
  have hszW : W.heap.size = w.heap.size + 2 := by rw [← hW]; simp
  have HB := Lib.hid (And.intro hbw (And.intro hbx hszW))
  rw [← hW] at HB
  clear hbx hbw hszW hW
  have HSL := Lib.hid (fun W (hb : Below w.heap.size w W) => hsl.below hb hS)
  have HOF := Lib.hid (fun W => natural_Of' 1 1 W rfl (by decide))
  clear hsl hS hv
  by_cases hneg : z < 0
  · have e1 : intIt z = .cons 0 (B 1) ⟨#[]⟩ .nil (.cons 0 (B z.natAbs) ⟨#[]⟩ .nil .nil) := by unfold intIt; rw [decide_eq_true hneg]; rfl
    have hne : z.natAbs ≠ 0 := by omega
    have b1 := B_isEmpty_false (n := 1) (by decide)
    have b2 := B_isEmpty_false hne
    rw [decide_eq_true hneg]
    obtain ⟨g, off, hA, hg, -⟩ := two_cells (e1 ▸ HSL.out w (Below.refl _ _))
    subst hA
    go_enter Try.func79, Try.ntmps79
    go_upto_region 3 with (go_at_call 82; (with_reducible refine (HV.out _ HB.out.1).mono ?_); rintro e w1 ⟨rfl, hb1⟩; have hbw1 := HB.out.1.trans (hb1.mono (by have := HB.out.2.2; omega)); obtain ⟨g', off', hA', hg', y0, y1, y2, y3⟩ := two_cells (e1 ▸ HSL.out w1 hbw1); injection hA' with hA'; injection hA' with hA1 hA2; subst hA1 hA2; have x0 := cell_of_row _ _ 0 _ _ _ ((hb1.block _ (by have := HB.out.2.2; omega)).trans HB.out.2.1.1); have x3 := cell_of_row _ _ 3 _ _ _ ((hb1.block _ (by have := HB.out.2.2; omega)).trans HB.out.2.1.1); have HR1 := Lib.hid ((hb1.block _ (by have := HB.out.2.2; omega)).trans HB.out.2.1.2); have HB1 := Lib.hid hbw1; have HZ1 := Lib.hid hb1.size; clear hb1 hbw1)
    go_quiet ((fail))
    clear x0 x3 y0 y1 y2 y3
    obtain ⟨w2, hw2⟩ : ∃ w2, w1.drewN nq = w2 := ⟨_, rfl⟩
    have HR2 : Hid (w2.heap[w.heap.size + 1]? = some (.cells #[.bool false, .string ⟨#[]⟩] 121 (0, 0)) ∧ Below w.heap.size w w2 ∧ w.heap.size + 2 ≤ w2.heap.size) := Lib.hid (by rw [← hw2]; exact ⟨HR1.out, below_drewN HB1.out _, by have := HB.out.2.2; have := HZ1.out; show w.heap.size + 2 ≤ w1.heap.size; omega⟩)
    rw [hw2]
    clear hw2
    have r0 := cell_of_row _ _ 0 _ _ _ HR2.out.1
    have r1 := cell_of_row _ _ 1 _ _ _ HR2.out.1
    have f0 := frozen_of_row _ _ 0 _ _ HR2.out.1
    have f1 := frozen_of_row _ _ 1 _ _ HR2.out.1
    obtain ⟨one, hone⟩ : ∃ one, B 1 = one := ⟨_, rfl⟩
    rw [hone] at HOF b1 ⊢
    have b4 : (one.toList == one.toList) = true := by simp
    clear hone e1
    go_wp2_with (go_at_call 86; (with_reducible refine (HOF.out _).mono ?_); rintro e w3 ⟨rfl, hb3⟩; have hr3 := (hb3.block _ (by have := HR2.out.2.2; omega)).trans HR2.out.1; have z0 := cell_of_row _ _ 0 _ _ _ hr3; have z1 := cell_of_row _ _ 1 _ _ _ hr3; have h0 := frozen_of_row _ _ 0 _ _ hr3; have h1 := frozen_of_row _ _ 1 _ _ hr3; have HB3 := Lib.hid (below2 HR2.out.2.1 hb3); clear hb3 hr3)
    refine bodyPost_ret (v := .tuple #[.agg #[.bool true, .string (B z.natAbs)], .bool true]) (by simp [results, Try.results79, go_sem, z0, z1]) rfl ?_
    exact ⟨rfl, (HB3.out.setCell (p := ⟨w.heap.size + 1, 0, none⟩) (Nat.le_succ _) _).setCell (p := ⟨w.heap.size + 1, 1, none⟩) (Nat.le_succ _) _⟩
  · have e1 : intIt z = .cons 0 ⟨#[]⟩ ⟨#[]⟩ .nil (.cons 0 (B z.natAbs) ⟨#[]⟩ .nil .nil) := by unfold intIt; rw [decide_eq_false hneg]; rfl
    rw [decide_eq_false hneg]
    obtain ⟨g, off, hA, hg, -⟩ := two_cells (e1 ▸ HSL.out w (Below.refl _ _))
    subst hA
    go_enter Try.func79, Try.ntmps79
    go_upto_region 3 with (go_at_call 82; (with_reducible refine (HV.out _ HB.out.1).mono ?_); rintro e w1 ⟨rfl, hb1⟩; have hbw1 := HB.out.1.trans (hb1.mono (by have := HB.out.2.2; omega)); obtain ⟨g', off', hA', hg', y0, y1, y2, y3⟩ := two_cells (e1 ▸ HSL.out w1 hbw1); injection hA' with hA'; injection hA' with hA1 hA2; subst hA1 hA2; have x0 := cell_of_row _ _ 0 _ _ _ ((hb1.block _ (by have := HB.out.2.2; omega)).trans HB.out.2.1.1); have x3 := cell_of_row _ _ 3 _ _ _ ((hb1.block _ (by have := HB.out.2.2; omega)).trans HB.out.2.1.1); have HR1 := Lib.hid ((hb1.block _ (by have := HB.out.2.2; omega)).trans HB.out.2.1.2); have HB1 := Lib.hid hbw1; have HZ1 := Lib.hid hb1.size; clear hb1 hbw1)
    go_quiet ((fail))
    clear x0 x3 y0 y1 y2 y3
    obtain ⟨w2, hw2⟩ : ∃ w2, w1.drewN nq = w2 := ⟨_, rfl⟩
    have HR2 : Hid (w2.heap[w.heap.size + 1]? = some (.cells #[.bool false, .string ⟨#[]⟩] 121 (0, 0)) ∧ Below w.heap.size w w2 ∧ w.heap.size + 2 ≤ w2.heap.size) := Lib.hid (by rw [← hw2]; exact ⟨HR1.out, below_drewN HB1.out _, by have := HB.out.2.2; have := HZ1.out; show w.heap.size + 2 ≤ w1.heap.size; omega⟩)
    rw [hw2]
    clear hw2
    have r0 := cell_of_row _ _ 0 _ _ _ HR2.out.1
    have r1 := cell_of_row _ _ 1 _ _ _ HR2.out.1
    have f0 := frozen_of_row _ _ 0 _ _ HR2.out.1
    have f1 := frozen_of_row _ _ 1 _ _ HR2.out.1
    go_wp2_with fail
    refine bodyPost_ret (v := .tuple #[.agg #[.bool false, .string (B z.natAbs)], .bool true]) (by simp [results, Try.results79, go_sem, r0, r1]) rfl ?_
    exact ⟨rfl, (HR2.out.2.1.setCell (p := ⟨w.heap.size + 1, 0, none⟩) (Nat.le_succ _) _).setCell (p := ⟨w.heap.size + 1, 1, none⟩) (Nat.le_succ _) _⟩
theorem int_Small (z : Int) (hz : -9223372036854775808 ≤ z ∧ z ≤ 9223372036854775807) (w : World) :
    Calls Try.prog 80 #[.agg #[.bool (decide (z < 0)), .string (B z.natAbs)]] w fun e w' => e = .returned (.tuple #[.int .i64 z, .bool true]) ∧ Below w.heap.size w w' := by
  obtain ⟨n, hn⟩ : ∃ n, z.natAbs = n := ⟨_, rfl⟩
  have hlim : n < lim := Nat.lt_of_lt_of_le (show n < 256 ^ 8 by omega) (by rw [lim_eq]; exact Nat.pow_le_pow_right (by decide) (by decide))
  rw [hn]
  have HSM := Lib.hid (fun W => natural_Small' n W (by omega))
  have HB0 := Lib.hid (Bx1.start (w := w) (cs := #[.bool (decide (z < 0)), .string (B n)]) (T := 121))
  by_cases hneg : z < 0
  · have hok : IntOk true n := ⟨hlim, by rw [B_isEmpty_false (by omega)]; rfl⟩
    have HVA := Lib.hid (fun W => integer_Valid' true n W (Lib.hid hok))
    rw [decide_eq_true hneg] at HB0 ⊢
    have d1 : decide ((9223372036854775808 : Int) < (n : Int)) = false := decide_eq_false (by omega)
    have d2 : decide (9223372036854775808 < n) = false := decide_eq_false (by omega)
    have hres : wrap64 (-wrap64 (n : Int)) = z := by unfold wrap64; omega
    have HRES := Lib.hid hres
    clear hres hok hlim hn hz
    go_enter Try.func80, Try.ntmps80
    go_wp2_with (first | (go_at_call 90; (with_reducible refine (HSM.out _).mono ?_); rintro e w1 ⟨rfl, rfl⟩) | (go_at_call 91; (with_reducible refine (HVA.out _).mono ?_); rintro e w2 ⟨rfl, hb2⟩; have H2 := Lib.hid (HB0.out.next hb2); have x0 := cell_of_row _ _ 0 _ _ _ H2.out.arg; have x1 := cell_of_row _ _ 1 _ _ _ H2.out.arg; clear hb2))
    go_ret2
    exact ⟨by rw [← HRES.out]; rfl, H2.out.bel⟩
  · have hok : IntOk false n := ⟨hlim, rfl⟩
    have HVA := Lib.hid (fun W => integer_Valid' false n W (Lib.hid hok))
    rw [decide_eq_false hneg] at HB0 ⊢
    have d1 : decide ((9223372036854775807 : Int) < (n : Int)) = false := decide_eq_false (by omega)
    have d2 : decide (9223372036854775807 < n) = false := decide_eq_false (by omega)
    have hres : wrap64 (n : Int) = z := by unfold wrap64; omega
    have HRES := Lib.hid hres
    clear hres hok hlim hn hz
    go_enter Try.func80, Try.ntmps80
    go_wp2_with (first | (go_at_call 90; (with_reducible refine (HSM.out _).mono ?_); rintro e w1 ⟨rfl, rfl⟩) | (go_at_call 91; (with_reducible refine (HVA.out _).mono ?_); rintro e w2 ⟨rfl, hb2⟩; have H2 := Lib.hid (HB0.out.next hb2); have x0 := cell_of_row _ _ 0 _ _ _ H2.out.arg; have x1 := cell_of_row _ _ 1 _ _ _ H2.out.arg; clear hb2))
    go_ret2
    exact ⟨by rw [← HRES.out]; rfl, H2.out.bel⟩
/-- What number hands back. -/
def NbGot (w : World) (rb : Nat) (S : Nat → Prop) (z : Int) (r : Its) (o : Ending) (w' : World) : Prop :=
  ∃ A2 c2, o = .returned (.int .i64 z) ∧ r.len ≤ c2 ∧ SlK w' S A2 r ∧ RdI A2 r.len c2 rb w' ∧ w.grownBy w' (some rb)
theorem wal_number (z : Int) (hz : -9223372036854775808 ≤ z ∧ z ≤ 9223372036854775807) (n t : ByteArray) (hn : n = ⟨#[]⟩) (ht : t = ⟨#[]⟩) (r : Its) (A : Option Addr) (m c rb : Nat) (S : Nat → Prop) (w : World) (hm : r.len + 1 = m) (hm2 : m ≤ 100000) (hc : m ≤ c) (hb : RdI A m c rb w) (hsl : SlK w S A (.cons 2 n t (intIt z) r)) (hS : ∀ g, S g → g < w.heap.size ∧ g ≠ rb) :
    Calls Try.prog 53 #[.pointer (some ⟨rb, 0, none⟩)] w (NbGot w rb S z r) := by
  subst hn ht
  have HN := Lib.hid (wal_next 2 ⟨#[]⟩ ⟨#[]⟩ (intIt z) r A m c rb S w hm hm2 hc hb hsl hS)
  have HTI := Lib.hid (fun A1 c1 W (h : SlI W S A1 (intIt z)) (hS : ∀ g, S g → g < W.heap.size) => enc_ToInt z hz A1 c1 S W h hS)
  have HSM := Lib.hid (fun W => int_Small z hz W)
  have HS := Lib.hid hS
  have hl2 : (intIt z).len = 2 := rfl
  unfold NxGot at HN
  rw [hl2] at HN
  generalize hneg : decide (z < 0) = neg at HTI HSM
  clear hb hsl hS hm hc hm2 hl2
  go_enter Try.func53, Try.ntmps53
  go_wp2_with (first
    | (go_at_call 55; (with_reducible refine HN.out.mono ?_); rintro o w5 ⟨A1, c1, A2, c2, rfl, h1, h2, h3, h4, h5, h6⟩; have HI5 := Lib.hid (HTI.out A1 c1 w5 h3.to (fun g hg => Nat.lt_of_lt_of_le (HS.out g hg).1 h6.size)); have H5 := Lib.hid (show NbGot w rb S z r (.returned (.int .i64 z)) w5 from ⟨A2, c2, rfl, h2, h4, h5, h6⟩); clear h1 h2 h3 h4 h5 h6)
    | (go_at_call 79; (with_reducible refine HI5.out.mono ?_); rintro o w6 ⟨rfl, hb6⟩; have HB6 := Lib.hid hb6; clear hb6)
    | (go_at_call 80; (with_reducible refine (HSM.out _).mono ?_); rintro o w7 ⟨rfl, hb7⟩; have HB7 := Lib.hid hb7; clear hb7))
  go_ret
  have HB8 : Below w5.heap.size w5 w7 := below2 (HB6.out.alloc HB6.out.size _) HB7.out
  obtain ⟨A2', c2', _, h2, h4, h5, h6⟩ := H5.out
  exact ⟨A2', c2', rfl, h2, h4.below HB8 (fun g hg => Nat.lt_of_lt_of_le (HS.out g hg).1 h6.size), h5.keep HB8, h6.trans (gb_below HB8)⟩
/-- What used hands back. -/
def UdGot (w : World) (rb : Nat) (t : ByteArray) (p q : Int) (o : Ending) (w' : World) : Prop := o = .returned (.agg #[.string t, .int .i64 p, .int .i64 q]) ∧ w.grownBy w' (some rb) ∧ ∃ A c, RdI A 0 c rb w'
theorem wal_used (n t : ByteArray) (l : Its) (p q : Int) (hp : -9223372036854775808 ≤ p ∧ p ≤ 9223372036854775807) (hq : -9223372036854775808 ≤ q ∧ q ≤ 9223372036854775807) (A : Option Addr) (c rb : Nat) (S : Nat → Prop) (w : World) (hc : 3 ≤ c) (hb : RdI A 3 c rb w) (hsl : SlK w S A (.cons 1 n t l (.cons 2 ⟨#[]⟩ ⟨#[]⟩ (intIt p) (.cons 2 ⟨#[]⟩ ⟨#[]⟩ (intIt q) .nil)))) (hS : ∀ g, S g → g < w.heap.size ∧ g ≠ rb) :
    Calls Try.prog 54 #[.pointer (some ⟨rb, 0, none⟩)] w (UdGot w rb t p q) := by
  obtain ⟨W, hW⟩ : ∃ W, w.alloc (.cells #[.string ⟨#[]⟩, .int .i64 0, .int .i64 0] 56) = W := ⟨_, rfl⟩
  have hbw : Below w.heap.size w W := by rw [← hW]; exact (Below.refl _ _).alloc (Nat.le_refl _) _
  have hsz : W.heap.size = w.heap.size + 1 := by rw [← hW]; simp
  have hbx : W.heap[w.heap.size]? = some (.cells #[.string ⟨#[]⟩, .int .i64 0, .int .i64 0] 56 (0, 0)) := by rw [← hW]; exact (Bx1.start (w := w) (cs := #[.string ⟨#[]⟩, .int .i64 0, .int .i64 0]) (T := 56)).arg
  have hlt := hb.lt
  have hS2 : ∀ W' : World, w.heap.size ≤ W'.heap.size → ∀ g, S g → g < W'.heap.size ∧ g ≠ rb := fun W' h g hg => ⟨Nat.lt_of_lt_of_le (hS g hg).1 h, (hS g hg).2⟩
  have HT := Lib.hid (wal_text n t l (.cons 2 ⟨#[]⟩ ⟨#[]⟩ (intIt p) (.cons 2 ⟨#[]⟩ ⟨#[]⟩ (intIt q) .nil)) A 3 c rb S W rfl (by decide) hc (hb.keep hbw) (hsl.below hbw (fun g hg => (hS g hg).1)) (hS2 W hbw.size))
  have HN1 := Lib.hid (fun A c W' hc hb hsl hS => wal_number p hp ⟨#[]⟩ ⟨#[]⟩ rfl rfl (.cons 2 ⟨#[]⟩ ⟨#[]⟩ (intIt q) .nil) A 2 c rb S W' rfl (by decide) hc hb hsl hS)
  have HN2 := Lib.hid (fun A c W' hc hb hsl hS => wal_number q hq ⟨#[]⟩ ⟨#[]⟩ rfl rfl .nil A 1 c rb S W' rfl (by decide) hc hb hsl hS)
  have HE := Lib.hid (fun A c W hb => wal_end A c rb W hb)
  have HW := Lib.hid (And.intro hbw (And.intro hbx (And.intro hsz (And.intro hlt hS2))))
  rw [← hW] at HT HW
  clear hb hsl hS hc hbw hbx hsz hlt hS2 hW W
  generalize hzp : p = zp at *
  go_enter Try.func54, Try.ntmps54
  go_upto_region 3 with (first
    | (go_at_call 34; (with_reducible refine HT.out.mono ?_); rintro o w5 ⟨A2, c2, rfl, h2, h4, h5, h6⟩; have HG5 := Lib.hid h6; have HP1 := Lib.hid (HN1.out A2 c2 w5 h2 h5 h4 (HW.out.2.2.2.2 _ (Nat.le_trans HW.out.1.size h6.size))); clear h2 h4 h5 h6)
    | (go_at_call 53; (with_reducible refine HP1.out.mono ?_); rintro o w6 ⟨A3, c3, rfl, h2, h4, h5, h6⟩; have HG6 := Lib.hid (HG5.out.trans h6); have HP2 := Lib.hid (HN2.out A3 c3 w6 h2 h5 h4 (HW.out.2.2.2.2 _ (Nat.le_trans HW.out.1.size HG6.out.size))); clear h2 h4 h5 h6 HP1)
    | (go_at_call 53; (with_reducible refine HP2.out.mono ?_); rintro o w7 ⟨A4, c4, rfl, h2, h4, h5, h6⟩; have HG7 := Lib.hid (HG6.out.trans h6); have HE7 := Lib.hid (HE.out A4 c4 _ (h5.keep ((Below.refl _ _).alloc (Nat.le_refl _) (.cells #[.string t, .int .i64 zp, .int .i64 q] 56)))); have HR7 : Hid (RdI A4 0 c4 rb (w7.alloc (.cells #[.string t, .int .i64 zp, .int .i64 q] 56))) := Lib.hid (h5.keep ((Below.refl _ _).alloc (Nat.le_refl _) (.cells #[.string t, .int .i64 zp, .int .i64 q] 56))); clear h2 h4 h5 h6)
    | (go_at_call 51; (with_reducible refine (HE7.out).mono ?_); rintro o w8 ⟨rfl, rfl⟩))
  have hbx7 : (w7.alloc (.cells #[.string t, .int .i64 zp, .int .i64 q] 56)).heap[w.heap.size]? = some (.cells #[.string ⟨#[]⟩, .int .i64 0, .int .i64 0] 56 (0, 0)) := (((Below.refl _ _).alloc (Nat.le_refl _) _).block _ (by have := HG7.out.size; have := HW.out.2.2.1; omega)).trans ((HG7.out.block _ (by have := HW.out.2.2.1; omega) (fun e => by injection e with e; have := HW.out.2.2.2.1; omega)).trans HW.out.2.1)
  have g0 := frozen_of_row _ _ 0 _ _ hbx7
  have g1 := frozen_of_row _ _ 1 _ _ hbx7
  have g2 := frozen_of_row _ _ 2 _ _ hbx7
  have r0 := cell_of_row _ _ 0 _ _ _ hbx7
  have r1 := cell_of_row _ _ 1 _ _ _ hbx7
  have r2 := cell_of_row _ _ 2 _ _ _ hbx7
  go_wp2_with fail
  refine bodyPost_ret (v := .agg #[.string t, .int .i64 zp, .int .i64 q]) (by simp [results, Try.results54, go_sem, r0, r1, r2]) rfl ?_
  have hl : w.heap.size ≤ w.heap.size := Nat.le_refl _
  have hne : rb ≠ w.heap.size := by have := HW.out.2.2.2.1; omega
  have hrd : RdI A4 0 c4 rb ((((w7.alloc (.cells #[.string t, .int .i64 zp, .int .i64 q] 56)).setCell ⟨w.heap.size, 0, none⟩ (.string t)).setCell ⟨w.heap.size, 1, none⟩ (.int .i64 zp)).setCell ⟨w.heap.size, 2, none⟩ (.int .i64 q)) := (heap_setCell_other _ _ _ _ hne).trans ((heap_setCell_other _ _ _ _ hne).trans ((heap_setCell_other _ _ _ _ hne).trans HR7.out))
  exact ⟨rfl, gb_set_new (gb_set_new (gb_set_new (((gb_below HW.out.1).trans HG7.out).trans (gb_below ((Below.refl _ _).alloc (Nat.le_refl _) _))) hl) hl) hl, A4, c4, hrd⟩
end Go.Proofs.Ytlheedcnmfekoaa
