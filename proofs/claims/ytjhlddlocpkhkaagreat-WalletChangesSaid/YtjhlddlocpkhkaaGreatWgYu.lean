/- Wallet: heldItem. -/
import Derived.Test.YtjhlddlocpkhkaaGreatWgJ13
import Derived.Test.YtjhlddlocpkhkaaGreatWgJ10
namespace Go.Proofs.YtjhlddlocpkhkaaGreat
open Go.RowKit
set_option maxRecDepth 100000
set_option linter.unusedVariables false
set_option maxHeartbeats 8000000
/-- Items of numbers; the items of a credential. -/
def natsI : List ByteArray → Its
  | [] => .nil
  | x :: r => .cons 0 x ⟨#[]⟩ .nil (natsI r)
theorem natsI_len (l : List ByteArray) : (natsI l).len = l.length := by
  induction l with
  | nil => rfl
  | cons x r ih => simp only [natsI, Its.len, ih, List.length_cons]
theorem natsI_size (l : List ByteArray) : (natsI l).size = l.length := by
  induction l with
  | nil => rfl
  | cons x r ih => simp only [natsI, Its.size, ih, List.length_cons]; omega
theorem natsI_app (a b : List ByteArray) : natsI (a ++ b) = (natsI a).app (natsI b) := by
  induction a with
  | nil => rfl
  | cons x r ih => simp only [List.cons_append, natsI, Its.app, ih]
def heldL (x : Hz) : Its := .cons 1 ⟨#[]⟩ x.iss .nil (.cons 1 ⟨#[]⟩ x.sch .nil (.cons 2 ⟨#[]⟩ ⟨#[]⟩ (intIt x.ver) (.cons 2 ⟨#[]⟩ ⟨#[]⟩ (natsI x.att) (.cons 0 x.a ⟨#[]⟩ .nil (.cons 0 x.e ⟨#[]⟩ .nil (.cons 0 x.v ⟨#[]⟩ .nil (.cons 2 ⟨#[]⟩ ⟨#[]⟩ (intIt x.ep) (.cons 0 x.wit ⟨#[]⟩ .nil .nil))))))))
/-- The boxes of heldItem, and the lists that it has made. -/
structure HiB (w : World) (x : Hz) (A : Option Addr) (n c : Nat) (L : List (Option Addr × Its)) (wx : World) : Prop where
  arg : wx.heap[w.heap.size]? = some (.cells #[.string x.iss, .string x.sch, .int .i64 x.ver, .slice A n c, .string x.a, .string x.e, .string x.v, .int .i64 x.ep, .string x.wit] 47 (0, 0))
  res : wx.heap[w.heap.size + 1]? = some (.cells #[.int .i64 0, .string ⟨#[]⟩, .string ⟨#[]⟩, .slice none 0 0] 63 (0, 0))
  cred : wx.heap[w.heap.size + 1 + 1]? = some (.cells #[.string x.iss, .string x.sch, .int .i64 x.ver, .slice A n c, .string x.a, .string x.e, .string x.v] 45 (0, 0))
  mem : ∀ p ∈ L, SlI wx (fun g => w.heap.size + 3 ≤ g ∧ g < wx.heap.size) p.1 p.2
  bel : Below w.heap.size w wx
  size : w.heap.size + 3 ≤ wx.heap.size
section
variable {w wx w' : World} {x : Hz} {A : Option Addr} {n c : Nat} {L : List (Option Addr × Its)}
theorem HiB.next (h : HiB w x A n c L wx) (hb : Below wx.heap.size wx w') : HiB w x A n c L w' :=
  have hz := h.size
  ⟨(hb.block _ (by omega)).trans h.arg, (hb.block _ (by omega)).trans h.res, (hb.block _ (by omega)).trans h.cred, fun p hp => ((h.mem p hp).keep (fun q hq => hb.cell hq.2)).mono (fun g hg => ⟨hg.1, Nat.lt_of_lt_of_le hg.2 hb.size⟩), below2 h.bel hb, Nat.le_trans h.size hb.size⟩
theorem HiB.drew (h : HiB w x A n c L wx) : HiB w x A n c L wx.drew := h.next (Below.refl _ _).drew
theorem HiB.alloc (h : HiB w x A n c L wx) (o : Obj) : HiB w x A n c L (wx.alloc o) := h.next ((Below.refl _ _).alloc (Nat.le_refl _) _)
theorem HiB.add {A' : Option Addr} {l : Its} (h : HiB w x A n c L wx) (hs : SlI w' (fun g => wx.heap.size ≤ g ∧ g < w'.heap.size) A' l) (hb : Below wx.heap.size wx w') : HiB w x A n c ((A', l) :: L) w' :=
  have h' := h.next hb
  ⟨h'.arg, h'.res, h'.cred, fun p hp => by
    rcases List.mem_cons.1 hp with rfl | hp
    · exact hs.mono (fun g hg => ⟨Nat.le_trans h.size hg.1, hg.2⟩)
    · exact h'.mem p hp, h'.bel, h'.size⟩
/-- Memory above the boxes has changed: the lists are told anew. -/
theorem HiB.far {L' : List (Option Addr × Its)} (h : HiB w x A n c L wx) (hb : Below (w.heap.size + 3) wx w') (hm : ∀ p ∈ L', SlI w' (fun g => w.heap.size + 3 ≤ g ∧ g < w'.heap.size) p.1 p.2) : HiB w x A n c L' w' :=
  ⟨(hb.block _ (by omega)).trans h.arg, (hb.block _ (by omega)).trans h.res, (hb.block _ (by omega)).trans h.cred, hm, h.bel.trans (hb.mono (by omega)), Nat.le_trans h.size hb.size⟩
theorem HiB.start : HiB w x A n c [] (((w.alloc (.cells #[.string x.iss, .string x.sch, .int .i64 x.ver, .slice A n c, .string x.a, .string x.e, .string x.v, .int .i64 x.ep, .string x.wit] 47)).alloc (.cells #[.int .i64 0, .string ⟨#[]⟩, .string ⟨#[]⟩, .slice none 0 0] 63)).alloc (.cells #[.string x.iss, .string x.sch, .int .i64 x.ver, .slice A n c, .string x.a, .string x.e, .string x.v] 45)) := by
  have e2 := heap_alloc_new ((w.alloc (.cells #[.string x.iss, .string x.sch, .int .i64 x.ver, .slice A n c, .string x.a, .string x.e, .string x.v, .int .i64 x.ep, .string x.wit] 47)).alloc (.cells #[.int .i64 0, .string ⟨#[]⟩, .string ⟨#[]⟩, .slice none 0 0] 63)) (.cells #[.string x.iss, .string x.sch, .int .i64 x.ver, .slice A n c, .string x.a, .string x.e, .string x.v] 45)
  simp only [World.size_alloc] at e2
  exact ⟨(Below.heap_alloc _ _ _ (by simp only [World.size_alloc]; omega)).trans (two_boxes w _ _).1, (Below.heap_alloc _ _ _ (by simp only [World.size_alloc]; omega)).trans (two_boxes w _ _).2, e2, (fun p hp => absurd hp (by simp)), (((Below.refl _ _).alloc (Nat.le_refl _) _).alloc (by simp) _).alloc (by simp only [World.size_alloc]; omega) _, by simp only [World.size_alloc]; omega⟩
theorem HiB.cc (h : HiB w x A n c L wx) : (wx.cell? ⟨w.heap.size + 1 + 1, 0, none⟩ = some (.string x.iss) ∧ wx.cell? ⟨w.heap.size + 1 + 1, 1, none⟩ = some (.string x.sch) ∧ wx.cell? ⟨w.heap.size + 1 + 1, 2, none⟩ = some (.int .i64 x.ver) ∧ wx.cell? ⟨w.heap.size + 1 + 1, 3, none⟩ = some (.slice A n c) ∧ wx.cell? ⟨w.heap.size + 1 + 1, 4, none⟩ = some (.string x.a) ∧ wx.cell? ⟨w.heap.size + 1 + 1, 5, none⟩ = some (.string x.e) ∧ wx.cell? ⟨w.heap.size + 1 + 1, 6, none⟩ = some (.string x.v)) ∧ wx.cell? ⟨w.heap.size, 7, none⟩ = some (.int .i64 x.ep) ∧ wx.cell? ⟨w.heap.size, 8, none⟩ = some (.string x.wit) :=
  ⟨⟨cell_of_row _ _ 0 _ _ _ h.cred, cell_of_row _ _ 1 _ _ _ h.cred, cell_of_row _ _ 2 _ _ _ h.cred, cell_of_row _ _ 3 _ _ _ h.cred, cell_of_row _ _ 4 _ _ _ h.cred, cell_of_row _ _ 5 _ _ _ h.cred, cell_of_row _ _ 6 _ _ _ h.cred⟩, cell_of_row _ _ 7 _ _ _ h.arg, cell_of_row _ _ 8 _ _ _ h.arg⟩
theorem HiB.rc (h : HiB w x A n c L wx) : (wx.cell? ⟨w.heap.size + 1, 0, none⟩ = some (.int .i64 0) ∧ wx.cell? ⟨w.heap.size + 1, 1, none⟩ = some (.string ⟨#[]⟩) ∧ wx.cell? ⟨w.heap.size + 1, 2, none⟩ = some (.string ⟨#[]⟩) ∧ wx.cell? ⟨w.heap.size + 1, 3, none⟩ = some (.slice none 0 0)) ∧ (wx.frozen? ⟨w.heap.size + 1, 0, none⟩ = false ∧ wx.frozen? ⟨w.heap.size + 1, 1, none⟩ = false ∧ wx.frozen? ⟨w.heap.size + 1, 2, none⟩ = false ∧ wx.frozen? ⟨w.heap.size + 1, 3, none⟩ = false) :=
  ⟨⟨cell_of_row _ _ 0 _ _ _ h.res, cell_of_row _ _ 1 _ _ _ h.res, cell_of_row _ _ 2 _ _ _ h.res, cell_of_row _ _ 3 _ _ _ h.res⟩, frozen_of_row _ _ 0 _ _ h.res, frozen_of_row _ _ 1 _ _ h.res, frozen_of_row _ _ 2 _ _ h.res, frozen_of_row _ _ 3 _ _ h.res⟩
end
/-- The cells of a credential's items. -/
def cellsHi (x : Hz) (A1 : Option Addr) (c1 : Nat) (A2 : Option Addr) (n2 c2 : Nat) (A3 : Option Addr) (c3 : Nat) : List Value :=
  [.int .i64 1, .string ⟨#[]⟩, .string x.iss, .slice none 0 0, .int .i64 1, .string ⟨#[]⟩, .string x.sch, .slice none 0 0, .int .i64 2, .string ⟨#[]⟩, .string ⟨#[]⟩, .slice A1 2 c1, .int .i64 2, .string ⟨#[]⟩, .string ⟨#[]⟩, .slice A2 n2 c2,
   .int .i64 0, .string x.a, .string ⟨#[]⟩, .slice none 0 0, .int .i64 0, .string x.e, .string ⟨#[]⟩, .slice none 0 0, .int .i64 0, .string x.v, .string ⟨#[]⟩, .slice none 0 0, .int .i64 2, .string ⟨#[]⟩, .string ⟨#[]⟩, .slice A3 2 c3, .int .i64 0, .string x.wit, .string ⟨#[]⟩, .slice none 0 0]
theorem held_row {W : World} {S : Nat → Prop} {x : Hz} {A1 A2 A3 : Option Addr} {c1 n2 c2 c3 : Nat} (h1 : SlI W S A1 (intIt x.ver)) (h2 : SlI W S A2 (natsI x.att)) (h3 : SlI W S A3 (intIt x.ep)) (hS : ∀ g, S g → g < W.heap.size) (e2 : (natsI x.att).len = n2) :
    SlI (W.alloc (.cells (cellsHi x A1 c1 A2 n2 c2 A3 c3).toArray 63)) (fun g => S g ∨ g = W.heap.size) (some ⟨W.heap.size, 0, none⟩) (heldL x) := by
  subst e2
  have hal : Below W.heap.size W (W.alloc (.cells (cellsHi x A1 c1 A2 (natsI x.att).len c2 A3 c3).toArray 63)) := (Below.refl _ _).alloc (Nat.le_refl _) _
  obtain ⟨L1, a1, b1⟩ := (h1.below hal hS).mono (S' := fun g => S g ∨ g = W.heap.size) (fun g hg => .inl hg)
  obtain ⟨L2, a2, b2⟩ := (h2.below hal hS).mono (S' := fun g => S g ∨ g = W.heap.size) (fun g hg => .inl hg)
  obtain ⟨L3, a3, b3⟩ := (h3.below hal hS).mono (S' := fun g => S g ∨ g = W.heap.size) (fun g hg => .inl hg)
  have vac : ∀ {V : World} {S' : Nat → Prop}, RowC V S' none (Its.nil).len [] := fun h => absurd h (by simp [Its.len])
  refine ⟨cellsHi x A1 c1 A2 (natsI x.att).len c2 A3 c3, fun _ => ⟨_, 0, rfl, .inr rfl, fun j u hj => ?_⟩, none, 0, [], _, rfl, vac, rfl, none, 0, [], _, rfl, vac, rfl, A1, c1, L1, _, rfl, a1, b1, A2, c2, L2, _, rfl, a2, b2, none, 0, [], _, rfl, vac, rfl, none, 0, [], _, rfl, vac, rfl, none, 0, [], _, rfl, vac, rfl, A3, c3, L3, _, rfl, a3, b3, none, 0, [], _, rfl, vac, rfl, rfl⟩
  rw [Nat.zero_add, cell_of_row _ _ j _ _ _ (heap_alloc_new W _), ← hj]
  simp
theorem wal_heldItem (x : Hz) (A : Option Addr) (n c : Nat) (S : Nat → Prop) (w : World) (hn : x.att.length = n) (hm : n ≤ 1000) (hv : -9223372036854775808 ≤ x.ver ∧ x.ver ≤ 9223372036854775807) (he : -9223372036854775808 ≤ x.ep ∧ x.ep ≤ 9223372036854775807) (h : RowC w S A n (cellsN x.att)) (hS : ∀ g, S g → g < w.heap.size) :
    Calls Tryz.prog 79 #[valH x A n c] w (ItOut (2, ⟨#[]⟩, ⟨#[]⟩, heldL x) w) := by
  unfold valH
  have HT := Lib.hid (fun x W => enc_Text x W)
  have HN := Lib.hid (fun x W => enc_Nat x W)
  have HWV := Lib.hid (fun W => wal_whole2 x.ver W hv)
  have HWE := Lib.hid (fun W => wal_whole2 x.ep W he)
  have HB0 := Lib.hid (HiB.start (w := w) (x := x) (A := A) (n := n) (c := c))
  have HROW := Lib.hid (fun W (hb : Below w.heap.size w W) => h.keep (w' := W) (fun p hp => hb.cell (hS _ hp)))
  have HNL := Lib.hid hn
  have HM := Lib.hid hm
  clear h hS hv he hn
  go_enter Tryz.func79, Tryz.ntmps79
  go_wp2_with fail
  obtain ⟨W0, hW0⟩ : ∃ W0, (((w.alloc (.cells #[.string x.iss, .string x.sch, .int .i64 x.ver, .slice A n c, .string x.a, .string x.e, .string x.v, .int .i64 x.ep, .string x.wit] 47)).alloc (.cells #[.int .i64 0, .string ⟨#[]⟩, .string ⟨#[]⟩, .slice none 0 0] 63)).alloc (.cells #[.string x.iss, .string x.sch, .int .i64 x.ver, .slice A n c, .string x.a, .string x.e, .string x.v] 45)) = W0 := ⟨_, rfl⟩
  rw [hW0] at HB0 ⊢
  clear hW0
  obtain ⟨⟨t0, t1, t2, t3, t4, t5, t6⟩, t7, t8⟩ := HB0.out.cc
  go_loopw [4, 12] (fun v4 v12 wr => ∃ (k : Nat) (A2 : Option Addr) (n2 c2 : Nat), k ≤ n ∧ v4 = .slice A2 n2 c2 ∧ v12 = .int .i64 k ∧ OwnI wr (w.heap.size + 3) (.slice A2 n2 c2) (natsI (x.att.take k)) ∧ HiB w x A n c [] wr) (fun _ v12 _ => n - (intOf v12).toNat)
  case atStart => exact ⟨0, none, 0, 0, Nat.zero_le _, rfl, rfl, OwnI.nil_ _ _, HB0.out⟩
  case round =>
    obtain ⟨k, A2, n2, c2, hk, rfl, rfl, hown, hbx⟩ := hrel
    have HO := Lib.hid hown
    have HB := Lib.hid hbx
    clear hown hbx HB0 t0 t1 t2 t3 t4 t5 t6 t7 t8
    by_cases hlt : k < n
    · obtain ⟨g, off, rfl, hsg, hcell⟩ := HROW.out wr HB.out.bel (by omega)
      obtain ⟨y, hy⟩ : ∃ y, x.att[k]? = some y := ⟨x.att[k]'(by rw [HNL.out]; exact hlt), List.getElem?_eq_getElem _⟩
      have c0 := hcell k (.string y) (by unfold cellsN; rw [List.getElem?_map, hy]; rfl)
      have hil : (k : Int) < (n : Int) := by omega
      have HY := Lib.hid (And.intro hy hlt)
      have HTL : Hid ((natsI (x.att.take k)).len ≤ 100000) := Lib.hid (by rw [natsI_len, List.length_take]; omega)
      clear hy hlt hcell hsg
      go_wp2_with (first
        | (go_at_call 112; (with_reducible refine (HN.out _ _).mono ?_); rintro e w5 ⟨rfl, hb5⟩; have HB5 := Lib.hid ((HB.out.next hb5).alloc (.cells #[.int .i64 0, .string y, .string ⟨#[]⟩, .slice none 0 0] 63)); have HO5 := Lib.hid ((HO.out.kept hb5).kept (w' := w5.alloc (.cells #[.int .i64 0, .string y, .string ⟨#[]⟩, .slice none 0 0] 63)) ((Below.refl _ _).alloc (Nat.le_refl _) _)); have HK5 := Lib.hid (heap_alloc_new w5 (.cells #[.int .i64 0, .string y, .string ⟨#[]⟩, .slice none 0 0] 63)); clear hb5)
        | (at_builtin; refine wpList_append_I rfl _ _ rfl (w.heap.size + 3) (.slice A2 n2 c2) (natsI (x.att.take k)) rfl HO5.out (0, y, ⟨#[]⟩, .nil) none 0 w5.heap.size _ rfl HK5.out SlI.nil_ HTL.out HB5.out.size ?_; intro v6 w6 hown6 hb6; obtain ⟨A6, c6, rfl, _⟩ := hown6.form; have HO6 := Lib.hid hown6; have HB6 := Lib.hid (HB5.out.far (L' := []) hb6 (fun p hp => absurd hp (by simp))); clear hown6 hb6))
      go_roundw
      case rel =>
        refine ⟨k + 1, A6, _, c6, HY.out.2, rfl, by go_num, ?_, HB6.out⟩
        have h1 := HO6.out
        have h2 : natsI (x.att.take (k + 1)) = (natsI (x.att.take k)).app (Its.one (0, y, ⟨#[]⟩, .nil)) := by
          rw [List.take_add_one, HY.out.1, natsI_app]
          rfl
        rw [h2]
        exact h1
      case measure => have := HY.out.2; simp only [intOf]; omega
    · obtain rfl : n = k := by omega
      have hown := HO.out
      rw [List.take_of_length_le (by rw [HNL.out]; exact Nat.le_refl _)] at hown
      obtain ⟨A9, c9, e9, hs9⟩ := hown.form
      injection e9 with e1 e2 e3
      subst e1 e3
      have HS2 := Lib.hid hs9
      have HE2 : Hid ((natsI x.att).len = n2) := Lib.hid e2.symm
      have hb1 : HiB w x A n c [(A2, natsI x.att)] wr := HB.out.far (Below.refl _ _) (fun p hp => by rw [List.mem_singleton.1 hp]; exact hs9)
      have HB1 := Lib.hid hb1
      clear hown hs9 e2 hb1 HO HB
      have HCC : Hid (∀ L W, HiB w x A n c L W → W.cell? ⟨w.heap.size + 1 + 1, 0, none⟩ = some (.string x.iss) ∧ W.cell? ⟨w.heap.size + 1 + 1, 1, none⟩ = some (.string x.sch) ∧ W.cell? ⟨w.heap.size + 1 + 1, 2, none⟩ = some (.int .i64 x.ver) ∧ W.cell? ⟨w.heap.size + 1 + 1, 4, none⟩ = some (.string x.a) ∧ W.cell? ⟨w.heap.size + 1 + 1, 5, none⟩ = some (.string x.e) ∧ W.cell? ⟨w.heap.size + 1 + 1, 6, none⟩ = some (.string x.v) ∧ W.cell? ⟨w.heap.size, 7, none⟩ = some (.int .i64 x.ep) ∧ W.cell? ⟨w.heap.size, 8, none⟩ = some (.string x.wit)) := Lib.hid (fun L W h => by
        obtain ⟨⟨t0, t1, t2, t3, t4, t5, t6⟩, t7, t8⟩ := h.cc
        exact ⟨t0, t1, t2, t4, t5, t6, t7, t8⟩)
      have HL1 := Lib.hid (fun W L (h : HiB w x A n c L W) (hm : (A2, natsI x.att) ∈ L) => (enc_List (natsI x.att) A2 c2 _ W (by rw [natsI_size, HNL.out]; have := HM.out; omega) (h.mem _ hm) (fun g hg => hg.2)).mono (R' := fun e w' => ∃ A c, e = .returned (.agg #[.int .i64 2, .string ⟨#[]⟩, .string ⟨#[]⟩, .slice A n2 c]) ∧ SlI w' (fun g => W.heap.size ≤ g ∧ g < w'.heap.size) A (natsI x.att) ∧ Below W.heap.size W w') (by rintro e w' ⟨A', c', he, h1, h2⟩; exact ⟨A', c', by rw [he, ← HE2.out], h1, h2⟩))
      rw [HE2.out] at HL1
      have HL2 := Lib.hid (fun W L (h : HiB w x A n c L W) (A1 : Option Addr) (c1 : Nat) (A2 : Option Addr) (c2 : Nat) (A3 : Option Addr) (c3 : Nat) (m1 : (A1, intIt x.ver) ∈ L) (m2 : (A2, natsI x.att) ∈ L) (m3 : (A3, intIt x.ep) ∈ L) => (enc_List (heldL x) (some ⟨W.heap.size, 0, none⟩) 9 _ (W.alloc (.cells (cellsHi x A1 c1 A2 n2 c2 A3 c3).toArray 63)) (by unfold heldL intIt; simp only [Its.size, natsI_size]; rw [HNL.out]; have := HM.out; omega) (held_row (h.mem _ m1) (h.mem _ m2) (h.mem _ m3) (fun g hg => hg.2) HE2.out) (fun g hg => by { rcases hg with hg | hg; { have := hg.2; simp; omega }; { rw [hg]; simp } })).mono (R' := fun e w' => ∃ A c, e = .returned (.agg #[.int .i64 2, .string ⟨#[]⟩, .string ⟨#[]⟩, .slice A 9 c]) ∧ SlI w' (fun g => W.heap.size ≤ g ∧ g < w'.heap.size) A (heldL x) ∧ Below W.heap.size W w') (by rintro e w' ⟨A', c', he, h1, h2⟩; exact ⟨A', c', he, h1.mono (fun g hg => ⟨by have := hg.1; simp at this; omega, hg.2⟩), ((Below.refl _ _).alloc (Nat.le_refl _) _).trans (h2.mono (by simp))⟩))
      have hl9 : (heldL x).len = 9 := rfl
      rw [hl9] at HL2
      clear hl9
      simp only [cellsHi] at HL2
      have H0 := HB1
      obtain ⟨k0, k1, k2, k4, k5, k6, k7, k8⟩ := HCC.out _ _ HB1.out
      go_upto_region 8 with fail
      go_region_held3 (fun w' => w'.cell? ⟨w.heap.size + 1 + 1, 0, none⟩ = some (.string x.iss) ∧ w'.cell? ⟨w.heap.size + 1 + 1, 1, none⟩ = some (.string x.sch) ∧ w'.cell? ⟨w.heap.size + 1 + 1, 2, none⟩ = some (.int .i64 x.ver) ∧ w'.cell? ⟨w.heap.size + 1 + 1, 4, none⟩ = some (.string x.a) ∧ w'.cell? ⟨w.heap.size + 1 + 1, 5, none⟩ = some (.string x.e) ∧ w'.cell? ⟨w.heap.size + 1 + 1, 6, none⟩ = some (.string x.v) ∧ w'.cell? ⟨w.heap.size, 7, none⟩ = some (.int .i64 x.ep) ∧ w'.cell? ⟨w.heap.size, 8, none⟩ = some (.string x.wit)) (first | exact HCC.out _ _ H9.out | exact HCC.out _ _ H9.out.drew | exact HCC.out _ _ H0.out | exact HCC.out _ _ H0.out.drew | exact HCC.out _ _ (H0.out.alloc _) | exact HCC.out _ _ (H0.out.drew.alloc _) | go_keep) (first
        | (go_at_call 78; (with_reducible refine (HT.out _ _).mono ?_); rintro e w1 ⟨rfl, hb1⟩; have n1 := (by first | exact H0.out.next hb1 | exact H0.out.drew.next hb1 : HiB w x A n c _ w1); replace H0 := Lib.hid n1; have q0 := (HCC.out _ _ n1).1; have q1 := (HCC.out _ _ n1).2.1; have q2 := (HCC.out _ _ n1).2.2.1; have q3 := (HCC.out _ _ n1).2.2.2.1; have q4 := (HCC.out _ _ n1).2.2.2.2.1; have q5 := (HCC.out _ _ n1).2.2.2.2.2.1; have q6 := (HCC.out _ _ n1).2.2.2.2.2.2.1; have q7 := (HCC.out _ _ n1).2.2.2.2.2.2.2; clear n1)
        | (go_at_call 112; (with_reducible refine (HN.out _ _).mono ?_); rintro e w1 ⟨rfl, hb1⟩; have n1 := (by first | exact H0.out.next hb1 | exact H0.out.drew.next hb1 : HiB w x A n c _ w1); replace H0 := Lib.hid n1; have q0 := (HCC.out _ _ n1).1; have q1 := (HCC.out _ _ n1).2.1; have q2 := (HCC.out _ _ n1).2.2.1; have q3 := (HCC.out _ _ n1).2.2.2.1; have q4 := (HCC.out _ _ n1).2.2.2.2.1; have q5 := (HCC.out _ _ n1).2.2.2.2.2.1; have q6 := (HCC.out _ _ n1).2.2.2.2.2.2.1; have q7 := (HCC.out _ _ n1).2.2.2.2.2.2.2; clear n1)
        | (go_at_call 80; (with_reducible refine (HWV.out _).mono ?_); rintro e w1 ⟨A5, c5, rfl, hsl1, hb1⟩; have n1 := (by first | exact H0.out.add hsl1 hb1 | exact H0.out.drew.add hsl1 hb1 : HiB w x A n c _ w1); replace H0 := Lib.hid n1; have q0 := (HCC.out _ _ n1).1; have q1 := (HCC.out _ _ n1).2.1; have q2 := (HCC.out _ _ n1).2.2.1; have q3 := (HCC.out _ _ n1).2.2.2.1; have q4 := (HCC.out _ _ n1).2.2.2.2.1; have q5 := (HCC.out _ _ n1).2.2.2.2.2.1; have q6 := (HCC.out _ _ n1).2.2.2.2.2.2.1; have q7 := (HCC.out _ _ n1).2.2.2.2.2.2.2; clear n1)
        | (go_at_call 80; (with_reducible refine (HWE.out _).mono ?_); rintro e w1 ⟨A7, c7, rfl, hsl1, hb1⟩; have n1 := (by first | exact H0.out.add hsl1 hb1 | exact H0.out.drew.add hsl1 hb1 : HiB w x A n c _ w1); replace H0 := Lib.hid n1; have q0 := (HCC.out _ _ n1).1; have q1 := (HCC.out _ _ n1).2.1; have q2 := (HCC.out _ _ n1).2.2.1; have q3 := (HCC.out _ _ n1).2.2.2.1; have q4 := (HCC.out _ _ n1).2.2.2.2.1; have q5 := (HCC.out _ _ n1).2.2.2.2.2.1; have q6 := (HCC.out _ _ n1).2.2.2.2.2.2.1; have q7 := (HCC.out _ _ n1).2.2.2.2.2.2.2; clear n1)
        | (go_at_call 113; (first | (with_reducible refine (HL1.out _ _ H0.out (by simp)).mono ?_) | (with_reducible refine (HL1.out _ _ H0.out.drew (by simp)).mono ?_)); rintro e w1 ⟨A6, c6, rfl, hsl1, hb1⟩; have n1 := (by first | exact H0.out.add hsl1 hb1 | exact H0.out.drew.add hsl1 hb1 : HiB w x A n c _ w1); replace H0 := Lib.hid n1; have q0 := (HCC.out _ _ n1).1; have q1 := (HCC.out _ _ n1).2.1; have q2 := (HCC.out _ _ n1).2.2.1; have q3 := (HCC.out _ _ n1).2.2.2.1; have q4 := (HCC.out _ _ n1).2.2.2.2.1; have q5 := (HCC.out _ _ n1).2.2.2.2.2.1; have q6 := (HCC.out _ _ n1).2.2.2.2.2.2.1; have q7 := (HCC.out _ _ n1).2.2.2.2.2.2.2; clear n1)
        | (go_at_call 113; (first | (with_reducible refine (HL2.out _ _ H0.out A5 c5 A6 c6 A7 c7 (by simp) (by simp) (by simp)).mono ?_) | (with_reducible refine (HL2.out _ _ H0.out.drew A5 c5 A6 c6 A7 c7 (by simp) (by simp) (by simp)).mono ?_)); rintro e w9 ⟨A8, c8, rfl, hsl9, hb9⟩; have n9 := (by first | exact H0.out.next hb9 | exact H0.out.drew.next hb9 : HiB w x A n c _ w9); obtain ⟨⟨r0, r1, r2, r3⟩, g0, g1, g2, g3⟩ := n9.rc; have H9 := Lib.hid n9; have HS9 := Lib.hid hsl9; clear n9 hsl9 hb9))
      all_goals
        go_wp2_with fail
        have hz9 := H9.out.size
        have hres : Below w.heap.size w ((((w9.setCell ⟨w.heap.size + 1, 0, none⟩ (.int .i64 2)).setCell ⟨w.heap.size + 1, 1, none⟩ (.string ⟨#[]⟩)).setCell ⟨w.heap.size + 1, 2, none⟩ (.string ⟨#[]⟩)).setCell ⟨w.heap.size + 1, 3, none⟩ (.slice A8 9 c8)) := (((H9.out.bel.setCell (p := ⟨w.heap.size + 1, 0, none⟩) (Nat.le_succ _) _).setCell (p := ⟨w.heap.size + 1, 1, none⟩) (Nat.le_succ _) _).setCell (p := ⟨w.heap.size + 1, 2, none⟩) (Nat.le_succ _) _).setCell (p := ⟨w.heap.size + 1, 3, none⟩) (Nat.le_succ _) _
        have hsl : SlI ((((w9.setCell ⟨w.heap.size + 1, 0, none⟩ (.int .i64 2)).setCell ⟨w.heap.size + 1, 1, none⟩ (.string ⟨#[]⟩)).setCell ⟨w.heap.size + 1, 2, none⟩ (.string ⟨#[]⟩)).setCell ⟨w.heap.size + 1, 3, none⟩ (.slice A8 9 c8)) (fun g => w.heap.size ≤ g ∧ g < w9.heap.size) A8 (heldL x) := ((HS9.out.mono (S' := fun g => w.heap.size + 2 ≤ g ∧ g < w9.heap.size) (fun g hg => ⟨by have := hg.1; have := H0.out.size; first | omega | (simp at this; omega), hg.2⟩)).keep (fun p hp => by
          have h1 := hp.1
          have hcell : ∀ (W : World) (i : Nat) (u : Value), (W.setCell ⟨w.heap.size + 1, i, none⟩ u).cell? p = W.cell? p := fun W i u => World.cell?_setCell_other _ _ _ _ (fun e => by have := congrArg Addr.block e; simp at this; omega)
          rw [hcell, hcell, hcell, hcell])).mono (fun g hg => ⟨by have := hg.1; omega, hg.2⟩)
        refine bodyPost_ret (v := .agg #[.int .i64 2, .string ⟨#[]⟩, .string ⟨#[]⟩, .slice A8 9 c8]) (by simp [results, Tryz.results79, go_sem, r0, r1, r2, r3]) rfl ?_
        first
        | exact ⟨A8, c8, rfl, hsl.mono (fun g hg => ⟨hg.1, by simpa using hg.2⟩), hres⟩
        | exact ⟨A8, c8, rfl, hsl.drew.mono (fun g hg => ⟨hg.1, by show g < (World.setCell _ _ _).heap.size; simpa using hg.2⟩), hres.drew⟩
end Go.Proofs.YtjhlddlocpkhkaaGreat
