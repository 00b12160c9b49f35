/- Encoding: Read, Decode where they read. -/
import Derived.Test.YtlheedcnmfekoaaYc
import Derived.Defers
import Derived.Recover
import Derived.Laws.Panics
import Derived.Lib.ByteType
namespace Go.Proofs.Ytlheedcnmfekoaa
open Go.RowKit
set_option maxRecDepth 100000
set_option linter.unusedVariables false
set_option maxHeartbeats 8000000

theorem read_idle (p q r : Option Addr) (w : World) :
    CallsD Try.prog 77 #[.pointer p, .pointer q, .pointer r] .returning w fun e u' w' => e = .returned (.tuple #[]) ∧ u' = .returning ∧ w' = w := by
  have hnn : ∀ w, (binOp .neq 20 .nilIface .nilIface).run Try.prog w = .ok (.bool false) w := fun w => Lib.run_neq_nil_nil w Try.underlying20
  refine callsD_of_wpS Try.func77 rfl fun c₀ cs hu => ?_
  apply wpS_seq
  apply wpS_region
  simp [wpOpsS, go_sem, recoverD, hu, Try.ntmps77, Exit.thenS]
  apply wpS_seq
  apply wpS_region
  simp [wpOpsS, go_sem, recoverD, hu, hnn, Exit.thenS]
  refine wpS_cond (t := false) (by simp [Act.eval, Array.replicate]) ?_
  simp only [Bool.false_eq_true, if_false]
  refine wpS_of_wp (wp_skip ?_)
  cases c₀
  simp_all [bodyPostS, results, Try.results77]

/-- What Read holds: its three results' boxes and the reader. -/
structure RdAt (w : World) (s : ByteArray) (a : Nat) (k : Int) (n t : ByteArray) (A : Option Addr) (ln c : Nat) (wx : World) : Prop where
  rd : RdB s a (w.heap.size + 1 + 1 + 1) wx
  it : wx.heap[w.heap.size]? = some (.cells #[.int .i64 k, .string n, .string t, .slice A ln c] 69 (0, 0))
  num : wx.heap[w.heap.size + 1]? = some (.cells #[.int .i64 0] 3 (0, 0))
  err : wx.heap[w.heap.size + 1 + 1]? = some (.cells #[.int .i64 0] 30 (0, 0))
  bel : Below w.heap.size w wx
  size : w.heap.size + 4 ≤ wx.heap.size
section
variable {w wx w' : World} {s : ByteArray} {a : Nat} {k : Int} {n t : ByteArray} {A : Option Addr} {ln c : Nat}
theorem RdAt.start : RdAt w s 0 0 ⟨#[]⟩ ⟨#[]⟩ none 0 0 ((((w.alloc (.cells #[.int .i64 0, .string ⟨#[]⟩, .string ⟨#[]⟩, .slice none 0 0] 69)).alloc (.cells #[.int .i64 0] 3)).alloc (.cells #[.int .i64 0] 30)).alloc (.cells #[.string s, .int .i64 0] 132)) := by
  have e0 := heap_alloc_new w (.cells #[.int .i64 0, .string ⟨#[]⟩, .string ⟨#[]⟩, .slice none 0 0] 69)
  have e1 := heap_alloc_new (w.alloc (.cells #[.int .i64 0, .string ⟨#[]⟩, .string ⟨#[]⟩, .slice none 0 0] 69)) (.cells #[.int .i64 0] 3)
  have e2 := heap_alloc_new ((w.alloc (.cells #[.int .i64 0, .string ⟨#[]⟩, .string ⟨#[]⟩, .slice none 0 0] 69)).alloc (.cells #[.int .i64 0] 3)) (.cells #[.int .i64 0] 30)
  have e3 := heap_alloc_new (((w.alloc (.cells #[.int .i64 0, .string ⟨#[]⟩, .string ⟨#[]⟩, .slice none 0 0] 69)).alloc (.cells #[.int .i64 0] 3)).alloc (.cells #[.int .i64 0] 30)) (.cells #[.string s, .int .i64 0] 132)
  simp only [World.size_alloc] at e1 e2 e3
  refine ⟨e3, ?_, ?_, ?_, (((((Below.refl _ _).alloc (Nat.le_refl _) _).alloc (by simp) _).alloc (by simp only [World.size_alloc]; omega) _).alloc (by simp only [World.size_alloc]; omega) _), by simp only [World.size_alloc]; omega⟩
  · exact (Below.heap_alloc _ _ _ (by simp only [World.size_alloc]; omega)).trans ((Below.heap_alloc _ _ _ (by simp only [World.size_alloc]; omega)).trans ((Below.heap_alloc _ _ _ (by simp only [World.size_alloc]; omega)).trans e0))
  · exact (Below.heap_alloc _ _ _ (by simp only [World.size_alloc]; omega)).trans ((Below.heap_alloc _ _ _ (by simp only [World.size_alloc]; omega)).trans e1)
  · exact (Below.heap_alloc _ _ _ (by simp only [World.size_alloc]; omega)).trans e2
theorem RdAt.read (h : RdAt w s a k n t A ln c wx) {a' : Nat} (hr : RdB s a' (w.heap.size + 1 + 1 + 1) w') (hg : wx.grownBy w' (some (w.heap.size + 1 + 1 + 1))) : RdAt w s a' k n t A ln c w' :=
  have hz := h.size
  ⟨hr, (hg.block _ (by omega) (fun e => by injection e; omega)).trans h.it, (hg.block _ (by omega) (fun e => by injection e; omega)).trans h.num, (hg.block _ (by omega) (fun e => by injection e; omega)).trans h.err,
    h.bel.trans (below_grown hg (by omega) (fun g hg => by injection hg; omega)), Nat.le_trans h.size hg.size⟩
theorem RdAt.put {k' : Int} {n' t' : ByteArray} {A' : Option Addr} {ln' c' : Nat} (h : RdAt w s a k n t A ln c wx) :
    RdAt w s a k' n' t' A' ln' c' ((((wx.setCell ⟨w.heap.size, 0, none⟩ (.int .i64 k')).setCell ⟨w.heap.size, 1, none⟩ (.string n')).setCell ⟨w.heap.size, 2, none⟩ (.string t')).setCell ⟨w.heap.size, 3, none⟩ (.slice A' ln' c')) := by
  have o : ∀ g, g ≠ w.heap.size → ((((wx.setCell ⟨w.heap.size, 0, none⟩ (.int .i64 k')).setCell ⟨w.heap.size, 1, none⟩ (.string n')).setCell ⟨w.heap.size, 2, none⟩ (.string t')).setCell ⟨w.heap.size, 3, none⟩ (.slice A' ln' c')).heap[g]? = wx.heap[g]? := fun g hg => by
    rw [heap_setCell_other _ _ _ _ hg, heap_setCell_other _ _ _ _ hg, heap_setCell_other _ _ _ _ hg, heap_setCell_other _ _ _ _ hg]
  refine ⟨(o _ (by omega)).trans h.rd, ?_, (o _ (by omega)).trans h.num, (o _ (by omega)).trans h.err, (((h.bel.setCell (p := ⟨w.heap.size, 0, none⟩) (Nat.le_refl _) _).setCell (p := ⟨w.heap.size, 1, none⟩) (Nat.le_refl _) _).setCell (p := ⟨w.heap.size, 2, none⟩) (Nat.le_refl _) _).setCell (p := ⟨w.heap.size, 3, none⟩) (Nat.le_refl _) _, by simpa using h.size⟩
  have e0 := heap_setCell_same wx w.heap.size 0 _ _ (.int .i64 k') h.it
  have e1 := heap_setCell_same _ w.heap.size 1 _ _ (.string n') e0
  have e2 := heap_setCell_same _ w.heap.size 2 _ _ (.string t') e1
  have e3 := heap_setCell_same _ w.heap.size 3 _ _ (.slice A' ln' c') e2
  exact e3
theorem RdAt.cells (h : RdAt w s a k n t A ln c wx) : ((wx.cell? ⟨w.heap.size + 1 + 1 + 1, 0, none⟩ = some (.string s) ∧ wx.cell? ⟨w.heap.size + 1 + 1 + 1, 1, none⟩ = some (.int .i64 (a : Int)))) ∧
    (wx.cell? ⟨w.heap.size, 0, none⟩ = some (.int .i64 k) ∧ wx.cell? ⟨w.heap.size, 1, none⟩ = some (.string n) ∧ wx.cell? ⟨w.heap.size, 2, none⟩ = some (.string t) ∧ wx.cell? ⟨w.heap.size, 3, none⟩ = some (.slice A ln c)) ∧
    (wx.frozen? ⟨w.heap.size, 0, none⟩ = false ∧ wx.frozen? ⟨w.heap.size, 1, none⟩ = false ∧ wx.frozen? ⟨w.heap.size, 2, none⟩ = false ∧ wx.frozen? ⟨w.heap.size, 3, none⟩ = false) ∧
    (wx.cell? ⟨w.heap.size + 1, 0, none⟩ = some (.int .i64 0) ∧ wx.frozen? ⟨w.heap.size + 1, 0, none⟩ = false) ∧ (wx.cell? ⟨w.heap.size + 1 + 1, 0, none⟩ = some (.int .i64 0) ∧ wx.frozen? ⟨w.heap.size + 1 + 1, 0, none⟩ = false) :=
  ⟨h.rd.cells.1, ⟨cell_of_row wx _ 0 _ _ _ h.it, cell_of_row wx _ 1 _ _ _ h.it, cell_of_row wx _ 2 _ _ _ h.it, cell_of_row wx _ 3 _ _ _ h.it⟩, ⟨frozen_of_row wx _ 0 _ _ h.it, frozen_of_row wx _ 1 _ _ h.it, frozen_of_row wx _ 2 _ _ h.it, frozen_of_row wx _ 3 _ _ h.it⟩, ⟨cell_of_row wx _ 0 _ _ _ h.num, frozen_of_row wx _ 0 _ _ h.num⟩, ⟨cell_of_row wx _ 0 _ _ _ h.err, frozen_of_row wx _ 0 _ _ h.err⟩⟩
end
section
variable {w wx : World} {s : ByteArray} {a : Nat} {k : Int} {n t : ByteArray} {A : Option Addr} {ln c : Nat}
theorem RdAt.fin (h : RdAt w s a k n t A ln c wx) (z : Int) {W : World} (hW : ((wx.setCell ⟨w.heap.size + 1, 0, none⟩ (.int .i64 z)).setCell ⟨w.heap.size + 1 + 1, 0, none⟩ (.int .i64 0)).drew = W) :
    (W.cell? ⟨w.heap.size, 0, none⟩ = some (.int .i64 k) ∧ W.cell? ⟨w.heap.size, 1, none⟩ = some (.string n) ∧ W.cell? ⟨w.heap.size, 2, none⟩ = some (.string t) ∧ W.cell? ⟨w.heap.size, 3, none⟩ = some (.slice A ln c)) ∧ W.cell? ⟨w.heap.size + 1, 0, none⟩ = some (.int .i64 z) ∧ W.cell? ⟨w.heap.size + 1 + 1, 0, none⟩ = some (.int .i64 0) ∧ Below w.heap.size w W ∧ W.heap.size = wx.heap.size ∧ (∀ p : Addr, w.heap.size + 4 ≤ p.block → W.cell? p = wx.cell? p) := by
  subst hW
  have o : ∀ g, g ≠ w.heap.size + 1 → g ≠ w.heap.size + 1 + 1 → ((wx.setCell ⟨w.heap.size + 1, 0, none⟩ (.int .i64 z)).setCell ⟨w.heap.size + 1 + 1, 0, none⟩ (.int .i64 0)).heap[g]? = wx.heap[g]? := fun g h1 h2 => by
    rw [heap_setCell_other _ _ _ _ h2, heap_setCell_other _ _ _ _ h1]
  have hit := (o w.heap.size (by omega) (by omega)).trans h.it
  have hn := (heap_setCell_other _ ⟨w.heap.size + 1 + 1, 0, none⟩ _ (.int .i64 0) (show w.heap.size + 1 ≠ w.heap.size + 1 + 1 by omega)).trans (heap_setCell_same wx (w.heap.size + 1) 0 _ _ (.int .i64 z) h.num)
  have he := heap_setCell_same (wx.setCell ⟨w.heap.size + 1, 0, none⟩ (.int .i64 z)) (w.heap.size + 1 + 1) 0 _ _ (.int .i64 0) ((heap_setCell_other _ _ _ _ (show w.heap.size + 1 + 1 ≠ w.heap.size + 1 by omega)).trans h.err)
  refine ⟨⟨cell_of_row _ _ 0 _ _ _ hit, cell_of_row _ _ 1 _ _ _ hit, cell_of_row _ _ 2 _ _ _ hit, cell_of_row _ _ 3 _ _ _ hit⟩, cell_of_row _ _ 0 _ _ _ hn, cell_of_row _ _ 0 _ _ _ he, ((h.bel.setCell (p := ⟨w.heap.size + 1, 0, none⟩) (Nat.le_succ _) _).setCell (p := ⟨w.heap.size + 1 + 1, 0, none⟩) (Nat.le_add_right _ 2) _).drew, ?_, fun p hp => World.cell?_of_block (o _ (by omega) (by omega))⟩
  show ((wx.setCell ⟨w.heap.size + 1, 0, none⟩ (.int .i64 z)).setCell ⟨w.heap.size + 1 + 1, 0, none⟩ (.int .i64 0)).heap.size = _
  simp
end
/-- A post that is False off the straight way. -/
def onlyM (Q : Exit → Act → World → Prop) : Exit → Act → World → Prop
  | .normal, a, w => Q .normal a w
  | _, _, _ => False
theorem only_m {P : Program} {c : Code} {Q : Exit → Act → World → Prop} {a : Act} {w : World} (h : c.wp P (onlyM Q) a w) : c.wp P Q a w := by
  refine wp_mono h ?_
  rintro e a w h
  cases e <;> first | exact h | exact h.elim
/-- What Read hands back. -/
def ReadGot (w : World) (s : ByteArray) (y : Its.One) (r : List UInt8) (o : Ending) (w' : World) : Prop :=
  ∃ A c a3, o = .returned (.tuple #[.agg #[.int .i64 y.1, .string y.2.1, .string y.2.2.1, .slice A y.2.2.2.len c], .int .i64 ((a3 : Nat) : Int), .int .i64 0]) ∧ r = seg s a3 s.size ∧ a3 ≤ s.size ∧ y.2.2.2.len ≤ c ∧ SlK w' (fun g => w.heap.size ≤ g ∧ g < w'.heap.size) A y.2.2.2 ∧ Below w.heap.size w w'
theorem enc_Read (s : ByteArray) (y : Its.One) (r : List UInt8) (w : World) (hs : s.size ≤ 65536) (h : rdO 0 s.data.toList = .ok (y, r)) :
    Calls Try.prog 49 #[.string s] w (ReadGot w s y r) := by
  have hmf : ∀ (fn : Fn) (first cap : Array Value) (w : World), (Instr.makeFunc fn first cap).run Try.prog w = .ok (.func fn first cap) w := fun _ _ _ _ => rfl
  have HI := Lib.hid (fun W (hr : RdB s 0 (w.heap.size + 1 + 1 + 1) W) => enc_item s.size s 0 s.size 0 (w.heap.size + 1 + 1 + 1) y r W (by omega) (Nat.le_refl _) hs (by omega) (by rw [seg_all]; exact h) hr)
  rw [show ((0 : Nat) : Int) = 0 from rfl] at HI
  have HS := Lib.hid (RdAt.start (w := w) (s := s))
  have d1 : decide ((65536 : Int) < (s.size : Int)) = false := decide_eq_false (by omega)
  have d2 : decide (65536 < s.size) = false := decide_eq_false (by omega)
  clear h
  go_enter_defers Try.func49, Try.ntmps49
  go_upto_region 5 with fail
  obtain ⟨w4, hw4⟩ : ∃ w4, ((((w.alloc (.cells #[.int .i64 0, .string ⟨#[]⟩, .string ⟨#[]⟩, .slice none 0 0] 69)).alloc (.cells #[.int .i64 0] 3)).alloc (.cells #[.int .i64 0] 30)).alloc (.cells #[.string s, .int .i64 0] 132)) = w4 := ⟨_, rfl⟩
  rw [hw4] at HS ⊢
  clear hw4
  obtain ⟨yk, yn, yt, yl⟩ := y
  obtain ⟨⟨c0, c1⟩, ⟨t0, t1, t2, t3⟩, ⟨g0, g1, g2, g3⟩, ⟨n0, n1⟩, e0, e1⟩ := HS.out.cells
  go_upto_region 6 with (go_at_call 78; (with_reducible refine (HI.out _ HS.out.rd).mono ?_); rintro o w5 ⟨A5, c5, a3, rfl, hr5, ha5, hc5, hsl5, hrb5, hg5⟩; dsimp only at hsl5 hc5; have HR5 := Lib.hid (HS.out.read hrb5 hg5); have HSL := Lib.hid hsl5; have HP := Lib.hid (And.intro hr5 (And.intro ha5 hc5)); obtain ⟨⟨c0, c1⟩, ⟨t0, t1, t2, t3⟩, ⟨g0, g1, g2, g3⟩, ⟨n0, n1⟩, e0, e1⟩ := HR5.out.cells; clear hsl5 hr5 ha5 hc5 hrb5 hg5)
  have HR6 := Lib.hid (HR5.out.put (k' := yk) (n' := yn) (t' := yt) (A' := A5) (ln' := yl.len) (c' := c5))
  clear c0 c1 t0 t1 t2 t3 g0 g1 g2 g3 n0 n1 e0 e1
  have HS6 : Hid (SlK ((((w5.setCell ⟨w.heap.size, 0, none⟩ (.int .i64 yk)).setCell ⟨w.heap.size, 1, none⟩ (.string yn)).setCell ⟨w.heap.size, 2, none⟩ (.string yt)).setCell ⟨w.heap.size, 3, none⟩ (.slice A5 yl.len c5)) (fun g => w.heap.size + 4 ≤ g ∧ g < w5.heap.size) A5 yl) := Lib.hid ((HSL.out.mono (fun g hg => ⟨Nat.le_trans HS.out.size hg.1, hg.2⟩)).keep (fun p hp => by
    have h1 := hp.1
    have hcell : ∀ (W : World) (i : Nat) (u : Value), (W.setCell ⟨w.heap.size, i, none⟩ u).cell? p = W.cell? p := fun W i u => World.cell?_setCell_other _ _ _ _ (fun e => by have := congrArg Addr.block e; simp at this; omega)
    rw [hcell, hcell, hcell, hcell]))
  obtain ⟨w6, hw6⟩ : ∃ w6, ((((w5.setCell ⟨w.heap.size, 0, none⟩ (.int .i64 yk)).setCell ⟨w.heap.size, 1, none⟩ (.string yn)).setCell ⟨w.heap.size, 2, none⟩ (.string yt)).setCell ⟨w.heap.size, 3, none⟩ (.slice A5 yl.len c5)) = w6 := ⟨_, rfl⟩
  have hz6 : w5.heap.size = w6.heap.size := by rw [← hw6]; simp
  rw [hz6] at HS6
  rw [hw6] at HR6 HS6 ⊢
  clear hw6 hz6
  obtain ⟨⟨c0, c1⟩, ⟨t0, t1, t2, t3⟩, ⟨g0, g1, g2, g3⟩, ⟨n0, n1⟩, e0, e1⟩ := HR6.out.cells
  have HR7 := Lib.hid (HR6.out.put (k' := yk) (n' := yn) (t' := yt) (A' := A5) (ln' := yl.len) (c' := c5))
  have HK7 : Hid (∀ p : Addr, w.heap.size + 4 ≤ p.block → ((((w6.setCell ⟨w.heap.size, 0, none⟩ (.int .i64 yk)).setCell ⟨w.heap.size, 1, none⟩ (.string yn)).setCell ⟨w.heap.size, 2, none⟩ (.string yt)).setCell ⟨w.heap.size, 3, none⟩ (.slice A5 yl.len c5)).cell? p = w6.cell? p) := Lib.hid (fun p hp => by
    have hcell : ∀ (W : World) (i : Nat) (u : Value), (W.setCell ⟨w.heap.size, i, none⟩ u).cell? p = W.cell? p := fun W i u => World.cell?_setCell_other _ _ _ _ (fun e => by have := congrArg Addr.block e; simp at this; omega)
    rw [hcell, hcell, hcell, hcell])
  refine only_m ?_
  go_region_with (fail)
  all_goals
    dsimp only [onlyM]
    go_wp2_with fail
    refine leaves_cons (f := 77) (args := #[.pointer (some ⟨w.heap.size, 0, none⟩), .pointer (some ⟨w.heap.size + 1, 0, none⟩), .pointer (some ⟨w.heap.size + 1 + 1, 0, none⟩)]) (by simp) (by simp [go_sem]) ?_
    obtain ⟨W, hW⟩ : ∃ W, ((((((w6.setCell ⟨w.heap.size, 0, none⟩ (.int .i64 yk)).setCell ⟨w.heap.size, 1, none⟩ (.string yn)).setCell ⟨w.heap.size, 2, none⟩ (.string yt)).setCell ⟨w.heap.size, 3, none⟩ (.slice A5 yl.len c5)).setCell ⟨w.heap.size + 1, 0, none⟩ (.int .i64 (a3 : Int))).setCell ⟨w.heap.size + 1 + 1, 0, none⟩ (.int .i64 0)).drew = W := ⟨_, rfl⟩
    obtain ⟨⟨x0, x1, x2, x3⟩, x4, x5, hbel, hsz, hkp⟩ := HR7.out.fin (a3 : Int) hW
    rw [hW]
    refine (read_idle _ _ _ _).mono ?_
    rintro e u' w7 ⟨rfl, rfl, rfl⟩
    have hs7 : SlK w7 (fun g => w.heap.size ≤ g ∧ g < w7.heap.size) A5 yl := (HS6.out.keep (fun p hp => (hkp p hp.1).trans (HK7.out p hp.1))).mono (fun g hg => ⟨by have := hg.1; omega, by rw [hsz]; simpa using hg.2⟩)
    simp [Leaves, settle, results, Try.results49, go_sem, x0, x1, x2, x3, x4, x5]
    exact ⟨A5, c5, a3, rfl, HP.out.1, HP.out.2.1, HP.out.2.2, hs7, hbel⟩

end Go.Proofs.Ytlheedcnmfekoaa
